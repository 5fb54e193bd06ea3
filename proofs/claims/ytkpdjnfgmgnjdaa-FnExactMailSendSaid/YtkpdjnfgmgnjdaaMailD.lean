/- Contracts of the functions that send, take and read messages. No conditions but the readings of the arguments. -/
import Derived.Test.YtkpdjnfgmgnjdaaMailC
namespace Go.Proofs.Ytkpdjnfgmgnjdaa
open Go.ChangeShapes Go.WideShapes Go.RowKit
set_option linter.all false
attribute [local go_sem ↓] Go.wp_at_zero Go.wp_at_succ

def sendB (xs : List Mail) (m : Mail) : Bool := mailsOk xs && m.ok && decide (xs.length < 8)
def sendL (xs : List Mail) (m : Mail) : List Mail := if mailsOk xs && m.ok then (if xs.length = 8 then xs else xs ++ [m]) else []

set_option maxHeartbeats 2000000 in
theorem specMailSend_c (xs : List Mail) (m : Mail) (v : Value) (w : World) (hx : RdM w v xs) :
    Calls Try.prog 32 #[v, m.val] w fun e w' => ∃ u, e = .returned (.tuple #[u, .bool (sendB xs m)]) ∧ OwM w.heap.size w' u (sendL xs m) ∧ Below w.heap.size w w' := by
  have HX := Lib.hid hx
  obtain ⟨a, c, rfl, h1, h2, -, h3⟩ := hx
  unfold maxLen at h2
  clear h3
  obtain ⟨f, t, d⟩ := m
  unfold Mail.val
  dsimp only
  cases hv : mailsOk xs
  · have HV := Lib.hid hv
    have r1 := Lib.hid (show sendB xs ⟨f, t, d⟩ = false by simp [sendB, hv])
    have r2 := Lib.hid (show sendL xs ⟨f, t, d⟩ = [] by simp [sendL, hv])
    clear hv
    go_enter Try.func32, Try.ntmps32
    go_wp2_with fail
    refine (specMailsValid_c xs _ _ (HX.out.below ((bref w).alloc (Nat.le_refl _) _))).mono ?_
    rintro e w1 ⟨rfl, hb1⟩
    rw [HV.out]
    replace hb1 : Below w.heap.size w w1 := ((bref w).alloc (Nat.le_refl _) _).trans (hb1.mono (by simp))
    go_wp2
    go_ret2
    rw [r1.out, r2.out]
    exact ⟨_, rfl, (OwT.lit eltMail w1 #[] [] rfl (by simp)).mono hb1.size, hb1.alloc hb1.size _⟩
  · have h8 : xs.length ≤ 8 := by simp [mailsOk] at hv; exact hv.1
    have HV := Lib.hid hv
    clear hv
    cases ho : (⟨f, t, d⟩ : Mail).ok
    · have HO := Lib.hid ho
      have r1 := Lib.hid (show sendB xs ⟨f, t, d⟩ = false by simp [sendB, ho])
      have r2 := Lib.hid (show sendL xs ⟨f, t, d⟩ = [] by simp [sendL, ho])
      clear ho
      go_enter Try.func32, Try.ntmps32
      go_wp2_with fail
      refine (specMailsValid_c xs _ _ (HX.out.below ((bref w).alloc (Nat.le_refl _) _))).mono ?_
      rintro e w1 ⟨rfl, hb1⟩
      rw [HV.out]
      have hs1 := hb1.size
      obtain ⟨k1, k2⟩ := bcell hb1
      simp at hs1
      replace hb1 : Below w.heap.size w w1 := ((bref w).alloc (Nat.le_refl _) _).trans (hb1.mono (by simp))
      go_wp2_with fail
      refine (l23Mail_c ⟨f, t, d⟩ _).mono ?_
      rintro e w2 ⟨rfl, hb2⟩
      rw [HO.out]
      replace hb2 := bnext hb1 hb2
      clear k1 k2
      go_wp2
      go_ret2
      rw [r1.out, r2.out]
      exact ⟨_, rfl, (OwT.lit eltMail w2 #[] [] rfl (by simp)).mono hb2.size, hb2.alloc hb2.size _⟩
    · have HO := Lib.hid ho
      have HV := HV
      by_cases h8e : xs.length = 8
      · have r1 := Lib.hid (show sendB xs ⟨f, t, d⟩ = false by simp [sendB, h8e])
        have r2 := Lib.hid (show sendL xs ⟨f, t, d⟩ = xs by simp [sendL, ho, HV.out, h8e])
        have h8g : 8 ≤ xs.length := by omega
        clear ho h8e
        go_enter Try.func32, Try.ntmps32
        go_wp2_with fail
        refine (specMailsValid_c xs _ _ (HX.out.below ((bref w).alloc (Nat.le_refl _) _))).mono ?_
        rintro e w1 ⟨rfl, hb1⟩
        rw [HV.out]
        have hs1 := hb1.size
        obtain ⟨k1, k2⟩ := bcell hb1
        simp at hs1
        replace hb1 : Below w.heap.size w w1 := ((bref w).alloc (Nat.le_refl _) _).trans (hb1.mono (by simp))
        go_wp2_with fail
        refine (l23Mail_c ⟨f, t, d⟩ _).mono ?_
        rintro e w2 ⟨rfl, hb2⟩
        rw [HO.out]
        have c0 : w2.cell? ⟨w.heap.size, 0, none⟩ = some (.int .i64 f) := by rw [hb2.cell (p := ⟨w.heap.size, 0, none⟩) (by simp; omega), k1 _ _ (by simp)]; simp
        have c1 : w2.cell? ⟨w.heap.size, 1, none⟩ = some (.int .i64 t) := by rw [hb2.cell (p := ⟨w.heap.size, 1, none⟩) (by simp; omega), k1 _ _ (by simp)]; simp
        have c2 : w2.cell? ⟨w.heap.size, 2, none⟩ = some (.int .i64 d) := by rw [hb2.cell (p := ⟨w.heap.size, 2, none⟩) (by simp; omega), k1 _ _ (by simp)]; simp
        have hs2 : w.heap.size < w2.heap.size := by have := hb2.size; omega
        replace hb2 := bnext hb1 hb2
        have HX2 := Lib.hid (HX.out.below hb2)
        clear k1 k2 hs1 hb1 HX
        go_wp2_with (at_builtin; refine append_T eltMail rfl _ _ rfl w.heap.size (.slice (some ⟨w2.heap.size, 0, none⟩) 0 0) (.slice a xs.length c) [] xs rfl rfl (OwT.of_block eltMail (heap_alloc_new w2 _) rfl (by simp) hb2.size) (HX2.out.below ((bref _).alloc (Nat.le_refl _) _)) (by simp; omega) (by have := hb2.size; simp; omega) ?_; intro v' w' ho hg hat hnil)
        go_ret2
        rw [r1.out, r2.out]
        exact ⟨_, rfl, ho, bgrown (hb2.alloc hb2.size _) hg (by have := hb2.size; simp [Value.ownBlock]; omega)⟩
      · have r1 := Lib.hid (show sendB xs ⟨f, t, d⟩ = true by simp [sendB, ho, HV.out]; omega)
        have r2 := Lib.hid (show sendL xs ⟨f, t, d⟩ = xs ++ [⟨f, t, d⟩] by simp [sendL, ho, HV.out, h8e])
        clear ho
        go_enter Try.func32, Try.ntmps32
        go_wp2_with fail
        refine (specMailsValid_c xs _ _ (HX.out.below ((bref w).alloc (Nat.le_refl _) _))).mono ?_
        rintro e w1 ⟨rfl, hb1⟩
        rw [HV.out]
        have hs1 := hb1.size
        obtain ⟨k1, k2⟩ := bcell hb1
        simp at hs1
        replace hb1 : Below w.heap.size w w1 := ((bref w).alloc (Nat.le_refl _) _).trans (hb1.mono (by simp))
        go_wp2_with fail
        refine (l23Mail_c ⟨f, t, d⟩ _).mono ?_
        rintro e w2 ⟨rfl, hb2⟩
        rw [HO.out]
        have c0 : w2.cell? ⟨w.heap.size, 0, none⟩ = some (.int .i64 f) := by rw [hb2.cell (p := ⟨w.heap.size, 0, none⟩) (by simp; omega), k1 _ _ (by simp)]; simp
        have c1 : w2.cell? ⟨w.heap.size, 1, none⟩ = some (.int .i64 t) := by rw [hb2.cell (p := ⟨w.heap.size, 1, none⟩) (by simp; omega), k1 _ _ (by simp)]; simp
        have c2 : w2.cell? ⟨w.heap.size, 2, none⟩ = some (.int .i64 d) := by rw [hb2.cell (p := ⟨w.heap.size, 2, none⟩) (by simp; omega), k1 _ _ (by simp)]; simp
        have hs2 : w.heap.size < w2.heap.size := by have := hb2.size; omega
        replace hb2 := bnext hb1 hb2
        have HX2 := Lib.hid (HX.out.below hb2)
        clear k1 k2 hs1 hb1 HX
        go_wp2
        go_region_held3 (fun w' => w'.cell? ⟨w.heap.size, 0, none⟩ = some (.int .i64 f) ∧ w'.cell? ⟨w.heap.size, 1, none⟩ = some (.int .i64 t) ∧ w'.cell? ⟨w.heap.size, 2, none⟩ = some (.int .i64 d))
          (first | go_keep | (exact ⟨(hb3.cell (p := ⟨w.heap.size, 0, none⟩) hs2).trans c0, (hb3.cell (p := ⟨w.heap.size, 1, none⟩) hs2).trans c1, (hb3.cell (p := ⟨w.heap.size, 2, none⟩) hs2).trans c2⟩) | (exact ⟨(hb4.cell (p := ⟨w.heap.size, 0, none⟩) hs2).trans c0, (hb4.cell (p := ⟨w.heap.size, 1, none⟩) hs2).trans c1, (hb4.cell (p := ⟨w.heap.size, 2, none⟩) hs2).trans c2⟩))
          (first
            | (refine step_append_T eltMail (by rfl) _ _ (by rfl) w2.heap.size _ _ [] xs (by rfl) (by rfl) (by first | exact OwT.of_block eltMail (heap_alloc_new w2 _) rfl (by simp) (Nat.le_refl _) | exact OwT.of_block eltMail (heap_two_old w2 _ _) rfl (by simp) (Nat.le_refl _) | exact OwT.of_block eltMail (heap_two_new w2 _ _) rfl (by simp) (by omega)) (by exact HX2.out.below (by go_grown)) (by simp; omega) (by first | (simp; done) | (simp; omega)) ?_; intro v' w' ho hg hat hnil; have hb3 : Below w2.heap.size w2 w' := by refine bgrown ?_ hg ?_; go_grown; intro k hk; simp [Act.eval, Value.ownBlock] at hk; omega)
            | (refine step_append_T eltMail (by rfl) _ _ (by rfl) w2.heap.size _ _ xs [⟨f, t, d⟩] (by rfl) (by rfl) (by first | exact ho | exact ho.below (by go_grown)) (by first | exact RdT.of_block Mail.enc_len (xs := [⟨f, t, d⟩]) (heap_alloc_new w' _) rfl (by simp) | exact RdT.of_block Mail.enc_len (xs := [⟨f, t, d⟩]) ((hg.block (w2.heap.size + 1) (by simp) (by simp [Act.eval, Value.ownBlock])).trans (heap_two_new w2 _ _)) rfl (by simp) | exact RdT.of_block Mail.enc_len (xs := [⟨f, t, d⟩]) ((hg.block w2.heap.size (by simp; omega) (by simp [Act.eval, Value.ownBlock])).trans (heap_two_old w2 _ _)) rfl (by simp)) (by simp; omega) (by have := hb3.size; first | omega | (simp; omega)) ?_; intro v'' w'' ho2 hg2 hat2 hnil2; have hb4 : Below w2.heap.size w2 w'' := by refine bgrown ?_ hg2 (fun k hk => (World.ownsRow.lt ho k hk).1); first | exact hb3 | exact hb3.alloc hb3.size _))
        all_goals go_wp2
        all_goals go_ret2
        all_goals rw [r1.out, r2.out]
        all_goals exact ⟨_, rfl, ho2.mono hb2.size, hb2.trans (hb4.mono hb2.size)⟩

set_option maxHeartbeats 2000000 in
theorem implMailSend_c (xs : List Mail) (m : Mail) (v : Value) (w : World) (hx : RdM w v xs) :
    Calls Try.prog 31 #[v, m.val] w fun e w' => ∃ u, e = .returned (.tuple #[u, .bool (sendB xs m)]) ∧ OwM w.heap.size w' u (sendL xs m) ∧ Below w.heap.size w w' := by
  have HX := Lib.hid hx
  obtain ⟨a, c, rfl, h1, h2, -, h3⟩ := hx
  unfold maxLen at h2
  clear h3
  obtain ⟨f, t, d⟩ := m
  unfold Mail.val
  dsimp only
  cases hv : mailsOk xs
  · have HV := Lib.hid hv
    have r1 := Lib.hid (show sendB xs ⟨f, t, d⟩ = false by simp [sendB, hv])
    have r2 := Lib.hid (show sendL xs ⟨f, t, d⟩ = [] by simp [sendL, hv])
    clear hv
    go_enter Try.func31, Try.ntmps31
    go_wp2_with fail
    refine (implMailsValid_c xs _ _ (HX.out.below ((bref w).alloc (Nat.le_refl _) _))).mono ?_
    rintro e w1 ⟨rfl, hb1⟩
    rw [HV.out]
    replace hb1 : Below w.heap.size w w1 := ((bref w).alloc (Nat.le_refl _) _).trans (hb1.mono (by simp))
    go_wp2
    go_ret2
    rw [r1.out, r2.out]
    exact ⟨_, rfl, World.ownsRow_nil _ _ _ _, hb1⟩
  · have h8 : xs.length ≤ 8 := by simp [mailsOk] at hv; exact hv.1
    have HV := Lib.hid hv
    clear hv
    cases ho : (⟨f, t, d⟩ : Mail).ok
    · have HO := Lib.hid ho
      have r1 := Lib.hid (show sendB xs ⟨f, t, d⟩ = false by simp [sendB, ho])
      have r2 := Lib.hid (show sendL xs ⟨f, t, d⟩ = [] by simp [sendL, ho])
      clear ho
      go_enter Try.func31, Try.ntmps31
      go_wp2_with fail
      refine (implMailsValid_c xs _ _ (HX.out.below ((bref w).alloc (Nat.le_refl _) _))).mono ?_
      rintro e w1 ⟨rfl, hb1⟩
      rw [HV.out]
      have hs1 := hb1.size
      obtain ⟨k1, k2⟩ := bcell hb1
      simp at hs1
      replace hb1 : Below w.heap.size w w1 := ((bref w).alloc (Nat.le_refl _) _).trans (hb1.mono (by simp))
      go_wp2_with fail
      refine (mailOk_c ⟨f, t, d⟩ _).mono ?_
      rintro e w2 ⟨rfl, hb2⟩
      rw [HO.out]
      have c0 : w2.cell? ⟨w.heap.size, 0, none⟩ = some (.int .i64 f) := by rw [hb2.cell (p := ⟨w.heap.size, 0, none⟩) (by simp; omega), k1 _ _ (by simp)]; simp
      have c1 : w2.cell? ⟨w.heap.size, 1, none⟩ = some (.int .i64 t) := by rw [hb2.cell (p := ⟨w.heap.size, 1, none⟩) (by simp; omega), k1 _ _ (by simp)]; simp
      have c2 : w2.cell? ⟨w.heap.size, 2, none⟩ = some (.int .i64 d) := by rw [hb2.cell (p := ⟨w.heap.size, 2, none⟩) (by simp; omega), k1 _ _ (by simp)]; simp
      have hs2 : w.heap.size < w2.heap.size := by have := hb2.size; omega
      replace hb2 := bnext hb1 hb2
      have HX2 := Lib.hid (HX.out.below hb2)
      clear k1 k2 hs1 hb1 HX
      go_wp2
      go_ret2
      rw [r1.out, r2.out]
      exact ⟨_, rfl, World.ownsRow_nil _ _ _ _, hb2⟩
    · have HO := Lib.hid ho
      by_cases h8e : xs.length = 8
      · have r1 := Lib.hid (show sendB xs ⟨f, t, d⟩ = false by simp [sendB, h8e])
        have r2 := Lib.hid (show sendL xs ⟨f, t, d⟩ = xs by simp [sendL, ho, HV.out, h8e])
        have h8g : ((xs.length : Int) == 8) = true := by rw [beq_iff_eq]; omega
        clear ho h8e
        go_enter Try.func31, Try.ntmps31
        go_wp2_with fail
        refine (implMailsValid_c xs _ _ (HX.out.below ((bref w).alloc (Nat.le_refl _) _))).mono ?_
        rintro e w1 ⟨rfl, hb1⟩
        rw [HV.out]
        have hs1 := hb1.size
        obtain ⟨k1, k2⟩ := bcell hb1
        simp at hs1
        replace hb1 : Below w.heap.size w w1 := ((bref w).alloc (Nat.le_refl _) _).trans (hb1.mono (by simp))
        go_wp2_with fail
        refine (mailOk_c ⟨f, t, d⟩ _).mono ?_
        rintro e w2 ⟨rfl, hb2⟩
        rw [HO.out]
        have c0 : w2.cell? ⟨w.heap.size, 0, none⟩ = some (.int .i64 f) := by rw [hb2.cell (p := ⟨w.heap.size, 0, none⟩) (by simp; omega), k1 _ _ (by simp)]; simp
        have c1 : w2.cell? ⟨w.heap.size, 1, none⟩ = some (.int .i64 t) := by rw [hb2.cell (p := ⟨w.heap.size, 1, none⟩) (by simp; omega), k1 _ _ (by simp)]; simp
        have c2 : w2.cell? ⟨w.heap.size, 2, none⟩ = some (.int .i64 d) := by rw [hb2.cell (p := ⟨w.heap.size, 2, none⟩) (by simp; omega), k1 _ _ (by simp)]; simp
        have hs2 : w.heap.size < w2.heap.size := by have := hb2.size; omega
        replace hb2 := bnext hb1 hb2
        have HX2 := Lib.hid (HX.out.below hb2)
        clear k1 k2 hs1 hb1 HX
        go_wp2_with fail
        refine (cloneMail_c xs _ _ HX2.out (by omega)).mono ?_
        rintro e w3 ⟨u3, rfl, ho3, hb3⟩
        go_wp2
        go_ret2
        rw [r1.out, r2.out]
        exact ⟨_, rfl, ho3.mono hb2.size, bnext hb2 hb3⟩
      · have r1 := Lib.hid (show sendB xs ⟨f, t, d⟩ = true by simp [sendB, ho, HV.out]; omega)
        have r2 := Lib.hid (show sendL xs ⟨f, t, d⟩ = xs ++ [⟨f, t, d⟩] by simp [sendL, ho, HV.out, h8e])
        have h8g : ((xs.length : Int) == 8) = false := by rw [beq_eq_false_iff_ne]; omega
        clear ho h8e
        go_enter Try.func31, Try.ntmps31
        go_wp2_with fail
        refine (implMailsValid_c xs _ _ (HX.out.below ((bref w).alloc (Nat.le_refl _) _))).mono ?_
        rintro e w1 ⟨rfl, hb1⟩
        rw [HV.out]
        have hs1 := hb1.size
        obtain ⟨k1, k2⟩ := bcell hb1
        simp at hs1
        replace hb1 : Below w.heap.size w w1 := ((bref w).alloc (Nat.le_refl _) _).trans (hb1.mono (by simp))
        go_wp2_with fail
        refine (mailOk_c ⟨f, t, d⟩ _).mono ?_
        rintro e w2 ⟨rfl, hb2⟩
        rw [HO.out]
        have c0 : w2.cell? ⟨w.heap.size, 0, none⟩ = some (.int .i64 f) := by rw [hb2.cell (p := ⟨w.heap.size, 0, none⟩) (by simp; omega), k1 _ _ (by simp)]; simp
        have c1 : w2.cell? ⟨w.heap.size, 1, none⟩ = some (.int .i64 t) := by rw [hb2.cell (p := ⟨w.heap.size, 1, none⟩) (by simp; omega), k1 _ _ (by simp)]; simp
        have c2 : w2.cell? ⟨w.heap.size, 2, none⟩ = some (.int .i64 d) := by rw [hb2.cell (p := ⟨w.heap.size, 2, none⟩) (by simp; omega), k1 _ _ (by simp)]; simp
        have hs2 : w.heap.size < w2.heap.size := by have := hb2.size; omega
        replace hb2 := bnext hb1 hb2
        have HX2 := Lib.hid (HX.out.below hb2)
        clear k1 k2 hs1 hb1 HX
        go_wp2
        go_region_held3 (fun w' => w'.cell? ⟨w.heap.size, 0, none⟩ = some (.int .i64 f) ∧ w'.cell? ⟨w.heap.size, 1, none⟩ = some (.int .i64 t) ∧ w'.cell? ⟨w.heap.size, 2, none⟩ = some (.int .i64 d))
          (first | go_keep | (exact ⟨(hb3.cell (p := ⟨w.heap.size, 0, none⟩) hs2).trans c0, (hb3.cell (p := ⟨w.heap.size, 1, none⟩) hs2).trans c1, (hb3.cell (p := ⟨w.heap.size, 2, none⟩) hs2).trans c2⟩) | (exact ⟨(hb4.cell (p := ⟨w.heap.size, 0, none⟩) hs2).trans c0, (hb4.cell (p := ⟨w.heap.size, 1, none⟩) hs2).trans c1, (hb4.cell (p := ⟨w.heap.size, 2, none⟩) hs2).trans c2⟩))
          (first
            | (go_at_call 53; refine (cloneMail_c xs _ _ (HX2.out.below ?_) (by omega)).mono ?_; go_grown; rintro e w3 ⟨u3, rfl, ho3, hb3'⟩; have hb3 : Below w2.heap.size w2 w3 := Below.trans (by go_grown) (hb3'.mono (by first | (simp; done) | (simp; omega))))
            | (refine step_append_T eltMail (by rfl) _ _ (by rfl) w2.heap.size _ _ xs [⟨f, t, d⟩] (by rfl) (by rfl) (by first | exact (ho3.mono (by first | (simp; done) | (simp; omega))).below (by go_grown) | exact ho3.mono (by first | (simp; done) | (simp; omega))) (by first | exact RdT.of_block Mail.enc_len (xs := [⟨f, t, d⟩]) (heap_alloc_new w3 _) rfl (by simp) | exact RdT.of_block Mail.enc_len (xs := [⟨f, t, d⟩]) ((hb3'.block w2.heap.size (by simp)).trans (heap_alloc_new w2 _)) rfl (by simp)) (by simp; omega) (by have := hb3.size; first | omega | (simp; omega)) ?_; intro v'' w'' ho2 hg2 hat2 hnil2; have hb4 : Below w2.heap.size w2 w'' := by refine bgrown ?_ hg2 (fun k hk => Nat.le_trans (by first | (simp; done) | (simp; omega)) (World.ownsRow.lt ho3 k hk).1); first | exact hb3 | exact hb3.alloc hb3.size _))
        all_goals go_wp2
        all_goals go_ret2
        all_goals rw [r1.out, r2.out]
        all_goals exact ⟨_, rfl, ho2.mono hb2.size, hb2.trans (hb4.mono hb2.size)⟩
end Go.Proofs.Ytkpdjnfgmgnjdaa
