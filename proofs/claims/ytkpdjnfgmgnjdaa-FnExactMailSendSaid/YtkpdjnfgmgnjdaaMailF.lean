/- slices.Delete at messages, and impl.MailTake. No conditions but the readings of the arguments. -/
import Derived.Test.YtkpdjnfgmgnjdaaMailE
import Derived.Test.YtkpdjnfgmgnjdaaLibB
namespace Go.Proofs.Ytkpdjnfgmgnjdaa
open Go.ChangeShapes Go.WideShapes Go.RowKit
set_option linter.all false
attribute [local go_sem ↓] Go.wp_at_zero Go.wp_at_succ

theorem zeroMail (w : World) : (zeroValue 31).run Try.prog w = .ok (.agg #[.int .i64 0, .int .i64 0, .int .i64 0]) w := by kernel_rfl

set_option maxHeartbeats 2000000 in
theorem deleteMail_c (xs : List Mail) (base g c k : Nat) (w : World) (hx : OwM base w (.slice (some ⟨g, 0, none⟩) xs.length c) xs) (hk : k < xs.length) :
    Calls Try.prog 56 #[.slice (some ⟨g, 0, none⟩) xs.length c, .int .i64 k, .int .i64 (k + 1)] w fun e w' => ∃ u, e = .returned u ∧ u.ownBlock = some g ∧ OwM base w' u (xs.take k ++ xs.drop (k + 1)) ∧ w.grownBy w' (some g) := by
  have HX := Lib.hid hx
  obtain ⟨-, e1, e2, e3, e4, hfz, hcs⟩ := hx.open Mail.enc_len
  unfold maxLen at e4
  have hne : ((k : Int) == (k : Int) + 1) = false := by rw [beq_eq_false_iff_ne]; omega
  have k0 : (0 : Int) ≤ (k : Int) := by omega
  have k1 : (k : Int) ≤ (c : Int) := by omega
  have k2 : (0 : Int) ≤ (k : Int) + 1 := by omega
  have k3 : (k : Int) + 1 ≤ (xs.length : Int) := by omega
  have k4 : (xs.length : Int) ≤ (c : Int) := by omega
  have k6 : ((k : Int) + 1).toNat = k + 1 := by omega
  clear hfz hcs hx
  go_enter Try.func56, Try.ntmps56
  go_wp2
  go_still_tail 6, (by kernel_rfl)
  change wpList _ _ _ _ _ w.drew
  have hd := (HX.out.rd Mail.enc_len).dropIf hk
  simp only [Nat.zero_add] at hd
  generalize (if c = k + 1 then some (⟨g, 0, none⟩ : Addr) else some ⟨g, (k + 1) * 3, none⟩) = ad at hd ⊢
  have HD := Lib.hid hd
  clear hd
  go_wp2_with (first | (at_builtin; refine append_fits_T eltMail rfl _ _ rfl base g k c (xs.length - (k + 1)) (c - (k + 1)) ad (xs.take k) (xs.drop (k + 1)) rfl rfl (HX.out.cut Mail.enc_len (Nat.le_of_lt hk)) HD.out (by omega) ?_; intro w1 ho1 hg1) | ((with_reducible refine clear_T eltMail zeroMail rfl (by decide) rfl _ rfl base g (k + (xs.length - (k + 1))) c (xs.length - (k + (xs.length - (k + 1)))) (c - (k + (xs.length - (k + 1)))) _ _ rfl rfl (by omega) ho1 (by omega) ?_); intro w2 ho2 hg2))
  go_ret
  have e : k + (xs.length - (k + 1)) = (xs.take k ++ xs.drop (k + 1)).length := by simp; omega
  refine ⟨_, rfl, rfl, ?_, ⟨hg2.os.trans hg1.os, hg2.tape.trans hg1.tape, hg2.output.trans hg1.output, Nat.le_trans hg1.size hg2.size, fun q hq hne => (hg2.block q (Nat.lt_of_lt_of_le hq hg1.size) hne).trans (hg1.block q hq hne)⟩⟩
  exact ho2

theorem isTo_c (m : Mail) (env : Int) (B : Nat) (w : World) (h : w.heap[B]? = some (.cells #[.int .i64 env] 3 (0, 0))) : Calls Try.prog 55 #[m.val, .pointer (some ⟨B, 0, none⟩)] w fun e w' => e = .returned (.bool (decide (m.tu = env))) ∧ Below w.heap.size w w' := by
  obtain ⟨a, b, c⟩ := m
  obtain ⟨c0, -, hlt⟩ := blk1 h
  clear h
  unfold Mail.val
  dsimp only
  go_enter Try.func55, Try.ntmps55
  go_wp2
  go_ret
  exact ⟨ret_bool (by by_cases h : b = env <;> simp [h]), balloc w _⟩

theorem idx_none_iff {α : Type} {p : α → Bool} {xs : List α} : idxOf p xs < 0 ↔ xs.any p = false := by
  unfold idxOf; cases xs.any p <;> simp

theorem idx_some {α : Type} {p : α → Bool} {xs : List α} (h : xs.any p = true) : ∃ k x, idxOf p xs = (k : Nat) ∧ xs[k]? = some x ∧ p x = true ∧ (xs.take k).any p = false := by
  refine ⟨xs.findIdx p, ?_⟩
  have hlt : xs.findIdx p < xs.length := by
    rw [List.findIdx_lt_length]
    obtain ⟨x, hx, hp⟩ := List.any_eq_true.1 h
    exact ⟨x, hx, hp⟩
  refine ⟨xs[xs.findIdx p], by unfold idxOf; rw [if_pos h], List.getElem?_eq_getElem hlt, List.findIdx_getElem, ?_⟩
  rw [List.any_eq_false]
  intro x hx
  obtain ⟨j, hj, rfl⟩ := List.mem_take_iff_getElem.1 hx
  have := List.not_of_lt_findIdx (show j < xs.findIdx p by omega)
  simpa using this

set_option maxHeartbeats 2000000 in
theorem implMailTake_c (xs : List Mail) (env : Int) (v : Value) (w : World) (hx : RdM w v xs) :
    Calls Try.prog 35 #[v, .int .i64 env] w fun e w' => ∃ u, e = .returned (.tuple #[u, (takeM xs env).val, .bool (takeB xs env)]) ∧ OwM w.heap.size w' u (takeL xs env) ∧ Below w.heap.size w w' := by
  have HX := Lib.hid hx
  obtain ⟨a, c, rfl, h1, h2, h0, h3⟩ := hx
  have H3 := Lib.hid h3
  unfold maxLen at h2
  clear h3 h0
  have hmk : ∀ (a : Array Value) (w : World), True := fun _ _ => trivial
  clear hmk
  cases hv : mailsOk xs
  · have HV := Lib.hid hv
    have r1 := Lib.hid (show takeB xs env = false by simp [takeB, hv])
    have r2 := Lib.hid (show takeL xs env = [] by simp [takeL, hv])
    have r3 := Lib.hid (show takeM xs env = ⟨0, 0, 0⟩ by simp [takeM, r1.out])
    clear hv
    go_enter Try.func35, Try.ntmps35
    go_wp2_with fail
    refine (implMailsValid_c xs _ _ (HX.out.below (bnext (balloc w _) (balloc _ _)))).mono ?_
    rintro e w1 ⟨rfl, hb1⟩
    rw [HV.out]
    obtain ⟨c0, c1, c2, f0, f1, f2, hs⟩ := blk3 (bkept hb1 (heap_two_new _ _ _))
    replace hb1 := bnext (bnext (balloc w _) (balloc _ _)) hb1
    go_wp2
    refine bodyPost_ret (v := .tuple #[.slice none 0 0, .agg #[.int .i64 0, .int .i64 0, .int .i64 0], .bool false]) ?_ rfl ?_
    · simp [results, Try.results35, go_sem, hs, c0, c1, c2]
    · rw [r1.out, r2.out, r3.out]
      exact ⟨_, rfl, World.ownsRow_nil _ _ _ _, bset (bset (bset hb1 (Nat.le_succ _)) (Nat.le_succ _)) (Nat.le_succ _)⟩
  · have h8 : xs.length ≤ 8 := by simp [mailsOk] at hv; exact hv.1
    have HV := Lib.hid hv
    clear hv
    generalize hp : (fun m : Mail => decide (m.tu = env)) = p
    have HP := Lib.hid hp
    cases ha : xs.any p
    · obtain ⟨t1, t2, t3⟩ := take_none (xs := xs) (env := env) HV.out (by rw [hp]; exact ha)
      have HT1 := Lib.hid t1
      have HT2 := Lib.hid t2
      have HT3 := Lib.hid t3
      have hidx : idxOf p xs < 0 := idx_none_iff.2 ha
      clear t1 t2 t3 ha hp
      go_enter Try.func35, Try.ntmps35
      go_wp2_with fail
      refine (implMailsValid_c xs _ _ (HX.out.below (bnext (balloc w _) (balloc _ _)))).mono ?_
      rintro e w1 ⟨rfl, hb1⟩
      rw [HV.out]
      have HB := Lib.hid (bkept hb1 (heap_two_new _ _ _))
      have HE := Lib.hid (bkept hb1 (heap_two_old _ _ _))
      have hs1 : w.heap.size + 1 < w1.heap.size := by have := hb1.size; simp at this; omega
      replace hb1 := bnext (bnext (balloc w _) (balloc _ _)) hb1
      go_wp2_with fail
      refine (cloneMail_c xs _ _ (HX.out.below hb1) (by omega)).mono ?_
      rintro e w2 ⟨u2, rfl, ho2, hb2⟩
      have HB2 := Lib.hid (bkept hb2 HB.out)
      have HE2 := Lib.hid (bkept hb2 HE.out)
      have HO2 := Lib.hid ho2
      replace hb2 := bnext hb1 hb2
      clear HB HE ho2
      go_wp2_with fail
      refine (idxMail_c 55 #[.pointer (some ⟨w.heap.size, 0, none⟩)] p xs _ _ (HX.out.below hb2) (enters_of Try.func55 (by kernel_rfl) rfl) (fun m W hbW => by rw [← HP.out]; exact isTo_c m env _ W (bkept hbW HE2.out))).mono ?_
      rintro e w3 ⟨rfl, hb3⟩
      obtain ⟨c0, c1, c2, f0, f1, f2, hs⟩ := blk3 (bkept hb3 HB2.out)
      have HO3 := Lib.hid (HO2.out.below hb3)
      replace hb3 := bnext hb2 hb3
      clear HB2 HE2 HO2 hb2
      go_wp2
      refine bodyPost_ret (v := .tuple #[u2, .agg #[.int .i64 0, .int .i64 0, .int .i64 0], .bool false]) ?_ rfl ?_
      · simp [results, Try.results35, go_sem, hs, c0, c1, c2]
      · rw [HT1.out, HT2.out, HT3.out]
        refine ⟨_, rfl, ?_, bset (bset (bset hb3 (Nat.le_succ _)) (Nat.le_succ _)) (Nat.le_succ _)⟩
        refine OwT.set (OwT.set (OwT.set (HO3.out.mono hb1.size) _ _ ?_) _ _ ?_) _ _ ?_
        all_goals exact .inr fun q hq => by have := (World.ownsRow.lt HO3.out q hq).1; simp; omega
    · obtain ⟨k, m, hki, hm, hpm, hany⟩ := idx_some ha
      have he : m.tu = env := by rw [← hp] at hpm; simpa using hpm
      obtain ⟨t1, t2, t3⟩ := take_some (xs := xs) (env := env) HV.out hm (by rw [hp]; exact hany) he
      have HT1 := Lib.hid t1
      have HT2 := Lib.hid t2
      have HT3 := Lib.hid t3
      have HK := Lib.hid hki
      have hlt : k < xs.length := (List.getElem?_eq_some_iff.1 hm).1
      obtain ⟨b, o, rfl, hbl, hc⟩ := H3.out k m hm
      have C0 : w.cell? ⟨b, o + k * 3, none⟩ = some (.int .i64 m.fr) := hc 0 _ rfl
      have C1 : w.cell? ⟨b, o + k * 3 + 1, none⟩ = some (.int .i64 m.tu) := hc 1 _ rfl
      have C2 : w.cell? ⟨b, o + k * 3 + 2, none⟩ = some (.int .i64 m.wd) := hc 2 _ rfl
      clear t1 t2 t3 ha hp he hki hany hpm hm hc
      go_enter Try.func35, Try.ntmps35
      go_wp2_with fail
      refine (implMailsValid_c xs _ _ (HX.out.below (bnext (balloc w _) (balloc _ _)))).mono ?_
      rintro e w1 ⟨rfl, hb1⟩
      rw [HV.out]
      have HB := Lib.hid (bkept hb1 (heap_two_new _ _ _))
      have HE := Lib.hid (bkept hb1 (heap_two_old _ _ _))
      have hs1 : w.heap.size + 1 < w1.heap.size := by have := hb1.size; simp at this; omega
      replace hb1 := bnext (bnext (balloc w _) (balloc _ _)) hb1
      go_wp2_with fail
      refine (cloneMail_c xs _ _ (HX.out.below hb1) (by omega)).mono ?_
      rintro e w2 ⟨u2, rfl, ho2, hb2⟩
      have HB2 := Lib.hid (bkept hb2 HB.out)
      have HE2 := Lib.hid (bkept hb2 HE.out)
      have HO2 := Lib.hid ho2
      replace hb2 := bnext hb1 hb2
      clear HB HE ho2
      go_wp2_with fail
      refine (idxMail_c 55 #[.pointer (some ⟨w.heap.size, 0, none⟩)] p xs _ _ (HX.out.below hb2) (enters_of Try.func55 (by kernel_rfl) rfl) (fun m W hbW => by rw [← HP.out]; exact isTo_c m env _ W (bkept hbW HE2.out))).mono ?_
      rintro e w3 ⟨rfl, hb3⟩
      rw [HK.out]
      have HB3 := Lib.hid (bkept hb3 HB2.out)
      have ho3 := HO2.out.below hb3
      replace hb3 := bnext hb2 hb3
      have c0 := (hb3.cell (p := ⟨b, o + k * 3, none⟩) hbl).trans C0
      have c1 := (hb3.cell (p := ⟨b, o + k * 3 + 1, none⟩) hbl).trans C1
      have c2 := (hb3.cell (p := ⟨b, o + k * 3 + 2, none⟩) hbl).trans C2
      rcases ho3.2 with ⟨-, hz⟩ | ⟨g, cap, cur, rfl, hg0, -⟩
      · omega
      have HO3 := Lib.hid ho3
      have k0 : (0 : Int) ≤ (k : Int) := by omega
      have k1 : (k : Int) < (xs.length : Int) := by omega
      have k5 : IntKind.i64.wrap ((k : Int) + 1) = (k : Int) + 1 := Go.IntWalk.i64_in _ (by omega)
      clear HB2 HE2 HO2 hb2 ho3 C0 C1 C2
      go_wp2
      go_region_held3 (fun w' => w'.cell? ⟨b, o + k * 3, none⟩ = some (.int .i64 m.fr) ∧ w'.cell? ⟨b, o + k * 3 + 1, none⟩ = some (.int .i64 m.tu) ∧ w'.cell? ⟨b, o + k * 3 + 2, none⟩ = some (.int .i64 m.wd))
        (first | go_keep | (exact ⟨E0, E1, E2⟩) | (exact ⟨(cell_set3 _ _ _ _ _ _ _ hbne).trans E0, (cell_set3 _ _ _ _ _ _ _ hbne).trans E1, (cell_set3 _ _ _ _ _ _ _ hbne).trans E2⟩) | fail)
        ((go_at_call 56; refine (deleteMail_c xs w1.heap.size g cap k _ (by exact HO3.out) hlt).mono ?_; rintro e w4 ⟨u4, rfl, hu4, ho4, hg4⟩; have hne1 : b ≠ g := (by have := hb1.size; omega); have hbne : b ≠ w.heap.size + 1 := (by omega); have hbl3 : b < w3.heap.size := (by have := hb3.size; omega); have E0 : w4.cell? ⟨b, o + k * 3, none⟩ = some (.int .i64 m.fr) := (World.cell?_of_block (hg4.block b hbl3 (by simpa using hne1))).trans c0; have E1 : w4.cell? ⟨b, o + k * 3 + 1, none⟩ = some (.int .i64 m.tu) := (World.cell?_of_block (hg4.block b hbl3 (by simpa using hne1))).trans c1; have E2 : w4.cell? ⟨b, o + k * 3 + 2, none⟩ = some (.int .i64 m.wd) := (World.cell?_of_block (hg4.block b hbl3 (by simpa using hne1))).trans c2; obtain ⟨D0, D1, D2, F0, F1, F2, hs4⟩ := blk3 (gkept hg4 HB3.out (by simp; omega))))
      go_wp2
      refine bodyPost_ret (v := .tuple #[u4, .agg #[.int .i64 m.fr, .int .i64 m.tu, .int .i64 m.wd], .bool true]) ?_ rfl ?_
      · simp [results, Try.results35, go_sem, hs4, D0, D1, D2]
      · rw [HT1.out, HT2.out, HT3.out]
        have hb4 : Below w.heap.size w w4 := bgrown hb3.drew hg4 (by intro q hq; simp at hq; have := hb1.size; omega)
        refine ⟨_, rfl, ?_, bset (bset (bset hb4 (Nat.le_succ _)) (Nat.le_succ _)) (Nat.le_succ _)⟩
        refine OwT.set (OwT.set (OwT.set (ho4.mono hb1.size) _ _ ?_) _ _ ?_) _ _ ?_
        all_goals exact .inr fun q hq => by rw [hu4] at hq; simp at hq; simp; omega
end Go.Proofs.Ytkpdjnfgmgnjdaa
