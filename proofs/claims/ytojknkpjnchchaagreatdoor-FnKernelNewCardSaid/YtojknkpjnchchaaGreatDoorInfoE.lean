/- Contracts of the functions that check what is known of frames. No conditions but the readings of the arguments and the sizes of the texts. -/
import Derived.Test.YtojknkpjnchchaaGreatDoorGInfo
import Derived.Test.YtojknkpjnchchaaGreatDoorGStr
import Derived.Test.YtojknkpjnchchaaGreatDoorRightC
namespace Go.Proofs.YtojknkpjnchchaaGreatDoor
open Go.ChangeShapes Go.WideShapes Go.RowKit
set_option linter.all false
set_option maxRecDepth 100000
attribute [local go_sem ↓] Go.wp_at_zero Go.wp_at_succ

theorem eqlInfo0 (m : Info) (w : World) : (binOp .eql 73 (.agg #[.int .i64 m.kd, tv m.gd, .int .i64 m.rf]) (.agg #[.int .i64 0, .string ⟨#[]⟩, .int .i64 0])).run Tryz.prog w = .ok (.bool (decide (m = Info.zero))) w := eqlInfo m Info.zero w
theorem neqInfo0 (m : Info) (w : World) : (binOp .neq 73 (.agg #[.int .i64 m.kd, tv m.gd, .int .i64 m.rf]) (.agg #[.int .i64 0, .string ⟨#[]⟩, .int .i64 0])).run Tryz.prog w = .ok (.bool (!decide (m = Info.zero))) w := neqInfo m Info.zero w

theorem implInfoOk_c (m : Info) (w : World) (hm : m.gd.length ≤ 9223372036854775807) : Calls Tryz.prog 100 #[m.val] w fun e w' => e = .returned (.bool (infoOk m)) ∧ Below w.heap.size w w' := by
  have hne := eqlInfo0 m
  have hgd := guardInfo
  have HI := Lib.hid (show infoOk m = (decide (m = Info.zero) || (btw 1 m.kd 3 && rightOk m.gd && btw 0 m.rf 50)) from rfl)
  by_cases hz : m = Info.zero
  · have HZ := Lib.hid (decide_eq_true hz)
    rw [decide_eq_true hz] at hne
    clear hz
    obtain ⟨a, b, c⟩ := m
    unfold Info.val
    dsimp only at hm hne HI ⊢
    go_enter Tryz.func100, Tryz.ntmps100
    go_wp2
    go_ret
    exact ⟨ret_bool (by rw [HI.out, HZ.out]; rfl), by go_grown⟩
  have HZ := Lib.hid (decide_eq_false hz)
  rw [decide_eq_false hz] at hne
  clear hz
  obtain ⟨a, b, c⟩ := m
  unfold Info.val
  dsimp only at hm hne HI ⊢
  cases h1 : btw 1 a 3
  · have H1 := Lib.hid h1
    clear h1
    go_enter Tryz.func100, Tryz.ntmps100
    go_wp2_with fail
    refine (within_c _ _ _ _).mono ?_
    rintro e w1 ⟨rfl, rfl⟩
    rw [H1.out]
    go_wp2
    go_ret
    exact ⟨ret_bool (by rw [HI.out, HZ.out, H1.out]; rfl), by go_grown⟩
  cases h2 : rightOk b
  all_goals
    have H1 := Lib.hid h1
    have H2 := Lib.hid h2
    clear h1 h2
    have hcl := heap_alloc_new w (.cells #[.int .i64 a, tv b, .int .i64 c] 73)
    have hc2 : (w.alloc (.cells #[.int .i64 a, tv b, .int .i64 c] 73)).cell? ⟨w.heap.size, 2, none⟩ = some (.int .i64 c) := by simp only [World.cell?]; rw [hcl]; rfl
    have hzz : w.heap.size < (w.alloc (.cells #[.int .i64 a, tv b, .int .i64 c] 73)).heap.size := by simp
    have HC2 := Lib.hid hc2
    clear hcl hc2
    go_enter Tryz.func100, Tryz.ntmps100
    go_wp2_with fail
    refine (within_c _ _ _ _).mono ?_
    rintro e w1 ⟨rfl, rfl⟩
    rw [H1.out]
    go_wp2_with fail
    refine (implRightValid_c b _ hm).mono ?_
    rintro e w2 ⟨rfl, hb2⟩
    rw [H2.out]
    have hb3 := bthen hb2
    have c2 := (hb2.cell (p := ⟨w.heap.size, 2, none⟩) hzz).trans HC2.out
  · go_wp2
    go_ret
    exact ⟨ret_bool (by rw [HI.out, HZ.out, H1.out, H2.out]; rfl), hb3⟩
  · go_wp2_with fail
    refine (within_c _ _ _ _).mono ?_
    rintro e w3 ⟨rfl, rfl⟩
    go_wp2
    go_ret
    exact ⟨ret_bool (by rw [HI.out, HZ.out, H1.out, H2.out]; simp), hb3⟩

theorem l12Info_c (m : Info) (w : World) (hm : m.gd.length ≤ 9223372036854775807) : Calls Tryz.prog 83 #[m.val] w fun e w' => e = .returned (.bool (infoOk m)) ∧ Below w.heap.size w w' := by
  have hne := eqlInfo0 m
  have hgd := guardInfo
  have HI := Lib.hid (show infoOk m = (decide (m = Info.zero) || (btw 1 m.kd 3 && rightOk m.gd && btw 0 m.rf 50)) from rfl)
  by_cases hk : m.kd = 0
  · have HB := Lib.hid (show btw 1 m.kd 3 = false by rw [hk]; decide)
    have hkb : (m.kd == 0) = true := beq_iff_eq.2 hk
    clear hk
    generalize hd : decide (m = Info.zero) = d at hne HI
    clear hd
    obtain ⟨a, b, c⟩ := m
    unfold Info.val
    dsimp only at hm hne HI HB hkb ⊢
    go_enter Tryz.func83, Tryz.ntmps83
    go_wp2
    go_ret
    exact ⟨ret_bool (by rw [HI.out, HB.out]; simp), by go_grown⟩
  have HZ := Lib.hid (show decide (m = Info.zero) = false by rw [decide_eq_false_iff_not]; rintro rfl; exact hk rfl)
  have hkb : (m.kd == 0) = false := beq_eq_false_iff_ne.2 hk
  clear hk hne
  obtain ⟨a, b, c⟩ := m
  unfold Info.val
  dsimp only at hm HI hkb ⊢
  cases h1 : btw 1 a 3
  · have H1 := Lib.hid h1
    clear h1
    go_enter Tryz.func83, Tryz.ntmps83
    go_wp2_with fail
    refine (l6In_c _ _ _ _).mono ?_
    rintro e w1 ⟨rfl, rfl⟩
    rw [H1.out]
    go_wp2
    go_ret
    exact ⟨ret_bool (by rw [HI.out, HZ.out, H1.out]; rfl), by go_grown⟩
  cases h2 : rightOk b
  all_goals
    have H1 := Lib.hid h1
    have H2 := Lib.hid h2
    clear h1 h2
    go_enter Tryz.func83, Tryz.ntmps83
    go_wp2_with fail
    refine (l6In_c _ _ _ _).mono ?_
    rintro e w1 ⟨rfl, rfl⟩
    rw [H1.out]
    go_wp2_with fail
    refine (specRightValid_c b _ hm).mono ?_
    rintro e w2 ⟨rfl, rfl⟩
    rw [H2.out]
  · go_wp2
    go_ret
    exact ⟨ret_bool (by rw [HI.out, HZ.out, H1.out, H2.out]; rfl), by go_grown⟩
  · go_wp2_with fail
    refine (l6In_c _ _ _ _).mono ?_
    rintro e w3 ⟨rfl, rfl⟩
    go_wp2
    go_ret
    exact ⟨ret_bool (by rw [HI.out, HZ.out, H1.out, H2.out]; simp), by go_grown⟩

theorem notInfoOk_c (m : Info) (w : World) (hm : m.gd.length ≤ 9223372036854775807) : Calls Tryz.prog 99 #[m.val] w fun e w' => e = .returned (.bool (!infoOk m)) ∧ Below w.heap.size w w' := by
  have hcon := Lib.hid (fun W => implInfoOk_c m W hm)
  obtain ⟨a, b, c⟩ := m
  unfold Info.val at hcon ⊢
  dsimp only at hcon ⊢
  go_enter Tryz.func99, Tryz.ntmps99
  go_wp2_with fail
  refine (hcon.out _).mono ?_
  rintro e w1 ⟨rfl, hb⟩
  go_wp2
  go_ret
  exact ⟨rfl, bthen hb⟩

theorem all_not_any (xs : List Info) : (!(xs.any fun x => !infoOk x)) = xs.all infoOk := by
  rw [List.not_any_eq_all_not]; simp

theorem implInfosValid_c (xs : List Info) (v : Value) (w : World) (hx : RdF w v xs) (hf : fitF xs) :
    Calls Tryz.prog 42 #[v] w fun e w' => e = .returned (.bool (infosOk xs)) ∧ Below w.heap.size w w' := by
  have hx' := hx
  obtain ⟨a, c, rfl, h1, h2, -, h3⟩ := hx
  unfold maxLen at h2
  have HX := Lib.hid hx'
  have HO := Lib.hid (show infosOk xs = (decide (xs.length = 12) && !(xs.any fun x => !infoOk x)) by rw [all_not_any]; rfl)
  generalize hq : (xs.any fun x => !infoOk x) = q at HO
  have HQ := Lib.hid hq
  clear hx' h3 hq
  by_cases h8 : xs.length = 12
  · have h8g : ((xs.length : Int) == 12) = true := by rw [beq_iff_eq]; omega
    have hp : ∀ (k : Nat) (m : Info) (p : Bool) W, xs[k]? = some m → (xs.map fun x => !infoOk x)[k]? = some p → Below w.heap.size w W → Calls Tryz.prog 99 (#[m.val] ++ #[]) W fun e W' => e = .returned (.bool p) ∧ Below W.heap.size W W' := by
      intro k m p W hm hp _
      have := get_map hm hp
      subst this
      exact notInfoOk_c m W (hf m (List.mem_of_getElem? hm))
    have HPP := Lib.hid hp
    have HLL := Lib.hid (show (xs.map fun x => !infoOk x).length = xs.length by simp)
    clear hp
    have HE := enters_of (P := Tryz.prog) (f := 99) Tryz.func99 (by kernel_rfl) rfl
    have HC := Lib.hid (hasInfo_c 99 #[] (xs.map fun x => !infoOk x) xs (.slice a xs.length c) w HLL.out HX.out HE HPP.out)
    have H8 := Lib.hid h8
    clear HE h8
    go_enter Tryz.func42, Tryz.ntmps42
    go_wp2_with fail
    refine HC.out.mono ?_
    rintro e w' ⟨rfl, hb⟩
    rw [any_map_id, HQ.out]
    go_wp2
    go_ret
    exact ⟨ret_bool (by rw [HO.out]; simp [H8.out]), hb⟩
  · have h8g : ((xs.length : Int) == 12) = false := by rw [beq_eq_false_iff_ne]; omega
    go_enter Tryz.func42, Tryz.ntmps42
    go_wp2
    go_ret
    exact ⟨ret_bool (by rw [HO.out]; simp [h8]), Below.refl _ _⟩

theorem infosOk_bad {xs : List Info} {k : Nat} {m : Info} (hm : xs[k]? = some m) (h : infoOk m = false) : infosOk xs = false := by
  cases hr : infosOk xs
  · rfl
  · rw [infosOk_all hr (List.mem_of_getElem? hm)] at h; cases h
theorem infosOk_good {xs : List Info} {k : Nat} (hk : xs.length ≤ k) (h : (xs.take k).all infoOk = true) : infosOk xs = decide (xs.length = 12) := by
  rw [List.take_of_length_le hk] at h
  simp [infosOk, h]

theorem specInfosValid_c (xs : List Info) (v : Value) (w : World) (hx : RdF w v xs) (hf : fitF xs) :
    Calls Tryz.prog 31 #[v] w fun e w' => e = .returned (.bool (infosOk xs)) ∧ Below w.heap.size w w' := by
  obtain ⟨a, c, rfl, h1, h2, -, h3⟩ := hx
  have H3 := Lib.hid h3
  have HF := Lib.hid hf
  obtain ⟨n, hn⟩ : ∃ n, n = xs.length := ⟨_, rfl⟩
  rw [← hn] at h1 ⊢
  have HN := Lib.hid hn
  clear h3 hf hn
  unfold maxLen at h2
  go_enter Tryz.func31, Tryz.ntmps31
  go_wp2
  go_loopw [3] (fun i wr => ∃ k : Nat, k ≤ n ∧ i = .int .i64 k ∧ Below w.heap.size w wr ∧ Hid ((xs.take k).all infoOk = true)) (fun i _ => n - (intOf i).toNat)
  case atStart => exact ⟨0, Nat.zero_le _, rfl, Below.refl _ _, by simp [Hid]⟩
  case round =>
    obtain ⟨k, hk, rfl, hb, heq⟩ := hrel
    by_cases hlt : k < n
    · obtain ⟨m, hm⟩ : ∃ m, xs[k]? = some m := ⟨_, List.getElem?_eq_getElem (by have := HN.out; omega)⟩
      obtain ⟨b, o, rfl, hbl, hc⟩ := H3.out k m hm
      have c0 := (hb.cell (p := ⟨b, o + k * 3 + 0, none⟩) hbl).trans (hc 0 _ rfl)
      have c1 := (hb.cell (p := ⟨b, o + k * 3 + 1, none⟩) hbl).trans (hc 1 _ rfl)
      have c2 := (hb.cell (p := ⟨b, o + k * 3 + 2, none⟩) hbl).trans (hc 2 _ rfl)
      simp only [Nat.add_zero] at c0
      have hml := HF.out m (List.mem_of_getElem? hm)
      have HM := Lib.hid hm
      clear hc hm
      cases hpm : infoOk m
      all_goals
        have HE := Lib.hid hpm
        clear hpm
        go_wp2_with fail
        refine (l12Info_c m _ hml).mono ?_
        rintro e w' ⟨rfl, hb2⟩
        rw [HE.out]
        have hb3 := bnext hb hb2
        go_wp2
      · go_ret
        exact ⟨ret_bool (infosOk_bad HM.out HE.out).symm, hb3⟩
      · go_roundw
        case rel => exact ⟨k + 1, by omega, by go_num, hb3, all_take_succ HM.out heq.out HE.out⟩
        case measure => simp [intOf]; omega
    · go_wp2
      go_ret
      exact ⟨ret_bool (by rw [infosOk_good (by have := HN.out; omega) heq.out, ← HN.out]; first | rfl | (by_cases h12 : n = 12 <;> simp [h12] <;> omega)), hb⟩
end Go.Proofs.YtojknkpjnchchaaGreatDoor
