/- Contracts of the checks of a swap. No conditions but the readings of the arguments. -/
import Derived.Test.YtppbhlocnccpnaaSwapC
namespace Go.Proofs.Ytppbhlocnccpnaa
open Go.ChangeShapes Go.WideShapes Go.RowKit
set_option linter.all false
attribute [local go_sem ↓] Go.wp_at_zero Go.wp_at_succ

set_option maxHeartbeats 1000000 in
theorem idxRow_c (g : Nat) (lb : Array Value) (ps : List Bool) (xs : List Sl) (v : Value) (w : World) (hl : ps.length = xs.length) (hx : RdT encL 1 w v xs)
    (hg : ∀ (args : Array Value) (w : World), (callFunc g args).run Try.prog w = .ok (.enter g args) w)
    (hp : ∀ (k : Nat) (m : Sl) (p : Bool) W, xs[k]? = some m → ps[k]? = some p → Below w.heap.size w W → Calls Try.prog g (#[slv m] ++ lb) W fun e W' => e = .returned (.bool p) ∧ Below W.heap.size W W') :
    Calls Try.prog 50 #[v, .func (.func g) #[] lb] w fun e w' =>
    e = .returned (.int .i64 (idxOf id ps)) ∧ Below w.heap.size w w' := by
  obtain ⟨a, c, rfl, h1, h2, -, h3⟩ := hx
  have H3 := Lib.hid h3
  have HP := Lib.hid hp
  have HL := Lib.hid hl
  clear h3 hp hl
  unfold maxLen at h2
  go_enter Try.func50, Try.ntmps50
  go_wp2
  go_loopw [8] (fun i wr => ∃ k : Nat, k ≤ xs.length ∧ i = .int .i64 k ∧ Below w.heap.size w wr ∧ Hid ((ps.take k).any id = false)) (fun i _ => xs.length - (intOf i).toNat)
  case atStart => exact ⟨0, Nat.zero_le _, rfl, Below.refl _ _, by simp [Hid]⟩
  case round =>
    obtain ⟨k, hk, rfl, hb, heq⟩ := hrel
    by_cases hlt : k < xs.length
    · obtain ⟨m, hm⟩ : ∃ m, xs[k]? = some m := ⟨_, List.getElem?_eq_getElem hlt⟩
      obtain ⟨p, hpk⟩ : ∃ p, ps[k]? = some p := ⟨_, List.getElem?_eq_getElem (by rw [HL.out]; exact hlt)⟩
      obtain ⟨b, o, rfl, hbl, hc⟩ := H3.out k m hm
      have c0 := (hb.cell (p := ⟨b, o + k * 1 + 0, none⟩) hbl).trans (hc 0 _ rfl)
      simp only [Nat.add_zero, Nat.mul_one] at c0
      have HM := Lib.hid hm
      have HQ := Lib.hid hpk
      clear hc hm hpk
      cases p
      all_goals
        go_wp2_with fail
        refine (HP.out k m _ _ HM.out HQ.out hb).mono ?_
        rintro e w' ⟨rfl, hb2⟩
        have hb3 := hb.trans (hb2.mono hb.size)
        go_wp2
      · go_roundw
        case rel => exact ⟨k + 1, by omega, by go_num, hb3, any_take_succ HQ.out heq rfl⟩
        case measure => simp [intOf]; omega
      · go_ret
        exact ⟨ret_int (idxOf_at HQ.out heq rfl).symm, hb3⟩
    · go_wp2
      go_ret
      exact ⟨ret_int (idxOf_none (k := k) (by rw [HL.out]; omega) heq.out).symm, hb⟩

theorem hasRow_c (g : Nat) (lb : Array Value) (ps : List Bool) (xs : List Sl) (v : Value) (w : World) (hl : ps.length = xs.length) (hx : RdT encL 1 w v xs)
    (hg : ∀ (args : Array Value) (w : World), (callFunc g args).run Try.prog w = .ok (.enter g args) w)
    (hp : ∀ (k : Nat) (m : Sl) (p : Bool) W, xs[k]? = some m → ps[k]? = some p → Below w.heap.size w W → Calls Try.prog g (#[slv m] ++ lb) W fun e W' => e = .returned (.bool p) ∧ Below W.heap.size W W') :
    Calls Try.prog 37 #[v, .func (.func g) #[] lb] w fun e w' =>
    e = .returned (.bool (ps.any id)) ∧ Below w.heap.size w w' := by
  have HL := Lib.hid hl
  have HG := Lib.hid hg
  have HP := Lib.hid hp
  clear hg hp hl
  have hid : decide (0 ≤ idxOf id ps) = ps.any id := by unfold idxOf; cases ps.any id <;> simp
  have HD := Lib.hid hid
  clear hid
  go_enter Try.func37, Try.ntmps37
  go_wp2_with (go_at_call 50; refine (idxRow_c g lb ps xs v _ HL.out hx HG.out HP.out).mono ?_; rintro e w' ⟨rfl, hb⟩)
  go_ret
  exact ⟨ret_bool HD.out, hb⟩

theorem cloneRow_c (xs : List Sl) (v : Value) (w : World) (hx : RdT encL 1 w v xs) (hl : xs.length ≤ 2000000) :
    Calls Try.prog 56 #[v] w fun e w' => ∃ u, e = .returned u ∧ OwT encL 1 29 w.heap.size w' u xs ∧ Below w.heap.size w w' := by
  have hx' := Lib.hid hx
  obtain ⟨a, c, rfl, h1, h2, h0, h3⟩ := hx
  cases a with
  | none =>
    have hc := h0 rfl
    subst hc
    have hy : xs = [] := List.eq_nil_of_length_eq_zero (by omega)
    subst hy
    have he := fun w => Lib.run_eql_slice_nil (P := Try.prog) w 22
    go_enter Try.func56, Try.ntmps56
    go_wp2
    go_ret
    exact ⟨_, rfl, World.ownsRow_nil _ _ _ _, Below.refl _ _⟩
  | some ad =>
    have he := fun w => Lib.run_eql_slice_nil (P := Try.prog) w 22
    clear h3 h0
    go_enter Try.func56, Try.ntmps56
    go_wp2_with (at_builtin; refine append_T eltSl rfl _ _ rfl w.heap.size (.slice (some ⟨w.heap.size, 0, none⟩) 0 0) (.slice (some ad) xs.length c) [] xs rfl rfl (OwT.lit eltSl _ #[] [] rfl (by simp)) (hx'.out.below ((Below.refl _ _).alloc (Nat.le_refl _) _)) (by simp; omega) (by simp) ?_; intro v' w' ho hg hat hnil)
    go_ret
    exact ⟨_, rfl, ho, ((Below.refl _ _).alloc (Nat.le_refl _) _).grown hg (by simp) (by simp [Value.ownBlock])⟩


/-- A place of a swap is neither free nor good. -/
def badRow (xs : List Int) : Bool := decide (0 < xs.length) && !wordsOk xs
/-- A swap is valid. -/
def swapOk (xss : List (List Int)) : Bool := decide (xss.length = 16) && !(xss.any badRow)
theorem swapOk_len {xss : List (List Int)} (h : swapOk xss = true) : xss.length = 16 := by simp [swapOk] at h; exact h.1
theorem swapOk_row {xss : List (List Int)} (h : swapOk xss = true) {k : Nat} {xs : List Int} (hx : xss[k]? = some xs) : xs.length ≤ 4 := by
  simp only [swapOk, Bool.and_eq_true, decide_eq_true_eq, Bool.not_eq_true', List.any_eq_false] at h
  have := h.2 xs (List.mem_of_getElem? hx)
  by_cases h0 : 0 < xs.length
  · cases hw : wordsOk xs
    · exact absurd (by simp [badRow, h0, hw]) this
    · rw [wordsOk_len hw]; exact Nat.le_refl _
  · omega

theorem badRow_c (xs : List Int) (v : Value) (w : World) (hx : RdI w v xs) :
    Calls Try.prog 38 #[v] w fun e w' => e = .returned (.bool (badRow xs)) ∧ Below w.heap.size w w' := by
  have HX := Lib.hid hx
  obtain ⟨a, c, rfl, h1, h2, -, h3⟩ := hx
  clear h3
  unfold maxLen at h2
  by_cases h0 : 0 < xs.length
  · have HB := Lib.hid (show badRow xs = !wordsOk xs by simp [badRow, h0])
    go_enter Try.func38, Try.ntmps38
    go_wp2_with (go_at_call 39; refine (isWords_c xs _ _ HX.out).mono ?_; rintro e w' ⟨rfl, hb⟩)
    go_ret
    exact ⟨ret_bool HB.out.symm, hb⟩
  · have HB := Lib.hid (show badRow xs = false by simp [badRow]; omega)
    go_enter Try.func38, Try.ntmps38
    go_wp2
    go_ret
    exact ⟨ret_bool HB.out.symm, bref _⟩

theorem implSwapValid_c (xss : List (List Int)) (v : Value) (w : World) (hx : RdII w v xss) :
    Calls Try.prog 16 #[v] w fun e w' => e = .returned (.bool (swapOk xss)) ∧ Below w.heap.size w w' := by
  obtain ⟨rows, hr, hin⟩ := hx
  have hr' := hr
  obtain ⟨a, c, rfl, h1, h2, -, h3⟩ := hr
  unfold maxLen at h2
  clear h3
  have hl := hin.1
  by_cases h8 : rows.length = 16
  · have h8g : ((rows.length : Int) == 16) = true := by rw [beq_iff_eq]; omega
    have hp : ∀ (k : Nat) (m : Sl) (p : Bool) W, rows[k]? = some m → (xss.map badRow)[k]? = some p → Below w.heap.size w W → Calls Try.prog 38 (#[slv m] ++ #[]) W fun e W' => e = .returned (.bool p) ∧ Below W.heap.size W W' := by
      intro k m p W hm hp hb
      obtain ⟨xs, hxs⟩ : ∃ xs, xss[k]? = some xs := ⟨_, List.getElem?_eq_getElem (by rw [← hl]; exact (List.getElem?_eq_some_iff.1 hm).1)⟩
      have := get_map hxs hp
      subst this
      exact badRow_c xs (slv m) W ((hin.2 k m xs hm hxs).below hb)
    have HE := enters_of (P := Try.prog) (f := 38) Try.func38 (by kernel_rfl) rfl
    have HC := Lib.hid (hasRow_c 38 #[] (xss.map badRow) rows (.slice a rows.length c) w (by rw [List.length_map]; exact hl.symm) hr' HE hp)
    have H8 := Lib.hid (show xss.length = 16 by omega)
    clear HE hp h8 hl hin hr'
    go_enter Try.func16, Try.ntmps16
    go_wp2_with fail
    refine HC.out.mono ?_
    rintro e w' ⟨rfl, hb⟩
    rw [any_map_id]
    go_wp2
    go_ret
    exact ⟨ret_bool (by simp [swapOk, H8.out]), hb⟩
  · have h8g : ((rows.length : Int) == 16) = false := by rw [beq_eq_false_iff_ne]; omega
    have H8 := Lib.hid (show ¬ xss.length = 16 by omega)
    clear h8 hl hin hr'
    go_enter Try.func16, Try.ntmps16
    go_wp2
    go_ret
    exact ⟨ret_bool (by simp [swapOk, H8.out]), bref _⟩

theorem specSwapValid_c (xss : List (List Int)) (v : Value) (w : World) (hx : RdII w v xss) :
    Calls Try.prog 14 #[v] w fun e w' => e = .returned (.bool (swapOk xss)) ∧ Below w.heap.size w w' := by
  obtain ⟨rows, ⟨a, c, rfl, h1, h2, -, h3⟩, hin⟩ := hx
  have HIN := Lib.hid hin
  have H3 := Lib.hid h3
  obtain ⟨n, hn⟩ : ∃ n, n = rows.length := ⟨_, rfl⟩
  have hn2 : n = xss.length := hn.trans hin.1
  rw [← hn] at h1 ⊢
  have HN2 := Lib.hid hn2
  unfold maxLen at h2
  clear h3 hin hn hn2
  go_enter Try.func14, Try.ntmps14
  go_wp2
  go_loopw [3] (fun i wr => ∃ k : Nat, k ≤ n ∧ i = .int .i64 k ∧ Below w.heap.size w wr ∧ Hid ((xss.take k).any badRow = false)) (fun i _ => n - (intOf i).toNat)
  case atStart => exact ⟨0, Nat.zero_le _, rfl, Below.refl _ _, by simp [Hid]⟩
  case round =>
    obtain ⟨k, hk, rfl, hb, heq⟩ := hrel
    by_cases hlt : k < n
    · obtain ⟨xs, hxs⟩ : ∃ xs, xss[k]? = some xs := ⟨_, List.getElem?_eq_getElem (by have := HN2.out; omega)⟩
      obtain ⟨s, hrow, hrd⟩ := HIN.out.get hxs
      obtain ⟨b, o, rfl, hbl, hc⟩ := H3.out k s hrow
      have c0 := (hb.cell (p := ⟨b, o + k * 1 + 0, none⟩) hbl).trans (hc 0 _ rfl)
      simp only [Nat.add_zero, Nat.mul_one] at c0
      have HRD := Lib.hid (hrd.below hb)
      obtain ⟨a2, c2, hsv, k1, k2, -, -⟩ := hrd
      unfold maxLen at k2
      rw [hsv] at c0 HRD
      have HX := Lib.hid hxs
      clear hc hxs hrow hsv
      by_cases h0 : 0 < xs.length
      · cases hpm : wordsOk xs
        all_goals
          have HE := Lib.hid hpm
          clear hpm
          go_wp2_with (go_at_call 36; refine (l2Words_c xs _ _ HRD.out).mono ?_; rintro e w' ⟨rfl, hb2⟩; rw [HE.out]; have hb3 := hb.trans (hb2.mono hb.size))
        · go_ret
          refine ⟨ret_bool ?_, hb3⟩
          have : (xss.any badRow) = true := List.any_eq_true.2 ⟨xs, List.mem_of_getElem? HX.out, by simp [badRow, HE.out, h0]⟩
          simp [swapOk, this]
        · go_roundw
          case rel => exact ⟨k + 1, by omega, by go_num, hb3, any_take_succ HX.out heq (by simp [badRow, HE.out])⟩
          case measure => simp [intOf]; omega
      · go_wp2
        go_roundw
        case rel => exact ⟨k + 1, by omega, by go_num, hb, any_take_succ HX.out heq (by simp [badRow]; omega)⟩
        case measure => simp [intOf]; omega
    · have hn : (xss.any badRow) = false := by have := heq.out; rwa [List.take_of_length_le (by have := HN2.out; omega)] at this
      have HN := Lib.hid hn
      clear hn
      go_wp2
      go_ret
      exact ⟨ret_bool (by simp only [swapOk, HN.out]; have := HN2.out; by_cases h4 : xss.length = 16 <;> simp [h4] <;> omega), hb⟩
end Go.Proofs.Ytppbhlocnccpnaa
