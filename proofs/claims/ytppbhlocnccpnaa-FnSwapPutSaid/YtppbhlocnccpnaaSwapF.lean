/- Contracts of the functions that read a swap and make a place free. No conditions but the readings of the arguments. -/
import Derived.Test.YtppbhlocnccpnaaSwapE
namespace Go.Proofs.Ytppbhlocnccpnaa
open Go.ChangeShapes Go.WideShapes Go.RowKit
set_option linter.all false
attribute [local go_sem ↓] Go.wp_at_zero Go.wp_at_succ

/-- The words at a place. -/
def rowAt (xss : List (List Int)) (slot : Int) : List Int := (xss[slot.toNat]?).getD []
/-- A swap is valid and has words at a place. -/
def keptB (xss : List (List Int)) (slot : Int) : Bool := swapOk xss && btw 0 slot 15 && decide (0 < (rowAt xss slot).length)
theorem rowAt_eq {xss : List (List Int)} {k : Nat} {xs : List Int} (h : xss[k]? = some xs) : rowAt xss (k : Int) = xs := by simp [rowAt, h]
theorem swap_at {xss : List (List Int)} {slot : Int} (h : swapOk xss = true) (hs : btw 0 slot 15 = true) : ∃ (k : Nat) (xs : List Int), slot = (k : Int) ∧ k < 16 ∧ xss[k]? = some xs ∧ rowAt xss slot = xs := by
  simp [btw] at hs
  obtain ⟨k, rfl⟩ := Int.eq_ofNat_of_zero_le hs.1
  have hl := swapOk_len h
  obtain ⟨xs, hxs⟩ : ∃ xs, xss[k]? = some xs := ⟨_, List.getElem?_eq_getElem (by omega)⟩
  exact ⟨k, xs, rfl, by omega, hxs, rowAt_eq hxs⟩

theorem isKept_c (xss : List (List Int)) (slot : Int) (v : Value) (w : World) (hx : RdII w v xss) :
    Calls Try.prog 43 #[v, .int .i64 slot] w fun e w' => e = .returned (.bool (keptB xss slot)) ∧ Below w.heap.size w w' := by
  have HX := Lib.hid hx
  cases hv : swapOk xss
  · have HV := Lib.hid hv
    have HK := Lib.hid (show keptB xss slot = false by simp [keptB, hv])
    clear hv
    go_enter Try.func43, Try.ntmps43
    go_wp2_with fail
    refine (implSwapValid_c xss _ _ HX.out).mono ?_
    rintro e w1 ⟨rfl, hb1⟩
    rw [HV.out]
    go_wp2
    go_ret
    exact ⟨ret_bool HK.out.symm, hb1⟩
  · cases hs : btw 0 slot 15
    · have HV := Lib.hid hv
      have HS := Lib.hid hs
      have HK := Lib.hid (show keptB xss slot = false by simp [keptB, hs])
      clear hv hs
      go_enter Try.func43, Try.ntmps43
      go_wp2_with fail
      refine (implSwapValid_c xss _ _ HX.out).mono ?_
      rintro e w1 ⟨rfl, hb1⟩
      rw [HV.out]
      go_wp2_with fail
      refine (within_c _ _ _ _).mono ?_
      rintro e w2 ⟨rfl, rfl⟩
      rw [HS.out]
      go_wp2
      go_ret
      exact ⟨ret_bool HK.out.symm, hb1⟩
    · obtain ⟨k, xs, rfl, hk, hxs, hrow⟩ := swap_at hv hs
      have HV := Lib.hid hv
      have HS := Lib.hid hs
      have HK := Lib.hid (show keptB xss (k : Int) = decide (0 < xs.length) by simp [keptB, hs, hv, hrow])
      have hl := swapOk_len hv
      obtain ⟨rows, ⟨a, c, rfl, h1, h2, -, h3⟩, hin⟩ := hx
      have hkr : k < rows.length := by rw [hin.1]; omega
      obtain ⟨s, hrw, hrd⟩ := hin.get hxs
      obtain ⟨b, o, rfl, hbl, hc⟩ := h3 k s hrw
      have c0 := hc 0 _ rfl
      simp only [Nat.add_zero, Nat.mul_one] at c0
      obtain ⟨a2, c2, hsv, k1, k2, -, -⟩ := hrd
      unfold maxLen at h2 k2
      rw [hsv] at c0
      clear hv hs hrow hxs hc h3 hrw hsv hl hin
      go_enter Try.func43, Try.ntmps43
      go_wp2_with fail
      refine (implSwapValid_c xss _ _ HX.out).mono ?_
      rintro e w1 ⟨rfl, hb1⟩
      rw [HV.out]
      have c1 := (hb1.cell (p := ⟨b, o + k, none⟩) hbl).trans c0
      go_wp2_with fail
      refine (within_c _ _ _ _).mono ?_
      rintro e w2 ⟨rfl, rfl⟩
      rw [HS.out]
      go_wp2
      go_ret
      exact ⟨ret_bool (by first | (rw [HK.out]; done) | (rw [HK.out]; simp)), hb1⟩

def getL (xss : List (List Int)) (slot : Int) : List Int := if keptB xss slot then rowAt xss slot else []
theorem kept_at {xss : List (List Int)} {slot : Int} (h : keptB xss slot = true) : swapOk xss = true ∧ ∃ (k : Nat) (xs : List Int), slot = (k : Int) ∧ k < 16 ∧ xss[k]? = some xs ∧ rowAt xss slot = xs ∧ 0 < xs.length ∧ xs.length ≤ 4 ∧ btw 0 slot 15 = true := by
  simp only [keptB, Bool.and_eq_true, decide_eq_true_eq] at h
  obtain ⟨k, xs, h1, h2, h3, h4⟩ := swap_at h.1.1 h.1.2
  exact ⟨h.1.1, k, xs, h1, h2, h3, h4, by rw [← h4]; exact h.2, swapOk_row h.1.1 h3, h.1.2⟩

theorem implSwapGet_c (xss : List (List Int)) (slot : Int) (v : Value) (w : World) (hx : RdII w v xss) :
    Calls Try.prog 20 #[v, .int .i64 slot] w fun e w' => ∃ u, e = .returned (.tuple #[u, .bool (keptB xss slot)]) ∧ OwI w.heap.size w' u (getL xss slot) ∧ Below w.heap.size w w' := by
  have HX := Lib.hid hx
  cases hv : keptB xss slot
  · have HV := Lib.hid hv
    have HG := Lib.hid (show getL xss slot = [] by simp [getL, hv])
    clear hv
    go_enter Try.func20, Try.ntmps20
    go_wp2_with fail
    refine (isKept_c xss slot _ _ HX.out).mono ?_
    rintro e w1 ⟨rfl, hb1⟩
    rw [HV.out]
    go_wp2
    go_ret2
    rw [HG.out]
    exact ⟨_, rfl, World.ownsRow_nil _ _ _ _, hb1⟩
  · obtain ⟨-, k, xs, rfl, hk, hxs, hrow, hpos, hle, -⟩ := kept_at hv
    have HV := Lib.hid hv
    have HG := Lib.hid (show getL xss (k : Int) = xs by simp [getL, hv, hrow])
    obtain ⟨rows, ⟨a, c, rfl, h1, h2, -, h3⟩, hin⟩ := hx
    have hkr : k < rows.length := by rw [hin.1]; exact (List.getElem?_eq_some_iff.1 hxs).1
    obtain ⟨s, hrw, hrd⟩ := hin.get hxs
    obtain ⟨b, o, rfl, hbl, hc⟩ := h3 k s hrw
    have c0 := hc 0 _ rfl
    simp only [Nat.add_zero, Nat.mul_one] at c0
    unfold maxLen at h2
    have HRD := Lib.hid hrd
    clear hv hrow hxs hc h3 hrw hrd hin
    go_enter Try.func20, Try.ntmps20
    go_wp2_with fail
    refine (isKept_c xss k _ _ HX.out).mono ?_
    rintro e w1 ⟨rfl, hb1⟩
    rw [HV.out]
    have c1 := (hb1.cell (p := ⟨b, o + k, none⟩) hbl).trans c0
    go_wp2_with fail
    refine (cloneInt_c xs (slv s) _ (HRD.out.below hb1) (by omega)).mono ?_
    rintro e w2 ⟨u, rfl, ho, hb2⟩
    go_wp2
    go_ret2
    rw [HG.out]
    exact ⟨_, rfl, ho.mono hb1.size, bnext hb1 hb2⟩
end Go.Proofs.Ytppbhlocnccpnaa
