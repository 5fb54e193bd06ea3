/- Contracts of the reference's functions that read a swap and make a place free. No conditions but the readings of the arguments. -/
import Derived.Test.YtppbhlocnccpnaaSwapF
namespace Go.Proofs.Ytppbhlocnccpnaa
open Go.ChangeShapes Go.WideShapes Go.RowKit
set_option linter.all false
attribute [local go_sem ↓] Go.wp_at_zero Go.wp_at_succ

theorem specSwapGet_c (xss : List (List Int)) (slot : Int) (v : Value) (w : World) (hx : RdII w v xss) :
    Calls Try.prog 19 #[v, .int .i64 slot] w fun e w' => ∃ u, e = .returned (.tuple #[u, .bool (keptB xss slot)]) ∧ OwI w.heap.size w' u (getL xss slot) ∧ Below w.heap.size w w' := by
  have HX := Lib.hid hx
  cases hv : swapOk xss
  · have HV := Lib.hid hv
    have HK := Lib.hid (show keptB xss slot = false by simp [keptB, hv])
    have HG := Lib.hid (show getL xss slot = [] by simp [getL, HK.out])
    clear hv
    go_enter Try.func19, Try.ntmps19
    go_wp2_with fail
    refine (specSwapValid_c xss _ _ HX.out).mono ?_
    rintro e w1 ⟨rfl, hb1⟩
    rw [HV.out]
    go_wp2
    go_ret2
    rw [HG.out, HK.out]
    exact ⟨_, rfl, (OwT.lit eltInt w1 #[] [] rfl (by simp)).mono hb1.size, hb1.alloc hb1.size _⟩
  · cases hs : btw 0 slot 15
    · have HV := Lib.hid hv
      have HS := Lib.hid hs
      have HK := Lib.hid (show keptB xss slot = false by simp [keptB, hs])
      have HG := Lib.hid (show getL xss slot = [] by simp [getL, HK.out])
      clear hv hs
      go_enter Try.func19, Try.ntmps19
      go_wp2_with fail
      refine (specSwapValid_c xss _ _ HX.out).mono ?_
      rintro e w1 ⟨rfl, hb1⟩
      rw [HV.out]
      go_wp2_with fail
      refine (l6In_c _ _ _ _).mono ?_
      rintro e w2 ⟨rfl, rfl⟩
      rw [HS.out]
      go_wp2
      go_ret2
      rw [HG.out, HK.out]
      exact ⟨_, rfl, (OwT.lit eltInt w1 #[] [] rfl (by simp)).mono hb1.size, hb1.alloc hb1.size _⟩
    · obtain ⟨k, xs, rfl, hk, hxs, hrow⟩ := swap_at hv hs
      have HV := Lib.hid hv
      have HS := Lib.hid hs
      have hle := swapOk_row hv hxs
      obtain ⟨rows, ⟨a, c, rfl, h1, h2, -, h3⟩, hin⟩ := hx
      have hkr : k < rows.length := by rw [hin.1]; exact (List.getElem?_eq_some_iff.1 hxs).1
      obtain ⟨s, hrw, hrd⟩ := hin.get hxs
      obtain ⟨b, o, rfl, hbl, hc⟩ := h3 k s hrw
      have c0 := hc 0 _ rfl
      simp only [Nat.add_zero, Nat.mul_one] at c0
      have HRD := Lib.hid hrd
      obtain ⟨a2, c2, hsv, k1, k2, -, -⟩ := hrd
      unfold maxLen at h2 k2
      rw [hsv] at c0 HRD
      by_cases h0 : xs.length = 0
      · have h0g : ((xs.length : Int) == 0) = true := by simp [h0]
        have HK := Lib.hid (show keptB xss (k : Int) = false by simp [keptB, hrow, h0])
        have HG := Lib.hid (show getL xss (k : Int) = [] by simp [getL, HK.out])
        clear hv hs hrow hxs hc h3 hrw hsv hin h0
        go_enter Try.func19, Try.ntmps19
        go_wp2_with fail
        refine (specSwapValid_c xss _ _ HX.out).mono ?_
        rintro e w1 ⟨rfl, hb1⟩
        rw [HV.out]
        have c1 := (hb1.cell (p := ⟨b, o + k, none⟩) hbl).trans c0
        go_wp2_with fail
        refine (l6In_c _ _ _ _).mono ?_
        rintro e w2 ⟨rfl, rfl⟩
        rw [HS.out]
        go_wp2
        go_ret2
        rw [HG.out, HK.out]
        exact ⟨_, rfl, (OwT.lit eltInt w1 #[] [] rfl (by simp)).mono hb1.size, hb1.alloc hb1.size _⟩
      · have h0g : ((xs.length : Int) == 0) = false := by rw [beq_eq_false_iff_ne]; omega
        have HK := Lib.hid (show keptB xss (k : Int) = true by simp [keptB, hrow, hv, hs]; omega)
        have HG := Lib.hid (show getL xss (k : Int) = xs by simp [getL, HK.out, hrow])
        clear hv hs hrow hxs hc h3 hrw hsv hin h0
        go_enter Try.func19, Try.ntmps19
        go_wp2_with fail
        refine (specSwapValid_c xss _ _ HX.out).mono ?_
        rintro e w1 ⟨rfl, hb1⟩
        rw [HV.out]
        have c1 := (hb1.cell (p := ⟨b, o + k, none⟩) hbl).trans c0
        have hbl1 : b < w1.heap.size := Nat.lt_of_lt_of_le hbl hb1.size
        go_wp2_with fail
        refine (l6In_c _ _ _ _).mono ?_
        rintro e w2 ⟨rfl, rfl⟩
        rw [HS.out]
        have HR1 := Lib.hid ((HRD.out.below hb1).below (balloc w1 (.cells #[] 3)))
        go_wp2_with (at_builtin; refine append_T eltInt rfl _ _ rfl w1.heap.size (.slice (some ⟨w1.heap.size, 0, none⟩) 0 0) (.slice a2 xs.length c2) [] xs rfl rfl (OwT.lit eltInt _ #[] [] rfl (by simp)) HR1.out (by simp; omega) (by simp) ?_; intro v' w' ho hg hat hnil)
        go_ret2
        rw [HG.out, HK.out]
        exact ⟨_, rfl, ho.mono hb1.size, bgrown (hb1.alloc hb1.size _) hg (by simp [Value.ownBlock]; exact hb1.size)⟩
end Go.Proofs.Ytppbhlocnccpnaa
