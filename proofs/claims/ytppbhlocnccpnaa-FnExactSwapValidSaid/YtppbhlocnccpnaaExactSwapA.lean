/- FnExactSwapValid returns true for all arguments. No conditions. -/
import Derived.Test.YtppbhlocnccpnaaSwapD
import Derived.Test.YtppbhlocnccpnaaOpenII
namespace Go.Proofs.Ytppbhlocnccpnaa
open Go.ChangeShapes Go.WideShapes Go.ChangeAt Go.RowKit
set_option linter.all false
attribute [local go_sem ↓] Go.wp_at_zero Go.wp_at_succ

set_option maxHeartbeats 4000000 in
theorem fnExactSwapValid_w (x0 : List (List Int)) (v0 : Value) (w : World) (hx0 : RdII w v0 x0) :
    Calls Try.prog 3 #[v0] w fun e w' => e = .returned (.bool true) ∧ Below w.heap.size w w' := by
  have HX0 := Lib.hid hx0
  clear hx0
  by_cases hl0 : ((x0.length : Int) + sumLen x0) ≤ (1048576 : Int)
  rotate_left
  · have HS := Lib.hid (show szv (1048576 : Int) ((x0.length : Int) + sumLen x0) = -1 from szv_neg (by omega))
    go_enter Try.func3, Try.ntmps3
    go_wp2_with fail
    refine (szIntSS_c x0 v0 _ _ HX0.out (by omega)).mono ?_
    rintro e w' ⟨rfl, rfl⟩
    rw [HS.out]
    go_wp2
    go_ret
    exact ⟨rfl, bref _⟩
  have HZ0 := Lib.hid (show szv (1048576 : Int) ((x0.length : Int) + sumLen x0) = (1048576 : Int) - ((x0.length : Int) + sumLen x0) from szv_pos (by omega))
  go_enter Try.func3, Try.ntmps3
  go_wp2_with fail
  refine (szIntSS_c x0 v0 _ _ HX0.out (by omega)).mono ?_
  rintro e w' ⟨rfl, rfl⟩
  rw [HZ0.out]
  have hb := bref w
  go_wp2_with fail
  refine (toIntSS_c x0 v0 _ (HX0.out.below hb) (by omega)).mono ?_
  rintro e W1 ⟨uW1, rfl, ho1, hb1⟩
  have hc := Chg.of_below hb1
  have szW1 := hc.size
  replace hb : Below w.heap.size w W1 := bnext hb hb1
  clear hc
  have HO1 := Lib.hid ho1
  go_wp2_with fail
  refine (specSwapValid_c x0 uW1 _ (HO1.out.rd encI_len)).mono ?_
  rintro e W2 ⟨rfl, hb1⟩
  have hc := Chg.of_below hb1
  have szW2 := hc.size
  have HO2 := Lib.hid (HO1.out.keep hc (.inr (Nat.zero_le _)))
  clear HO1
  replace hb : Below w.heap.size w W2 := bnext hb hb1
  clear hc
  go_wp2_with fail
  refine (toIntSS_c x0 v0 _ (HX0.out.below hb) (by omega)).mono ?_
  rintro e W3 ⟨uW3, rfl, ho1, hb1⟩
  have hc := Chg.of_below hb1
  have szW3 := hc.size
  have HO3 := Lib.hid (HO2.out.keep hc (.inr (Nat.zero_le _)))
  clear HO2
  replace hb : Below w.heap.size w W3 := bnext hb hb1
  clear hc
  have HO4 := Lib.hid ho1
  go_wp2_with fail
  refine (implSwapValid_c x0 uW3 _ (HO4.out.rd encI_len)).mono ?_
  rintro e W4 ⟨rfl, hb1⟩
  have hc := Chg.of_below hb1
  have szW4 := hc.size
  have HO5 := Lib.hid (HO3.out.keep hc (.inr (Nat.zero_le _)))
  clear HO3
  have HO6 := Lib.hid (HO4.out.keep hc (.inr (Nat.zero_le _)))
  clear HO4
  replace hb : Below w.heap.size w W4 := bnext hb hb1
  clear hc
  go_wp2_with fail
  refine (toIntSS_c x0 v0 _ (HX0.out.below hb) (by omega)).mono ?_
  rintro e W5 ⟨uW5, rfl, ho1, hb1⟩
  have hc := Chg.of_below hb1
  have szW5 := hc.size
  have HO7 := Lib.hid (HO5.out.keep hc (.inr (Nat.zero_le _)))
  clear HO5
  have HO8 := Lib.hid (HO6.out.keep hc (.inr (Nat.zero_le _)))
  clear HO6
  replace hb : Below w.heap.size w W5 := bnext hb hb1
  clear hc
  have HO9 := Lib.hid ho1
  go_wp2_with fail
  refine (eqIntSS_c x0 x0 uW3 uW5 _ (HO8.out.rd encI_len) (HO9.out.rd encI_len)).mono ?_
  rintro e W6 ⟨rfl, hb1⟩
  rw [decide_eq_true (rfl : x0 = x0)]
  have hc := Chg.of_below hb1
  have szW6 := hc.size
  have HO10 := Lib.hid (HO7.out.keep hc (.inr (Nat.zero_le _)))
  clear HO7
  have HO11 := Lib.hid (HO8.out.keep hc (.inr (Nat.zero_le _)))
  clear HO8
  have HO12 := Lib.hid (HO9.out.keep hc (.inr (Nat.zero_le _)))
  clear HO9
  replace hb : Below w.heap.size w W6 := bnext hb hb1
  clear hc
  go_wp2
  go_ret
  exact ⟨rfl, hb⟩

set_option maxRecDepth 100000 in
theorem fnExactSwapValid_l (os : Os) (started : os.Started) (H : Type) (enc : TypeId × Value → H) :
    ReturnsInHanded {} Try.checked os 3 .any (Rows.fnExactSwapValidSpec.pre6 enc Try.prog Try.f3 Rows.fnExactSwapValidRow.domain false) (Rows.fnExactSwapValidSpec.post enc Try.prog Try.f3 false true false false) := by
  refine returnsInHanded_of_change (C := Try.checked) own started (by kernel_rfl) Try.func3
    (ChangeSpec.witness6 (enc := enc) (C := Try.checked) false ⟨#[], #[.slice none 0 0], []⟩ 8 (by kernel_rfl) (by kernel_rfl) (by kernel_rfl) (by kernel_rfl)) ?_
  intro W base args ds gs before hval0 hW _ _
  have hval : ∀ (j : Nat) t v, Try.f3.params[j]? = some t → args[j]? = some v → Value.okWide Try.prog W .any base t v := hval0
  have hW' := hW
  obtain ⟨p, q, hA0, hV, rfl, _, _⟩ := hW
  have hA : DataW.TrodAll enc Try.prog W 0 (fun _ => true) true Try.f3.params.toList args.toList ds p := hA0
  rw [Try.params3] at hA hval
  obtain ⟨v0, vs0, d0, ds0, p0, q0, hargs, rfl, rfl, h0, r0⟩ := trodAll_cons hA
  obtain ⟨rfl, rfl, rfl⟩ := trodAll_nil r0
  obtain rfl : args = #[v0] := by cases args; simp_all
  obtain ⟨rfl, rfl⟩ := trodVars_none hV
  clear hA0 hval0
  simp only [List.append_nil] at hW'
  have hl0 : ∀ x ∈ p0, x.block < W.heap.size := fun x hx => by simpa using hW'.lt x (by simp [hx])
  obtain ⟨x0, hx0⟩ := openII (hval 0 22 v0 rfl rfl) h0
  refine (fnExactSwapValid_w x0 v0 W hx0).mono fun e W' ⟨he, hb⟩ => ?_
  subst he
  refine ⟨_, rfl, _, _, _, [], p0, [], hW', trodAll_cons_mk (shut_bool Try.underlying4 _) trodAll_mk0, ?_, rfl, hb.frame _, fun h => by cases h⟩
  have hk := trodAll_cons_mk (Below.trod laidOut (by kernel_rfl) (of_decide_eq_true (by kernel_rfl)) h0 hb hl0) (trodAll_mk0)
  simp only [List.append_nil] at hk
  exact hk

theorem fnExactSwapValid_holds : Rows.FnExactSwapValidSaid :=
  OpenClaim.holds_of_wide 3 Try.f3 rfl rfl rfl rfl rfl rfl rfl ⟨rfl, rfl, rfl, rfl, rfl⟩ rfl rfl rfl rfl rfl (by kernel_rfl) Try.func3 (by kernel_rfl)
    (of_decide_eq_true (by kernel_rfl)) (by unfold Func.isWrapper; first | (rw [if_pos (by decide +kernel)]; kernel_rfl) | (rw [if_neg (by decide +kernel)]; exact ⟨rfl, rfl⟩))
    (fun os started H enc _ => fnExactSwapValid_l os started H enc)

end Go.Proofs.Ytppbhlocnccpnaa
