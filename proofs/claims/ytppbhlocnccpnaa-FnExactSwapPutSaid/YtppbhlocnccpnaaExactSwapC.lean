/- FnExactSwapDrop returns true for all arguments. No conditions. -/
import Derived.Test.YtppbhlocnccpnaaSwapH
import Derived.Test.YtppbhlocnccpnaaOpenII
namespace Go.Proofs.Ytppbhlocnccpnaa
open Go.ChangeShapes Go.WideShapes Go.ChangeAt Go.RowKit
set_option linter.all false
attribute [local go_sem ↓] Go.wp_at_zero Go.wp_at_succ

theorem sum_bound {m : Nat} {xss : List (List Int)} (h : ∀ xs ∈ xss, xs.length ≤ m) : sumLen xss ≤ xss.length * m := sum_le_of (Nat.le_refl _) h
theorem swapOk_rows {xss : List (List Int)} (h : swapOk xss = true) : ∀ xs ∈ xss, xs.length ≤ 4 := fun xs hx => by
  obtain ⟨k, hk⟩ := List.getElem?_of_mem hx
  exact swapOk_row h hk
theorem set_sum {xss : List (List Int)} {k : Nat} {ys : List Int} (hl : xss.length = 16) (h : ∀ xs ∈ xss, xs.length ≤ 4) (hy : ys.length ≤ 4) : ((xss.set k ys).length : Int) + sumLen (xss.set k ys) ≤ 80 := by
  have h2 := sum_bound (m := 4) (xss := xss.set k ys) (fun xs hx => by
    rcases List.mem_or_eq_of_mem_set hx with hx | rfl
    · exact h xs hx
    · exact hy)
  simp only [List.length_set, hl] at h2 ⊢
  omega
theorem dropL_le (xss : List (List Int)) (slot : Int) : ((dropL xss slot).length : Int) + sumLen (dropL xss slot) ≤ 80 := by
  cases h : keptB xss slot
  · simp [dropL, h, sumLen]
  · obtain ⟨hv, k, xs, rfl, -⟩ := kept_at h
    simp only [dropL, h, if_true]
    exact set_sum (swapOk_len hv) (swapOk_rows hv) (by simp)
set_option maxHeartbeats 4000000 in
theorem fnExactSwapDrop_w (x0 : List (List Int)) (v0 : Value) (x1 : Int) (w : World) (hx0 : RdII w v0 x0) :
    Calls Try.prog 6 #[v0, .int .i64 x1] w fun e w' => e = .returned (.bool true) ∧ Below w.heap.size w w' := by
  have HX0 := Lib.hid hx0
  clear hx0
  by_cases hl0 : ((x0.length : Int) + sumLen x0) ≤ (1048576 : Int)
  rotate_left
  · have HS := Lib.hid (show szv (1048576 : Int) ((x0.length : Int) + sumLen x0) = -1 from szv_neg (by omega))
    go_enter Try.func6, Try.ntmps6
    go_wp2_with fail
    refine (szIntSS_c x0 v0 _ _ HX0.out (by omega)).mono ?_
    rintro e w' ⟨rfl, rfl⟩
    rw [HS.out]
    go_wp2
    go_ret
    exact ⟨rfl, bref _⟩
  have HZ0 := Lib.hid (show szv (1048576 : Int) ((x0.length : Int) + sumLen x0) = (1048576 : Int) - ((x0.length : Int) + sumLen x0) from szv_pos (by omega))
  have hwl := dropL_le x0 x1
  go_enter Try.func6, Try.ntmps6
  go_wp2_with fail
  refine (szIntSS_c x0 v0 _ _ HX0.out (by omega)).mono ?_
  rintro e w' ⟨rfl, rfl⟩
  rw [HZ0.out]
  have hb := bref w
  go_wp2_with fail
  refine (toIntSS_c x0 v0 _ (HX0.out.below hb) (by omega)).mono ?_
  rintro e W1 ⟨uW1, rfl, ho1, hb1⟩
  have hc := Chg.of_below hb1
  have szW1 := hc.size
  replace hb : Below w.heap.size w W1 := bnext hb hb1
  clear hc
  have HO1 := Lib.hid ho1
  go_wp2_with fail
  refine (specSwapDrop_c x0 x1 uW1 _ (HO1.out.rd encI_len)).mono ?_
  rintro e W2 ⟨uW2_0, rfl, ho_uW2_0, hb1⟩
  have hc := Chg.of_below hb1
  have szW2 := hc.size
  have HO2 := Lib.hid (HO1.out.keep hc (.inr (Nat.zero_le _)))
  clear HO1
  replace hb : Below w.heap.size w W2 := bnext hb hb1
  clear hc
  have HO3 := Lib.hid ho_uW2_0
  go_wp2_with fail
  refine (toIntSS_c x0 v0 _ (HX0.out.below hb) (by omega)).mono ?_
  rintro e W3 ⟨uW3, rfl, ho1, hb1⟩
  have hc := Chg.of_below hb1
  have szW3 := hc.size
  have HO4 := Lib.hid (HO2.out.keep hc (.inr (Nat.zero_le _)))
  clear HO2
  have HO5 := Lib.hid (HO3.out.keep hc (.inr (Nat.zero_le _)))
  clear HO3
  replace hb : Below w.heap.size w W3 := bnext hb hb1
  clear hc
  have HO6 := Lib.hid ho1
  go_wp2_with fail
  refine (implSwapDrop_c x0 x1 uW3 _ (HO6.out.rd encI_len)).mono ?_
  rintro e W4 ⟨uW4_0, rfl, ho_uW4_0, hb1⟩
  have hc := Chg.of_below hb1
  have szW4 := hc.size
  have HO7 := Lib.hid (HO4.out.keep hc (.inr (Nat.zero_le _)))
  clear HO4
  have HO8 := Lib.hid (HO5.out.keep hc (.inr (Nat.zero_le _)))
  clear HO5
  have HO9 := Lib.hid (HO6.out.keep hc (.inr (Nat.zero_le _)))
  clear HO6
  replace hb : Below w.heap.size w W4 := bnext hb hb1
  clear hc
  have HO10 := Lib.hid ho_uW4_0
  go_wp2_with fail
  refine (eqIntSS_c (dropL x0 x1) (dropL x0 x1) uW4_0 uW2_0 _ (HO10.out.rd encI_len) (HO8.out.rd encI_len)).mono ?_
  rintro e W5 ⟨rfl, hb1⟩
  rw [decide_eq_true (rfl : (dropL x0 x1) = (dropL x0 x1))]
  have hc := Chg.of_below hb1
  have szW5 := hc.size
  have HO11 := Lib.hid (HO7.out.keep hc (.inr (Nat.zero_le _)))
  clear HO7
  have HO12 := Lib.hid (HO8.out.keep hc (.inr (Nat.zero_le _)))
  clear HO8
  have HO13 := Lib.hid (HO9.out.keep hc (.inr (Nat.zero_le _)))
  clear HO9
  have HO14 := Lib.hid (HO10.out.keep hc (.inr (Nat.zero_le _)))
  clear HO10
  replace hb : Below w.heap.size w W5 := bnext hb hb1
  clear hc
  go_wp2_with fail
  refine (toIntSS_c x0 v0 _ (HX0.out.below hb) (by omega)).mono ?_
  rintro e W6 ⟨uW6, rfl, ho1, hb1⟩
  have hc := Chg.of_below hb1
  have szW6 := hc.size
  have HO15 := Lib.hid (HO11.out.keep hc (.inr (Nat.zero_le _)))
  clear HO11
  have HO16 := Lib.hid (HO12.out.keep hc (.inr (Nat.zero_le _)))
  clear HO12
  have HO17 := Lib.hid (HO13.out.keep hc (.inr (Nat.zero_le _)))
  clear HO13
  have HO18 := Lib.hid (HO14.out.keep hc (.inr (Nat.zero_le _)))
  clear HO14
  replace hb : Below w.heap.size w W6 := bnext hb hb1
  clear hc
  have HO19 := Lib.hid ho1
  go_wp2_with fail
  refine (eqIntSS_c x0 x0 uW3 uW6 _ (HO17.out.rd encI_len) (HO19.out.rd encI_len)).mono ?_
  rintro e W7 ⟨rfl, hb1⟩
  rw [decide_eq_true (rfl : x0 = x0)]
  have hc := Chg.of_below hb1
  have szW7 := hc.size
  have HO20 := Lib.hid (HO15.out.keep hc (.inr (Nat.zero_le _)))
  clear HO15
  have HO21 := Lib.hid (HO16.out.keep hc (.inr (Nat.zero_le _)))
  clear HO16
  have HO22 := Lib.hid (HO17.out.keep hc (.inr (Nat.zero_le _)))
  clear HO17
  have HO23 := Lib.hid (HO18.out.keep hc (.inr (Nat.zero_le _)))
  clear HO18
  have HO24 := Lib.hid (HO19.out.keep hc (.inr (Nat.zero_le _)))
  clear HO19
  replace hb : Below w.heap.size w W7 := bnext hb hb1
  clear hc
  go_wp2_with fail
  refine (markIntSS_c x0 uW3 1 _ _ _ HO22.out (by omega) (by omega)).mono ?_
  rintro e W8 ⟨rfl, ho1, hc1⟩
  have hc := hc1
  have szW8 := hc.size
  have HO25 := Lib.hid (HO20.out.keep hc (by omega))
  clear HO20
  have HO26 := Lib.hid (HO21.out.keep hc (by omega))
  clear HO21
  have HO27 := Lib.hid (HO23.out.keep hc (by omega))
  clear HO23
  have HO28 := Lib.hid (HO24.out.keep hc (by omega))
  clear HO24
  replace hb : Below w.heap.size w W8 := Chg.below hb hc (by omega)
  clear hc
  have HO29 : Hid (OwII _ _ W8 uW3 (marksII 1 x0)) := Lib.hid ho1
  clear HO22 ho1 hc1
  go_wp2_with fail
  refine (eqIntSS_c (dropL x0 x1) (dropL x0 x1) uW4_0 uW2_0 _ (HO27.out.rd encI_len) (HO26.out.rd encI_len)).mono ?_
  rintro e W9 ⟨rfl, hb1⟩
  rw [decide_eq_true (rfl : (dropL x0 x1) = (dropL x0 x1))]
  have hc := Chg.of_below hb1
  have szW9 := hc.size
  have HO30 := Lib.hid (HO25.out.keep hc (.inr (Nat.zero_le _)))
  clear HO25
  have HO31 := Lib.hid (HO26.out.keep hc (.inr (Nat.zero_le _)))
  clear HO26
  have HO32 := Lib.hid (HO27.out.keep hc (.inr (Nat.zero_le _)))
  clear HO27
  have HO33 := Lib.hid (HO28.out.keep hc (.inr (Nat.zero_le _)))
  clear HO28
  have HO34 := Lib.hid (HO29.out.keep hc (.inr (Nat.zero_le _)))
  clear HO29
  replace hb : Below w.heap.size w W9 := bnext hb hb1
  clear hc
  go_wp2_with fail
  refine (markIntSS_c (dropL x0 x1) uW4_0 1 _ _ _ HO32.out (by omega) (by omega)).mono ?_
  rintro e W10 ⟨rfl, ho1, hc1⟩
  have hc := hc1
  have szW10 := hc.size
  have HO35 := Lib.hid (HO30.out.keep hc (by omega))
  clear HO30
  have HO36 := Lib.hid (HO31.out.keep hc (by omega))
  clear HO31
  have HO37 := Lib.hid (HO33.out.keep hc (by omega))
  clear HO33
  have HO38 := Lib.hid (HO34.out.keep hc (by omega))
  clear HO34
  replace hb : Below w.heap.size w W10 := Chg.below hb hc (by omega)
  clear hc
  have HO39 : Hid (OwII _ _ W10 uW4_0 (marksII 1 (dropL x0 x1))) := Lib.hid ho1
  clear HO32 ho1 hc1
  go_wp2_with fail
  refine (heldIntSS_c (dropL x0 x1) uW4_0 1 _ (HO39.out.rd encI_len) (by omega) (by omega)).mono ?_
  rintro e w' ⟨rfl, rfl⟩
  go_wp2_with fail
  refine (toIntSS_c x0 v0 _ (HX0.out.below hb) (by omega)).mono ?_
  rintro e W11 ⟨uW11, rfl, ho1, hb1⟩
  have hc := Chg.of_below hb1
  have szW11 := hc.size
  have HO40 := Lib.hid (HO35.out.keep hc (.inr (Nat.zero_le _)))
  clear HO35
  have HO41 := Lib.hid (HO36.out.keep hc (.inr (Nat.zero_le _)))
  clear HO36
  have HO42 := Lib.hid (HO37.out.keep hc (.inr (Nat.zero_le _)))
  clear HO37
  have HO43 := Lib.hid (HO38.out.keep hc (.inr (Nat.zero_le _)))
  clear HO38
  have HO44 := Lib.hid (HO39.out.keep hc (.inr (Nat.zero_le _)))
  clear HO39
  replace hb : Below w.heap.size w W11 := bnext hb hb1
  clear hc
  have HO45 := Lib.hid ho1
  go_wp2_with fail
  refine (implSwapDrop_c x0 x1 uW11 _ (HO45.out.rd encI_len)).mono ?_
  rintro e W12 ⟨uW12_0, rfl, ho_uW12_0, hb1⟩
  have hc := Chg.of_below hb1
  have szW12 := hc.size
  have HO46 := Lib.hid (HO40.out.keep hc (.inr (Nat.zero_le _)))
  clear HO40
  have HO47 := Lib.hid (HO41.out.keep hc (.inr (Nat.zero_le _)))
  clear HO41
  have HO48 := Lib.hid (HO42.out.keep hc (.inr (Nat.zero_le _)))
  clear HO42
  have HO49 := Lib.hid (HO43.out.keep hc (.inr (Nat.zero_le _)))
  clear HO43
  have HO50 := Lib.hid (HO44.out.keep hc (.inr (Nat.zero_le _)))
  clear HO44
  have HO51 := Lib.hid (HO45.out.keep hc (.inr (Nat.zero_le _)))
  clear HO45
  replace hb : Below w.heap.size w W12 := bnext hb hb1
  clear hc
  have HO52 := Lib.hid ho_uW12_0
  go_wp2_with fail
  refine (eqIntSS_c (dropL x0 x1) (dropL x0 x1) uW12_0 uW2_0 _ (HO52.out.rd encI_len) (HO47.out.rd encI_len)).mono ?_
  rintro e W13 ⟨rfl, hb1⟩
  rw [decide_eq_true (rfl : (dropL x0 x1) = (dropL x0 x1))]
  have hc := Chg.of_below hb1
  have szW13 := hc.size
  have HO53 := Lib.hid (HO46.out.keep hc (.inr (Nat.zero_le _)))
  clear HO46
  have HO54 := Lib.hid (HO47.out.keep hc (.inr (Nat.zero_le _)))
  clear HO47
  have HO55 := Lib.hid (HO48.out.keep hc (.inr (Nat.zero_le _)))
  clear HO48
  have HO56 := Lib.hid (HO49.out.keep hc (.inr (Nat.zero_le _)))
  clear HO49
  have HO57 := Lib.hid (HO50.out.keep hc (.inr (Nat.zero_le _)))
  clear HO50
  have HO58 := Lib.hid (HO51.out.keep hc (.inr (Nat.zero_le _)))
  clear HO51
  have HO59 := Lib.hid (HO52.out.keep hc (.inr (Nat.zero_le _)))
  clear HO52
  replace hb : Below w.heap.size w W13 := bnext hb hb1
  clear hc
  go_wp2_with fail
  refine (heldIntSS_c (dropL x0 x1) uW4_0 1 _ (HO57.out.rd encI_len) (by omega) (by omega)).mono ?_
  rintro e w' ⟨rfl, rfl⟩
  go_wp2
  go_ret
  exact ⟨rfl, hb⟩

set_option maxRecDepth 100000 in
theorem fnExactSwapDrop_l (os : Os) (started : os.Started) (H : Type) (enc : TypeId × Value → H) :
    ReturnsInHanded {} Try.checked os 6 .any (Rows.fnExactSwapDropSpec.pre6 enc Try.prog Try.f6 Rows.fnExactSwapDropRow.domain false) (Rows.fnExactSwapDropSpec.post enc Try.prog Try.f6 false true false false) := by
  refine returnsInHanded_of_change (C := Try.checked) own started (by kernel_rfl) Try.func6
    (ChangeSpec.witness6 (enc := enc) (C := Try.checked) false ⟨#[], #[.slice none 0 0, .int .i64 0], []⟩ 8 (by kernel_rfl) (by kernel_rfl) (by kernel_rfl) (by kernel_rfl)) ?_
  intro W base args ds gs before hval0 hW _ _
  have hval : ∀ (j : Nat) t v, Try.f6.params[j]? = some t → args[j]? = some v → Value.okWide Try.prog W .any base t v := hval0
  have hW' := hW
  obtain ⟨p, q, hA0, hV, rfl, _, _⟩ := hW
  have hA : DataW.TrodAll enc Try.prog W 0 (fun _ => true) true Try.f6.params.toList args.toList ds p := hA0
  rw [Try.params6] at hA hval
  obtain ⟨v0, vs0, d0, ds0, p0, q0, hargs, rfl, rfl, h0, r0⟩ := trodAll_cons hA
  obtain ⟨v1, vs1, d1, ds1, p1, q1, rfl, rfl, rfl, h1, r1⟩ := trodAll_cons r0
  obtain ⟨rfl, rfl, rfl⟩ := trodAll_nil r1
  obtain rfl : args = #[v0, v1] := by cases args; simp_all
  obtain ⟨rfl, rfl⟩ := trodVars_none hV
  clear hA0 hval0
  simp only [List.append_nil] at hW'
  have hl0 : ∀ x ∈ p0, x.block < W.heap.size := fun x hx => by simpa using hW'.lt x (by simp [hx])
  have hl1 : ∀ x ∈ p1, x.block < W.heap.size := fun x hx => by simpa using hW'.lt x (by simp [hx])
  obtain ⟨x0, hx0⟩ := openII (hval 0 22 v0 rfl rfl) h0
  obtain ⟨x1, hv1⟩ := openInt (hval 1 3 v1 rfl rfl) h1
  subst hv1
  refine (fnExactSwapDrop_w x0 v0 x1 W hx0 ).mono fun e W' ⟨he, hb⟩ => ?_
  subst he
  refine ⟨_, rfl, _, _, _, [], p0 ++ p1, [], hW', trodAll_cons_mk (shut_bool Try.underlying4 _) trodAll_mk0, ?_, rfl, hb.frame _, fun h => by cases h⟩
  have hk := trodAll_cons_mk (Below.trod laidOut (by kernel_rfl) (of_decide_eq_true (by kernel_rfl)) h0 hb hl0) (trodAll_cons_mk (Below.trod laidOut (by kernel_rfl) (of_decide_eq_true (by kernel_rfl)) h1 hb hl1) (trodAll_mk0))
  simp only [List.append_nil] at hk
  exact hk

theorem fnExactSwapDrop_holds : Rows.FnExactSwapDropSaid :=
  OpenClaim.holds_of_wide 6 Try.f6 rfl rfl rfl rfl rfl rfl rfl ⟨rfl, rfl, rfl, rfl, rfl⟩ rfl rfl rfl rfl rfl (by kernel_rfl) Try.func6 (by kernel_rfl)
    (of_decide_eq_true (by kernel_rfl)) (by unfold Func.isWrapper; first | (rw [if_pos (by decide +kernel)]; kernel_rfl) | (rw [if_neg (by decide +kernel)]; exact ⟨rfl, rfl⟩))
    (fun os started H enc _ => fnExactSwapDrop_l os started H enc)

end Go.Proofs.Ytppbhlocnccpnaa
