/- FnExactRightsMay returns true for all arguments. No conditions. -/
import Derived.Test.YtldkmibmabpfmaaDoorRightD
import Derived.Test.YtldkmibmabpfmaaDoorOpenStr
import Derived.Test.YtldkmibmabpfmaaDoorTie
import Derived.Test.YtldkmibmabpfmaaDoorCards
import Derived.Lay
import Derived.LaidOnce
import Derived.SevenTiedAt
namespace Go.Proofs.YtldkmibmabpfmaaDoor
open Go.ChangeShapes Go.WideShapes Go.ChangeAt Go.RowKit
set_option linter.all false
attribute [local go_sem ↓] Go.wp_at_zero Go.wp_at_succ

set_option maxHeartbeats 4000000 in
theorem fnExactRightsMay_w (x0 : List Txt) (v0 : Value) (x1 : Txt) (w : World) (hx0 : RdSF w v0 x0) (hs1 : x1.length ≤ 9223372036854775807) :
    Calls Tryd.prog 5 #[v0, tv x1] w fun e w' => e = .returned (.bool true) ∧ Below w.heap.size w w' := by
  have HX0 := Lib.hid hx0
  clear hx0
  have hsz1 := tv_size x1
  by_cases hl1 : x1.length ≤ 1048576
  rotate_left
  · go_enter Tryd.func5, Tryd.ntmps5
    go_wp2
    go_ret
    exact ⟨rfl, bref _⟩
  by_cases hl0 : ((x0.length : Int) + strSum x0) ≤ (1048576 : Int)
  rotate_left
  · have HS := Lib.hid (show szv (1048576 : Int) ((x0.length : Int) + strSum x0) = -1 from szv_neg (by omega))
    go_enter Tryd.func5, Tryd.ntmps5
    go_wp2_with fail
    refine (szStringS_c x0 v0 _ _ HX0.out.1 HX0.out.2 (by omega)).mono ?_
    rintro e w' ⟨rfl, rfl⟩
    rw [HS.out]
    go_wp2
    go_ret
    exact ⟨rfl, bref _⟩
  have HZ0 := Lib.hid (show szv (1048576 : Int) ((x0.length : Int) + strSum x0) = (1048576 : Int) - ((x0.length : Int) + strSum x0) from szv_pos (by omega))
  go_enter Tryd.func5, Tryd.ntmps5
  go_wp2_with fail
  refine (szStringS_c x0 v0 _ _ HX0.out.1 HX0.out.2 (by omega)).mono ?_
  rintro e w' ⟨rfl, rfl⟩
  rw [HZ0.out]
  have hb := bref w
  go_wp2_with fail
  refine (toStringS_c x0 v0 _ (HX0.out.below hb).1 (by omega)).mono ?_
  rintro e W1 ⟨uW1, rfl, ho1, hb1⟩
  have hc := Chg.of_below hb1
  have szW1 := hc.size
  replace hb : Below w.heap.size w W1 := bnext hb hb1
  clear hc
  have HO1 := Lib.hid (OwF.of ho1 (Nat.le_refl _))
  go_wp2_with fail
  refine (specRightsMay_c x0 uW1 x1 _ (HO1.out.rd encS_len) HX0.out.2 (by omega)).mono ?_
  rintro e W2 ⟨rfl, hb1⟩
  have hc := Chg.of_below hb1
  have szW2 := hc.size
  have HO2 := Lib.hid (HO1.out.keep hc (.inr (Nat.zero_le _)))
  clear HO1
  replace hb : Below w.heap.size w W2 := bnext hb hb1
  clear hc
  go_wp2_with fail
  refine (toStringS_c x0 v0 _ (HX0.out.below hb).1 (by omega)).mono ?_
  rintro e W3 ⟨uW3, rfl, ho1, hb1⟩
  have hc := Chg.of_below hb1
  have szW3 := hc.size
  have HO3 := Lib.hid (HO2.out.keep hc (.inr (Nat.zero_le _)))
  clear HO2
  replace hb : Below w.heap.size w W3 := bnext hb hb1
  clear hc
  have HO4 := Lib.hid (OwF.of ho1 (Nat.le_refl _))
  go_wp2_with fail
  refine (implRightsMay_c x0 uW3 x1 _ (HO4.out.rd encS_len) HX0.out.2 (by omega)).mono ?_
  rintro e W4 ⟨rfl, hb1⟩
  have hc := Chg.of_below hb1
  have szW4 := hc.size
  have HO5 := Lib.hid (HO3.out.keep hc (.inr (Nat.zero_le _)))
  clear HO3
  have HO6 := Lib.hid (HO4.out.keep hc (.inr (Nat.zero_le _)))
  clear HO4
  replace hb : Below w.heap.size w W4 := bnext hb hb1
  clear hc
  go_wp2_with fail
  refine (toStringS_c x0 v0 _ (HX0.out.below hb).1 (by omega)).mono ?_
  rintro e W5 ⟨uW5, rfl, ho1, hb1⟩
  have hc := Chg.of_below hb1
  have szW5 := hc.size
  have HO7 := Lib.hid (HO5.out.keep hc (.inr (Nat.zero_le _)))
  clear HO5
  have HO8 := Lib.hid (HO6.out.keep hc (.inr (Nat.zero_le _)))
  clear HO6
  replace hb : Below w.heap.size w W5 := bnext hb hb1
  clear hc
  have HO9 := Lib.hid (OwF.of ho1 (Nat.le_refl _))
  go_wp2_with fail
  refine (eqStringS_c x0 x0 uW3 uW5 _ (HO8.out.rd encS_len) (HO9.out.rd encS_len)).mono ?_
  rintro e W6 ⟨rfl, hb1⟩
  rw [decide_eq_true (rfl : x0 = x0)]
  have hc := Chg.of_below hb1
  have szW6 := hc.size
  have HO10 := Lib.hid (HO7.out.keep hc (.inr (Nat.zero_le _)))
  clear HO7
  have HO11 := Lib.hid (HO8.out.keep hc (.inr (Nat.zero_le _)))
  clear HO8
  have HO12 := Lib.hid (HO9.out.keep hc (.inr (Nat.zero_le _)))
  clear HO9
  replace hb : Below w.heap.size w W6 := bnext hb hb1
  clear hc
  go_wp2
  go_ret
  exact ⟨rfl, hb⟩

set_option maxRecDepth 100000 in
theorem fnExactRightsMay_l (os : Os) (started : os.Started) (H : Type) (enc : TypeId × Value → H) :
    ReturnsInHanded {} Tryd.checked os 5 .any (fun w args => (Rows.fnExactRightsMaySpec.pre enc Tryd.prog Tryd.f5 [] false w args ∧ laidMetH Tryd.prog Rows.fnExactRightsMayRow.laid w) ∧ sizedMet enc Tryd.prog Tryd.f5 (OpenSpec.ofChange Rows.fnExactRightsMaySpec) false w args)
      (Rows.fnExactRightsMaySpec.post enc Tryd.prog Tryd.f5 false true false false) := by
  refine returnsInHanded_of_change_and (C := Tryd.checked) (X := fun w _ => laidMetH Tryd.prog Rows.fnExactRightsMayRow.laid w) (fun _ _ _ hh h => h.of_heap hh) own started (by kernel_rfl) Tryd.func5
    (ChangeSpec.witness_shaped (enc := enc) (C := Tryd.checked) (os := os) (X := fun w _ => laidMetH Tryd.prog Rows.fnExactRightsMayRow.laid w) false (World.laidAll Tryd.prog os Rows.fnExactRightsMayRow.laid) #[.slice none 0 0, .string ⟨#[]⟩] 8 (World.laidAll_os _ _ _)
      (World.shaped_of_ZipB (by kernel_rfl) (by kernel_rfl)) (by kernel_rfl) (by kernel_rfl) (by kernel_rfl)
      (by rw [MakeChecks.laidMetH_plain _ _ _ (by kernel_rfl)]; exact laidMet_laidAll _ (by kernel_rfl) (by kernel_rfl))) ?_
  intro W base args ds gs before hval0 hW _ _ _ _
  have hval : ∀ (j : Nat) t v, Tryd.f5.params[j]? = some t → args[j]? = some v → Value.okWide Tryd.prog W .any base t v := hval0
  have hW' := hW
  obtain ⟨p, q, hA0, hV, rfl, _, _⟩ := hW
  have hA : DataW.TrodAll enc Tryd.prog W 0 (fun _ => true) true Tryd.f5.params.toList args.toList ds p := hA0
  rw [Tryd.params5] at hA hval
  obtain ⟨v0, vs0, d0, ds0, p0, q0, hargs, rfl, rfl, h0, r0⟩ := trodAll_cons hA
  obtain ⟨v1, vs1, d1, ds1, p1, q1, rfl, rfl, rfl, h1, r1⟩ := trodAll_cons r0
  obtain ⟨rfl, rfl, rfl⟩ := trodAll_nil r1
  obtain rfl : args = #[v0, v1] := by cases args; simp_all
  obtain ⟨rfl, rfl⟩ := trodVars_none hV
  clear hA0 hval0
  simp only [List.append_nil] at hW'
  have hl0 : ∀ x ∈ p0, x.block < W.heap.size := fun x hx => by simpa using hW'.lt x (by simp [hx])
  have hl1 : ∀ x ∈ p1, x.block < W.heap.size := fun x hx => by simpa using hW'.lt x (by simp [hx])
  obtain ⟨x0, hx0⟩ := openTexts (hval 0 27 v0 rfl rfl) h0
  obtain ⟨x1, hv1, hs1⟩ := openText (hval 1 9 v1 rfl rfl) h1
  subst hv1
  refine (fnExactRightsMay_w x0 v0 x1 W hx0 hs1).mono fun e W' ⟨he, hb⟩ => ?_
  subst he
  refine ⟨_, rfl, _, _, _, [], p0 ++ p1, [], hW', trodAll_cons_mk (shut_bool Tryd.underlying4 _) trodAll_mk0, ?_, rfl, hb.frame _, fun h => by cases h⟩
  have hk := trodAll_cons_mk (Below.trod laidOut (by kernel_rfl) (of_decide_eq_true (by kernel_rfl)) h0 hb hl0) (trodAll_cons_mk (Below.trod laidOut (by kernel_rfl) (of_decide_eq_true (by kernel_rfl)) h1 hb hl1) (trodAll_mk0))
  simp only [List.append_nil] at hk
  exact hk

theorem fnExactRightsMay_row : Rows.FnExactRightsMaySaid :=
  OpenClaim.holds_of_wide 5 Tryd.f5 rfl rfl rfl rfl rfl rfl rfl ⟨rfl, rfl, rfl, rfl, rfl⟩ rfl rfl rfl rfl rfl (by kernel_rfl) Tryd.func5 (by kernel_rfl)
    (of_decide_eq_true (by kernel_rfl)) (by unfold Func.isWrapper; first | (rw [if_pos (by decide +kernel)]; kernel_rfl) | (rw [if_neg (by decide +kernel)]; exact ⟨rfl, rfl⟩))
    (fun os started H enc _ => fnExactRightsMay_l os started H enc)

theorem fnExactRightsMay_holds : Rows.FnExactRightsMayCardSaid :=
  Claim7.holds_tied_plain_at .later [] [.data, .pinned] true Rows.fnExactRightsMayCard.stood.harness false fnExactRightsMay_row (fun _ h => by cases h) (by kernel_rfl) (fun _ h => by cases h) fnExactRightsMay_row_tie rfl ⟨rfl, rfl⟩ (by kernel_rfl) rfl
    (fun f fn hf hfn => by
      obtain rfl : f = 5 := Option.some.inj ((show Tryd.prog.funcNamed "loop.example/exopager/laws.FnExactRightsMay" = some 5 by kernel_rfl).symm.trans hf) |>.symm
      obtain rfl : fn = Tryd.f5 := (Option.some.inj (Tryd.func5.symm.trans hfn)).symm
      exact ⟨by kernel_rfl, fun j t ht => by
        rw [Tryd.params5] at ht
        have hm : t ∈ [27, 9] := by simpa using Array.mem_of_getElem? ht
        have hall : ([27, 9].all fun u => !Tryd.prog.wantsStandIn u) = true := by kernel_rfl
        exact (show Tryd.prog.wantsStandIn t = false by simpa using List.all_eq_true.1 hall t hm)⟩)
    (by kernel_rfl)

end Go.Proofs.YtldkmibmabpfmaaDoor
