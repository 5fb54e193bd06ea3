/- FnExactInfosFree returns true for all arguments. No conditions. -/
import Derived.Test.YtdeempkiffdlnaaDoorInfoG
import Derived.Test.YtdeempkiffdlnaaDoorOpenInfo
import Derived.Test.YtdeempkiffdlnaaDoorTie
import Derived.Test.YtdeempkiffdlnaaDoorCards
import Derived.Lay
import Derived.LaidOnce
import Derived.SevenTiedAt
namespace Go.Proofs.YtdeempkiffdlnaaDoor
open Go.ChangeShapes Go.WideShapes Go.ChangeAt Go.RowKit
set_option linter.all false
attribute [local go_sem ↓] Go.wp_at_zero Go.wp_at_succ

set_option maxHeartbeats 4000000 in
theorem fnExactInfosFree_w (x0 : List Info) (v0 : Value) (w : World) (hx0 : RdFF w v0 x0)  :
    Calls Tryd.prog 6 #[v0] w fun e w' => e = .returned (.bool true) ∧ Below w.heap.size w w' := by
  have HX0 := Lib.hid hx0
  clear hx0
  by_cases hl0 : ((x0.length : Int) + infSum x0) ≤ (1048576 : Int)
  rotate_left
  · have HS := Lib.hid (show szv (1048576 : Int) ((x0.length : Int) + infSum x0) = -1 from szv_neg (by omega))
    have hb := bref w
    go_enter Tryd.func6, Tryd.ntmps6
    go_wp2_with fail
    refine (szInfoS_c x0 v0 _ _ (HX0.out.below hb).1 (HX0.out.below hb).2 (by omega)).mono ?_
    rintro e W0z ⟨rfl, hb1⟩
    replace hb := bnext hb hb1
    clear hb1
    rw [HS.out]
    go_wp2
    go_ret
    exact ⟨rfl, hb⟩
  have HZ0 := Lib.hid (show szv (1048576 : Int) ((x0.length : Int) + infSum x0) = (1048576 : Int) - ((x0.length : Int) + infSum x0) from szv_pos (by omega))
  have hb := bref w
  go_enter Tryd.func6, Tryd.ntmps6
  go_wp2_with fail
  refine (szInfoS_c x0 v0 _ _ HX0.out.1 HX0.out.2 (by omega)).mono ?_
  rintro e W1 ⟨rfl, hb1⟩
  rw [HZ0.out]
  replace hb := bnext hb hb1
  clear hb1
  go_wp2_with fail
  refine (toInfoS_c x0 v0 _ (HX0.out.below hb).1 (by omega)).mono ?_
  rintro e W2 ⟨uW2, rfl, ho1, hb1⟩
  have hc := Chg.of_below hb1
  have szW2 := hc.size
  replace hb : Below w.heap.size w W2 := bnext hb hb1
  clear hc
  have HO1 := Lib.hid (OwF.of ho1 (Nat.le_refl _))
  go_wp2_with fail
  refine (specInfosFree_c x0 uW2 _ (HO1.out.rd Info.enc_len) HX0.out.2 (by omega)).mono ?_
  rintro e W3 ⟨rfl, hb1⟩
  have hc := Chg.of_below hb1
  have szW3 := hc.size
  have HO2 := Lib.hid (HO1.out.keep hc (.inr (Nat.zero_le _)))
  clear HO1
  replace hb : Below w.heap.size w W3 := bnext hb hb1
  clear hc
  go_wp2_with fail
  refine (toInfoS_c x0 v0 _ (HX0.out.below hb).1 (by omega)).mono ?_
  rintro e W4 ⟨uW4, rfl, ho1, hb1⟩
  have hc := Chg.of_below hb1
  have szW4 := hc.size
  have HO3 := Lib.hid (HO2.out.keep hc (.inr (Nat.zero_le _)))
  clear HO2
  replace hb : Below w.heap.size w W4 := bnext hb hb1
  clear hc
  have HO4 := Lib.hid (OwF.of ho1 (Nat.le_refl _))
  go_wp2_with fail
  refine (implInfosFree_c x0 uW4 _ (HO4.out.rd Info.enc_len) HX0.out.2).mono ?_
  rintro e W5 ⟨rfl, hb1⟩
  have hc := Chg.of_below hb1
  have szW5 := hc.size
  have HO5 := Lib.hid (HO3.out.keep hc (.inr (Nat.zero_le _)))
  clear HO3
  have HO6 := Lib.hid (HO4.out.keep hc (.inr (Nat.zero_le _)))
  clear HO4
  replace hb : Below w.heap.size w W5 := bnext hb hb1
  clear hc
  go_wp2_with fail
  refine (toInfoS_c x0 v0 _ (HX0.out.below hb).1 (by omega)).mono ?_
  rintro e W6 ⟨uW6, rfl, ho1, hb1⟩
  have hc := Chg.of_below hb1
  have szW6 := hc.size
  have HO7 := Lib.hid (HO5.out.keep hc (.inr (Nat.zero_le _)))
  clear HO5
  have HO8 := Lib.hid (HO6.out.keep hc (.inr (Nat.zero_le _)))
  clear HO6
  replace hb : Below w.heap.size w W6 := bnext hb hb1
  clear hc
  have HO9 := Lib.hid (OwF.of ho1 (Nat.le_refl _))
  go_wp2_with fail
  refine (eqInfoS_c x0 x0 uW4 uW6 _ (HO8.out.rd Info.enc_len) (HO9.out.rd Info.enc_len)).mono ?_
  rintro e W7 ⟨rfl, hb1⟩
  rw [decide_eq_true (rfl : x0 = x0)]
  have hc := Chg.of_below hb1
  have szW7 := hc.size
  have HO10 := Lib.hid (HO7.out.keep hc (.inr (Nat.zero_le _)))
  clear HO7
  have HO11 := Lib.hid (HO8.out.keep hc (.inr (Nat.zero_le _)))
  clear HO8
  have HO12 := Lib.hid (HO9.out.keep hc (.inr (Nat.zero_le _)))
  clear HO9
  replace hb : Below w.heap.size w W7 := bnext hb hb1
  clear hc
  go_wp2
  go_ret
  exact ⟨rfl, hb⟩

set_option maxRecDepth 100000 in
theorem fnExactInfosFree_l (os : Os) (started : os.Started) (H : Type) (enc : TypeId × Value → H) :
    ReturnsInHanded {} Tryd.checked os 6 .any (fun w args => (Rows.fnExactInfosFreeSpec.pre enc Tryd.prog Tryd.f6 [] false w args ∧ laidMetH Tryd.prog Rows.fnExactInfosFreeRow.laid w) ∧ sizedMet enc Tryd.prog Tryd.f6 (OpenSpec.ofChange Rows.fnExactInfosFreeSpec) false w args)
      (Rows.fnExactInfosFreeSpec.post enc Tryd.prog Tryd.f6 false true false false) := by
  refine returnsInHanded_of_change_and (C := Tryd.checked) (X := fun w _ => laidMetH Tryd.prog Rows.fnExactInfosFreeRow.laid w) (fun _ _ _ hh h => h.of_heap hh) own started (by kernel_rfl) Tryd.func6
    (ChangeSpec.witness_shaped (enc := enc) (C := Tryd.checked) (os := os) (X := fun w _ => laidMetH Tryd.prog Rows.fnExactInfosFreeRow.laid w) false (World.laidAll Tryd.prog os Rows.fnExactInfosFreeRow.laid) #[.slice none 0 0] 8 (World.laidAll_os _ _ _)
      (World.shaped_of_ZipB (by kernel_rfl) (by kernel_rfl)) (by kernel_rfl) (by kernel_rfl) (by kernel_rfl)
      (by rw [MakeChecks.laidMetH_plain _ _ _ (by kernel_rfl)]; exact laidMet_laidAll _ (by kernel_rfl) (by kernel_rfl))) ?_
  intro W base args ds gs before hval0 hW _ _ _ _
  have hval : ∀ (j : Nat) t v, Tryd.f6.params[j]? = some t → args[j]? = some v → Value.okWide Tryd.prog W .any base t v := hval0
  have hW' := hW
  obtain ⟨p, q, hA0, hV, rfl, _, _⟩ := hW
  have hA : DataW.TrodAll enc Tryd.prog W 0 (fun _ => true) true Tryd.f6.params.toList args.toList ds p := hA0
  rw [Tryd.params6] at hA hval
  obtain ⟨v0, vs0, d0, ds0, p0, q0, hargs, rfl, rfl, h0, r0⟩ := trodAll_cons hA
  obtain ⟨rfl, rfl, rfl⟩ := trodAll_nil r0
  obtain rfl : args = #[v0] := by cases args; simp_all
  obtain ⟨rfl, rfl⟩ := trodVars_none hV
  clear hA0 hval0
  simp only [List.append_nil] at hW'
  have hl0 : ∀ x ∈ p0, x.block < W.heap.size := fun x hx => by simpa using hW'.lt x (by simp [hx])
  obtain ⟨x0, hx0⟩ := openInfos (hval 0 29 v0 rfl rfl) h0
  refine (fnExactInfosFree_w x0 v0 W hx0).mono fun e W' ⟨he, hb⟩ => ?_
  subst he
  refine ⟨_, rfl, _, _, _, [], p0, [], hW', trodAll_cons_mk (shut_bool Tryd.underlying4 _) trodAll_mk0, ?_, rfl, hb.frame _, fun h => by cases h⟩
  have hk := trodAll_cons_mk (Below.trod laidOut (by kernel_rfl) (of_decide_eq_true (by kernel_rfl)) h0 hb hl0) (trodAll_mk0)
  simp only [List.append_nil] at hk
  exact hk

theorem fnExactInfosFree_row : Rows.FnExactInfosFreeSaid :=
  OpenClaim.holds_of_wide 6 Tryd.f6 rfl rfl rfl rfl rfl rfl rfl ⟨rfl, rfl, rfl, rfl, rfl⟩ rfl rfl rfl rfl rfl (by kernel_rfl) Tryd.func6 (by kernel_rfl)
    (of_decide_eq_true (by kernel_rfl)) (by unfold Func.isWrapper; first | (rw [if_pos (by decide +kernel)]; kernel_rfl) | (rw [if_neg (by decide +kernel)]; exact ⟨rfl, rfl⟩))
    (fun os started H enc _ => fnExactInfosFree_l os started H enc)

theorem fnExactInfosFree_holds : Rows.FnExactInfosFreeCardSaid :=
  Claim7.holds_tied_plain_at .later [] [.data, .pinned] true Rows.fnExactInfosFreeCard.stood.harness false fnExactInfosFree_row (fun _ h => by cases h) (by kernel_rfl) (fun _ h => by cases h) fnExactInfosFree_row_tie rfl ⟨rfl, rfl⟩ (by kernel_rfl) rfl
    (fun f fn hf hfn => by
      obtain rfl : f = 6 := Option.some.inj ((show Tryd.prog.funcNamed "loop.example/exopager/laws.FnExactInfosFree" = some 6 by kernel_rfl).symm.trans hf) |>.symm
      obtain rfl : fn = Tryd.f6 := (Option.some.inj (Tryd.func6.symm.trans hfn)).symm
      exact ⟨by kernel_rfl, fun j t ht => by
        rw [Tryd.params6] at ht
        have hm : t ∈ [29] := by simpa using Array.mem_of_getElem? ht
        have hall : ([29].all fun u => !Tryd.prog.wantsStandIn u) = true := by kernel_rfl
        exact (show Tryd.prog.wantsStandIn t = false by simpa using List.all_eq_true.1 hall t hm)⟩)
    (by kernel_rfl)

end Go.Proofs.YtdeempkiffdlnaaDoor
