/- FnExactInfosGive returns true for all arguments. No conditions. -/
import Derived.Test.YtdeempkiffdlnaaDoorInfoG
import Derived.Test.YtdeempkiffdlnaaDoorOpenInfo
import Derived.Test.YtdeempkiffdlnaaDoorTie
import Derived.Test.YtdeempkiffdlnaaDoorCards
import Derived.Lay
import Derived.LaidOnce
import Derived.SevenTiedAt
namespace Go.Proofs.YtdeempkiffdlnaaDoor
open Go.ChangeShapes Go.WideShapes Go.ChangeAt Go.RowKit
set_option linter.all false
attribute [local go_sem ↓] Go.wp_at_zero Go.wp_at_succ

theorem givL_le (xs : List Info) (f : Int) : (givL xs f).length ≤ 12 := by
  cases h : givB xs f
  · simp [givL, h]
  · simp only [givL, h, if_true, List.length_set]
    have : infosOk xs = true := by simp only [givB, Bool.and_eq_true] at h; exact h.1.1
    exact Nat.le_of_eq (infosOk_len this)
set_option maxHeartbeats 4000000 in
theorem fnExactInfosGive_w (x0 : List Info) (v0 : Value) (x1 : Int) (w : World) (hx0 : RdFF w v0 x0)  :
    Calls Tryd.prog 9 #[v0, .int .i64 x1] w fun e w' => e = .returned (.bool true) ∧ Below w.heap.size w w' := by
  have HX0 := Lib.hid hx0
  clear hx0
  by_cases hl0 : ((x0.length : Int) + infSum x0) ≤ (1048576 : Int)
  rotate_left
  · have HS := Lib.hid (show szv (1048576 : Int) ((x0.length : Int) + infSum x0) = -1 from szv_neg (by omega))
    have hb := bref w
    go_enter Tryd.func9, Tryd.ntmps9
    go_wp2_with fail
    refine (szInfoS_c x0 v0 _ _ (HX0.out.below hb).1 (HX0.out.below hb).2 (by omega)).mono ?_
    rintro e W0z ⟨rfl, hb1⟩
    replace hb := bnext hb hb1
    clear hb1
    rw [HS.out]
    go_wp2
    go_ret
    exact ⟨rfl, hb⟩
  have HZ0 := Lib.hid (show szv (1048576 : Int) ((x0.length : Int) + infSum x0) = (1048576 : Int) - ((x0.length : Int) + infSum x0) from szv_pos (by omega))
  have hwl := givL_le x0 x1
  have hb := bref w
  go_enter Tryd.func9, Tryd.ntmps9
  go_wp2_with fail
  refine (szInfoS_c x0 v0 _ _ HX0.out.1 HX0.out.2 (by omega)).mono ?_
  rintro e W1 ⟨rfl, hb1⟩
  rw [HZ0.out]
  have szW1 := hb1.size
  replace hb := bnext hb hb1
  clear hb1
  go_wp2_with fail
  refine (toInfoS_c x0 v0 _ (HX0.out.below hb).1 (by omega)).mono ?_
  rintro e W2 ⟨uW2, rfl, ho1, hb1⟩
  have hc := Chg.of_below hb1
  have szW2 := hc.size
  replace hb : Below w.heap.size w W2 := bnext hb hb1
  clear hc
  have HO1 := Lib.hid (OwF.of ho1 (Nat.le_refl _))
  go_wp2_with fail
  refine (specInfosGive_c x0 uW2 x1 _ (HO1.out.rd Info.enc_len) HX0.out.2).mono ?_
  rintro e W3 ⟨uW3_0, rfl, ho_uW3_0, hb1⟩
  have hc := Chg.of_below hb1
  have szW3 := hc.size
  have HO2 := Lib.hid (HO1.out.keep hc (.inr (Nat.zero_le _)))
  clear HO1
  replace hb : Below w.heap.size w W3 := bnext hb hb1
  clear hc
  have HO3 := Lib.hid (OwF.of ho_uW3_0 (Nat.le_refl _))
  go_wp2_with fail
  refine (toInfoS_c x0 v0 _ (HX0.out.below hb).1 (by omega)).mono ?_
  rintro e W4 ⟨uW4, rfl, ho1, hb1⟩
  have hc := Chg.of_below hb1
  have szW4 := hc.size
  have HO4 := Lib.hid (HO2.out.keep hc (.inr (Nat.zero_le _)))
  clear HO2
  have HO5 := Lib.hid (HO3.out.keep hc (.inr (Nat.zero_le _)))
  clear HO3
  replace hb : Below w.heap.size w W4 := bnext hb hb1
  clear hc
  have HO6 := Lib.hid (OwF.of ho1 (Nat.le_refl _))
  go_wp2_with fail
  refine (implInfosGive_c x0 uW4 x1 _ (HO6.out.rd Info.enc_len) HX0.out.2).mono ?_
  rintro e W5 ⟨uW5_0, rfl, ho_uW5_0, hb1⟩
  have hc := Chg.of_below hb1
  have szW5 := hc.size
  have HO7 := Lib.hid (HO4.out.keep hc (.inr (Nat.zero_le _)))
  clear HO4
  have HO8 := Lib.hid (HO5.out.keep hc (.inr (Nat.zero_le _)))
  clear HO5
  have HO9 := Lib.hid (HO6.out.keep hc (.inr (Nat.zero_le _)))
  clear HO6
  replace hb : Below w.heap.size w W5 := bnext hb hb1
  clear hc
  have HO10 := Lib.hid (OwF.of ho_uW5_0 (Nat.le_refl _))
  go_wp2_with fail
  refine (eqInfoS_c (givL x0 x1) (givL x0 x1) uW5_0 uW3_0 _ (HO10.out.rd Info.enc_len) (HO8.out.rd Info.enc_len)).mono ?_
  rintro e W6 ⟨rfl, hb1⟩
  rw [decide_eq_true (rfl : (givL x0 x1) = (givL x0 x1))]
  have hc := Chg.of_below hb1
  have szW6 := hc.size
  have HO11 := Lib.hid (HO7.out.keep hc (.inr (Nat.zero_le _)))
  clear HO7
  have HO12 := Lib.hid (HO8.out.keep hc (.inr (Nat.zero_le _)))
  clear HO8
  have HO13 := Lib.hid (HO9.out.keep hc (.inr (Nat.zero_le _)))
  clear HO9
  have HO14 := Lib.hid (HO10.out.keep hc (.inr (Nat.zero_le _)))
  clear HO10
  replace hb : Below w.heap.size w W6 := bnext hb hb1
  clear hc
  go_wp2_with fail
  refine (toInfoS_c x0 v0 _ (HX0.out.below hb).1 (by omega)).mono ?_
  rintro e W7 ⟨uW7, rfl, ho1, hb1⟩
  have hc := Chg.of_below hb1
  have szW7 := hc.size
  have HO15 := Lib.hid (HO11.out.keep hc (.inr (Nat.zero_le _)))
  clear HO11
  have HO16 := Lib.hid (HO12.out.keep hc (.inr (Nat.zero_le _)))
  clear HO12
  have HO17 := Lib.hid (HO13.out.keep hc (.inr (Nat.zero_le _)))
  clear HO13
  have HO18 := Lib.hid (HO14.out.keep hc (.inr (Nat.zero_le _)))
  clear HO14
  replace hb : Below w.heap.size w W7 := bnext hb hb1
  clear hc
  have HO19 := Lib.hid (OwF.of ho1 (Nat.le_refl _))
  go_wp2_with fail
  refine (eqInfoS_c x0 x0 uW4 uW7 _ (HO17.out.rd Info.enc_len) (HO19.out.rd Info.enc_len)).mono ?_
  rintro e W8 ⟨rfl, hb1⟩
  rw [decide_eq_true (rfl : x0 = x0)]
  have hc := Chg.of_below hb1
  have szW8 := hc.size
  have HO20 := Lib.hid (HO15.out.keep hc (.inr (Nat.zero_le _)))
  clear HO15
  have HO21 := Lib.hid (HO16.out.keep hc (.inr (Nat.zero_le _)))
  clear HO16
  have HO22 := Lib.hid (HO17.out.keep hc (.inr (Nat.zero_le _)))
  clear HO17
  have HO23 := Lib.hid (HO18.out.keep hc (.inr (Nat.zero_le _)))
  clear HO18
  have HO24 := Lib.hid (HO19.out.keep hc (.inr (Nat.zero_le _)))
  clear HO19
  replace hb : Below w.heap.size w W8 := bnext hb hb1
  clear hc
  go_wp2_with fail
  refine (markInfoS_c x0 uW4 1 _ _ HO22.out.1 (by omega) (by omega)).mono ?_
  rintro e W9 ⟨rfl, ho1, hg1, hn1⟩
  have hm := HO22.out.2
  have hc := Chg.of_mark hm hg1 hn1
  have szW9 := hc.size
  have HO25 := Lib.hid (HO20.out.keep hc (by omega))
  clear HO20
  have HO26 := Lib.hid (HO21.out.keep hc (by omega))
  clear HO21
  have HO27 := Lib.hid (HO23.out.keep hc (by omega))
  clear HO23
  have HO28 := Lib.hid (HO24.out.keep hc (by omega))
  clear HO24
  replace hb : Below w.heap.size w W9 := Chg.below hb hc (by omega)
  clear hc
  have HO29 : Hid (OwF Info.enc 3 27 _ _ W9 uW4 (marksF 1 x0.length)) := Lib.hid ⟨ho1, hm⟩
  clear HO22 ho1 hg1 hn1 hm
  go_wp2_with fail
  refine (eqInfoS_c (givL x0 x1) (givL x0 x1) uW5_0 uW3_0 _ (HO27.out.rd Info.enc_len) (HO26.out.rd Info.enc_len)).mono ?_
  rintro e W10 ⟨rfl, hb1⟩
  rw [decide_eq_true (rfl : (givL x0 x1) = (givL x0 x1))]
  have hc := Chg.of_below hb1
  have szW10 := hc.size
  have HO30 := Lib.hid (HO25.out.keep hc (.inr (Nat.zero_le _)))
  clear HO25
  have HO31 := Lib.hid (HO26.out.keep hc (.inr (Nat.zero_le _)))
  clear HO26
  have HO32 := Lib.hid (HO27.out.keep hc (.inr (Nat.zero_le _)))
  clear HO27
  have HO33 := Lib.hid (HO28.out.keep hc (.inr (Nat.zero_le _)))
  clear HO28
  have HO34 := Lib.hid (HO29.out.keep hc (.inr (Nat.zero_le _)))
  clear HO29
  replace hb : Below w.heap.size w W10 := bnext hb hb1
  clear hc
  go_wp2_with fail
  refine (markInfoS_c (givL x0 x1) uW5_0 1 _ _ HO32.out.1 (by omega) (by omega)).mono ?_
  rintro e W11 ⟨rfl, ho1, hg1, hn1⟩
  have hm := HO32.out.2
  have hc := Chg.of_mark hm hg1 hn1
  have szW11 := hc.size
  have HO35 := Lib.hid (HO30.out.keep hc (by omega))
  clear HO30
  have HO36 := Lib.hid (HO31.out.keep hc (by omega))
  clear HO31
  have HO37 := Lib.hid (HO33.out.keep hc (by omega))
  clear HO33
  have HO38 := Lib.hid (HO34.out.keep hc (by omega))
  clear HO34
  replace hb : Below w.heap.size w W11 := Chg.below hb hc (by omega)
  clear hc
  have HO39 : Hid (OwF Info.enc 3 27 _ _ W11 uW5_0 (marksF 1 (givL x0 x1).length)) := Lib.hid ⟨ho1, hm⟩
  clear HO32 ho1 hg1 hn1 hm
  go_wp2_with fail
  refine (heldInfoS_c (givL x0 x1).length uW5_0 1 _ (HO39.out.rd Info.enc_len) (by omega) (by omega)).mono ?_
  rintro e W12 ⟨rfl, hb1⟩
  have hc := Chg.of_below hb1
  have szW12 := hc.size
  have HO40 := Lib.hid (HO35.out.keep hc (.inr (Nat.zero_le _)))
  clear HO35
  have HO41 := Lib.hid (HO36.out.keep hc (.inr (Nat.zero_le _)))
  clear HO36
  have HO42 := Lib.hid (HO37.out.keep hc (.inr (Nat.zero_le _)))
  clear HO37
  have HO43 := Lib.hid (HO38.out.keep hc (.inr (Nat.zero_le _)))
  clear HO38
  have HO44 := Lib.hid (HO39.out.keep hc (.inr (Nat.zero_le _)))
  clear HO39
  replace hb : Below w.heap.size w W12 := bnext hb hb1
  clear hc
  go_wp2_with fail
  refine (toInfoS_c x0 v0 _ (HX0.out.below hb).1 (by omega)).mono ?_
  rintro e W13 ⟨uW13, rfl, ho1, hb1⟩
  have hc := Chg.of_below hb1
  have szW13 := hc.size
  have HO45 := Lib.hid (HO40.out.keep hc (.inr (Nat.zero_le _)))
  clear HO40
  have HO46 := Lib.hid (HO41.out.keep hc (.inr (Nat.zero_le _)))
  clear HO41
  have HO47 := Lib.hid (HO42.out.keep hc (.inr (Nat.zero_le _)))
  clear HO42
  have HO48 := Lib.hid (HO43.out.keep hc (.inr (Nat.zero_le _)))
  clear HO43
  have HO49 := Lib.hid (HO44.out.keep hc (.inr (Nat.zero_le _)))
  clear HO44
  replace hb : Below w.heap.size w W13 := bnext hb hb1
  clear hc
  have HO50 := Lib.hid (OwF.of ho1 (Nat.le_refl _))
  go_wp2_with fail
  refine (implInfosGive_c x0 uW13 x1 _ (HO50.out.rd Info.enc_len) HX0.out.2).mono ?_
  rintro e W14 ⟨uW14_0, rfl, ho_uW14_0, hb1⟩
  have hc := Chg.of_below hb1
  have szW14 := hc.size
  have HO51 := Lib.hid (HO45.out.keep hc (.inr (Nat.zero_le _)))
  clear HO45
  have HO52 := Lib.hid (HO46.out.keep hc (.inr (Nat.zero_le _)))
  clear HO46
  have HO53 := Lib.hid (HO47.out.keep hc (.inr (Nat.zero_le _)))
  clear HO47
  have HO54 := Lib.hid (HO48.out.keep hc (.inr (Nat.zero_le _)))
  clear HO48
  have HO55 := Lib.hid (HO49.out.keep hc (.inr (Nat.zero_le _)))
  clear HO49
  have HO56 := Lib.hid (HO50.out.keep hc (.inr (Nat.zero_le _)))
  clear HO50
  replace hb : Below w.heap.size w W14 := bnext hb hb1
  clear hc
  have HO57 := Lib.hid (OwF.of ho_uW14_0 (Nat.le_refl _))
  go_wp2_with fail
  refine (eqInfoS_c (givL x0 x1) (givL x0 x1) uW14_0 uW3_0 _ (HO57.out.rd Info.enc_len) (HO52.out.rd Info.enc_len)).mono ?_
  rintro e W15 ⟨rfl, hb1⟩
  rw [decide_eq_true (rfl : (givL x0 x1) = (givL x0 x1))]
  have hc := Chg.of_below hb1
  have szW15 := hc.size
  have HO58 := Lib.hid (HO51.out.keep hc (.inr (Nat.zero_le _)))
  clear HO51
  have HO59 := Lib.hid (HO52.out.keep hc (.inr (Nat.zero_le _)))
  clear HO52
  have HO60 := Lib.hid (HO53.out.keep hc (.inr (Nat.zero_le _)))
  clear HO53
  have HO61 := Lib.hid (HO54.out.keep hc (.inr (Nat.zero_le _)))
  clear HO54
  have HO62 := Lib.hid (HO55.out.keep hc (.inr (Nat.zero_le _)))
  clear HO55
  have HO63 := Lib.hid (HO56.out.keep hc (.inr (Nat.zero_le _)))
  clear HO56
  have HO64 := Lib.hid (HO57.out.keep hc (.inr (Nat.zero_le _)))
  clear HO57
  replace hb : Below w.heap.size w W15 := bnext hb hb1
  clear hc
  go_wp2_with fail
  refine (heldInfoS_c (givL x0 x1).length uW5_0 1 _ (HO62.out.rd Info.enc_len) (by omega) (by omega)).mono ?_
  rintro e W16 ⟨rfl, hb1⟩
  have hc := Chg.of_below hb1
  have szW16 := hc.size
  have HO65 := Lib.hid (HO58.out.keep hc (.inr (Nat.zero_le _)))
  clear HO58
  have HO66 := Lib.hid (HO59.out.keep hc (.inr (Nat.zero_le _)))
  clear HO59
  have HO67 := Lib.hid (HO60.out.keep hc (.inr (Nat.zero_le _)))
  clear HO60
  have HO68 := Lib.hid (HO61.out.keep hc (.inr (Nat.zero_le _)))
  clear HO61
  have HO69 := Lib.hid (HO62.out.keep hc (.inr (Nat.zero_le _)))
  clear HO62
  have HO70 := Lib.hid (HO63.out.keep hc (.inr (Nat.zero_le _)))
  clear HO63
  have HO71 := Lib.hid (HO64.out.keep hc (.inr (Nat.zero_le _)))
  clear HO64
  replace hb : Below w.heap.size w W16 := bnext hb hb1
  clear hc
  go_wp2
  go_ret
  exact ⟨rfl, hb⟩

set_option maxRecDepth 100000 in
theorem fnExactInfosGive_l (os : Os) (started : os.Started) (H : Type) (enc : TypeId × Value → H) :
    ReturnsInHanded {} Tryd.checked os 9 .any (fun w args => (Rows.fnExactInfosGiveSpec.pre enc Tryd.prog Tryd.f9 [] false w args ∧ laidMetH Tryd.prog Rows.fnExactInfosGiveRow.laid w) ∧ sizedMet enc Tryd.prog Tryd.f9 (OpenSpec.ofChange Rows.fnExactInfosGiveSpec) false w args)
      (Rows.fnExactInfosGiveSpec.post enc Tryd.prog Tryd.f9 false true false false) := by
  refine returnsInHanded_of_change_and (C := Tryd.checked) (X := fun w _ => laidMetH Tryd.prog Rows.fnExactInfosGiveRow.laid w) (fun _ _ _ hh h => h.of_heap hh) own started (by kernel_rfl) Tryd.func9
    (ChangeSpec.witness_shaped (enc := enc) (C := Tryd.checked) (os := os) (X := fun w _ => laidMetH Tryd.prog Rows.fnExactInfosGiveRow.laid w) false (World.laidAll Tryd.prog os Rows.fnExactInfosGiveRow.laid) #[.slice none 0 0, .int .i64 0] 8 (World.laidAll_os _ _ _)
      (World.shaped_of_ZipB (by kernel_rfl) (by kernel_rfl)) (by kernel_rfl) (by kernel_rfl) (by kernel_rfl)
      (by rw [MakeChecks.laidMetH_plain _ _ _ (by kernel_rfl)]; exact laidMet_laidAll _ (by kernel_rfl) (by kernel_rfl))) ?_
  intro W base args ds gs before hval0 hW _ _ _ _
  have hval : ∀ (j : Nat) t v, Tryd.f9.params[j]? = some t → args[j]? = some v → Value.okWide Tryd.prog W .any base t v := hval0
  have hW' := hW
  obtain ⟨p, q, hA0, hV, rfl, _, _⟩ := hW
  have hA : DataW.TrodAll enc Tryd.prog W 0 (fun _ => true) true Tryd.f9.params.toList args.toList ds p := hA0
  rw [Tryd.params9] at hA hval
  obtain ⟨v0, vs0, d0, ds0, p0, q0, hargs, rfl, rfl, h0, r0⟩ := trodAll_cons hA
  obtain ⟨v1, vs1, d1, ds1, p1, q1, rfl, rfl, rfl, h1, r1⟩ := trodAll_cons r0
  obtain ⟨rfl, rfl, rfl⟩ := trodAll_nil r1
  obtain rfl : args = #[v0, v1] := by cases args; simp_all
  obtain ⟨rfl, rfl⟩ := trodVars_none hV
  clear hA0 hval0
  simp only [List.append_nil] at hW'
  have hl0 : ∀ x ∈ p0, x.block < W.heap.size := fun x hx => by simpa using hW'.lt x (by simp [hx])
  have hl1 : ∀ x ∈ p1, x.block < W.heap.size := fun x hx => by simpa using hW'.lt x (by simp [hx])
  obtain ⟨x0, hx0⟩ := openInfos (hval 0 29 v0 rfl rfl) h0
  obtain ⟨x1, hv1⟩ := openInt (hval 1 3 v1 rfl rfl) h1
  subst hv1
  refine (fnExactInfosGive_w x0 v0 x1 W hx0 ).mono fun e W' ⟨he, hb⟩ => ?_
  subst he
  refine ⟨_, rfl, _, _, _, [], p0 ++ p1, [], hW', trodAll_cons_mk (shut_bool Tryd.underlying4 _) trodAll_mk0, ?_, rfl, hb.frame _, fun h => by cases h⟩
  have hk := trodAll_cons_mk (Below.trod laidOut (by kernel_rfl) (of_decide_eq_true (by kernel_rfl)) h0 hb hl0) (trodAll_cons_mk (Below.trod laidOut (by kernel_rfl) (of_decide_eq_true (by kernel_rfl)) h1 hb hl1) (trodAll_mk0))
  simp only [List.append_nil] at hk
  exact hk

theorem fnExactInfosGive_row : Rows.FnExactInfosGiveSaid :=
  OpenClaim.holds_of_wide 9 Tryd.f9 rfl rfl rfl rfl rfl rfl rfl ⟨rfl, rfl, rfl, rfl, rfl⟩ rfl rfl rfl rfl rfl (by kernel_rfl) Tryd.func9 (by kernel_rfl)
    (of_decide_eq_true (by kernel_rfl)) (by unfold Func.isWrapper; first | (rw [if_pos (by decide +kernel)]; kernel_rfl) | (rw [if_neg (by decide +kernel)]; exact ⟨rfl, rfl⟩))
    (fun os started H enc _ => fnExactInfosGive_l os started H enc)

theorem fnExactInfosGive_holds : Rows.FnExactInfosGiveCardSaid :=
  Claim7.holds_tied_plain_at .later [] [.data, .pinned] true Rows.fnExactInfosGiveCard.stood.harness false fnExactInfosGive_row (fun _ h => by cases h) (by kernel_rfl) (fun _ h => by cases h) fnExactInfosGive_row_tie rfl ⟨rfl, rfl⟩ (by kernel_rfl) rfl
    (fun f fn hf hfn => by
      obtain rfl : f = 9 := Option.some.inj ((show Tryd.prog.funcNamed "loop.example/exopager/laws.FnExactInfosGive" = some 9 by kernel_rfl).symm.trans hf) |>.symm
      obtain rfl : fn = Tryd.f9 := (Option.some.inj (Tryd.func9.symm.trans hfn)).symm
      exact ⟨by kernel_rfl, fun j t ht => by
        rw [Tryd.params9] at ht
        have hm : t ∈ [29, 3] := by simpa using Array.mem_of_getElem? ht
        have hall : ([29, 3].all fun u => !Tryd.prog.wantsStandIn u) = true := by kernel_rfl
        exact (show Tryd.prog.wantsStandIn t = false by simpa using List.all_eq_true.1 hall t hm)⟩)
    (by kernel_rfl)

end Go.Proofs.YtdeempkiffdlnaaDoor
