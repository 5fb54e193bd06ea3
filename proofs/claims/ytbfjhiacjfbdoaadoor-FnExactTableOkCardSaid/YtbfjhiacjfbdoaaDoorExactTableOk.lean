/- FnExactTableOk returns true for all arguments. No conditions. -/
import Derived.Test.YtbfjhiacjfbdoaaDoorTabF
import Derived.Test.YtbfjhiacjfbdoaaDoorOpenInfo
import Derived.Test.YtbfjhiacjfbdoaaDoorOpenII
import Derived.Test.YtbfjhiacjfbdoaaDoorTie
import Derived.Test.YtbfjhiacjfbdoaaDoorCards
import Derived.Lay
import Derived.LaidOnce
import Derived.SevenTiedAt
namespace Go.Proofs.YtbfjhiacjfbdoaaDoor
open Go.ChangeShapes Go.WideShapes Go.ChangeAt Go.RowKit
set_option linter.all false
set_option maxRecDepth 100000
attribute [local go_sem ↓] Go.wp_at_zero Go.wp_at_succ

set_option maxHeartbeats 4000000 in
theorem fnExactTableOk_w (x0 : List (List Int)) (v0 : Value) (x1 : List Info) (v1 : Value) (x2 : Int) (x3 : Int) (x4 : List Txt) (v4 : Value) (w : World) (hx0 : RdII w v0 x0) (hx1 : RdFF w v1 x1) (hx4 : RdSF w v4 x4)  :
    Calls Tryd.prog 5 #[v0, v1, .int .i64 x2, .int .i64 x3, v4] w fun e w' => e = .returned (.bool true) ∧ Below w.heap.size w w' := by
  have HX0 := Lib.hid hx0
  clear hx0
  have HX1 := Lib.hid hx1
  clear hx1
  have HX4 := Lib.hid hx4
  clear hx4
  by_cases hl0 : ((x0.length : Int) + sumLen x0) ≤ (1048576 : Int)
  rotate_left
  · have HS := Lib.hid (show szv (1048576 : Int) ((x0.length : Int) + sumLen x0) = -1 from szv_neg (by omega))
    have hb := bref w
    go_enter Tryd.func5, Tryd.ntmps5
    go_wp2_with fail
    refine (szIntSS_c x0 v0 _ _ (HX0.out.below hb) (by omega)).mono ?_
    rintro e w' ⟨rfl, rfl⟩
    rw [HS.out]
    go_wp2
    go_ret
    exact ⟨rfl, hb⟩
  have HZ0 := Lib.hid (show szv (1048576 : Int) ((x0.length : Int) + sumLen x0) = (1048576 : Int) - ((x0.length : Int) + sumLen x0) from szv_pos (by omega))
  by_cases hl1 : ((x1.length : Int) + infSum x1) ≤ ((1048576 : Int) - ((x0.length : Int) + sumLen x0))
  rotate_left
  · have HS := Lib.hid (show szv ((1048576 : Int) - ((x0.length : Int) + sumLen x0)) ((x1.length : Int) + infSum x1) = -1 from szv_neg (by omega))
    have hb := bref w
    go_enter Tryd.func5, Tryd.ntmps5
    go_wp2_with fail
    refine (szIntSS_c x0 v0 _ _ (HX0.out.below hb) (by omega)).mono ?_
    rintro e w' ⟨rfl, rfl⟩
    rw [HZ0.out]
    go_wp2_with fail
    refine (szInfoS_c x1 v1 _ _ (HX1.out.below hb).1 (HX1.out.below hb).2 (by omega)).mono ?_
    rintro e W1z ⟨rfl, hb1⟩
    replace hb := bnext hb hb1
    clear hb1
    rw [HS.out]
    go_wp2
    go_ret
    exact ⟨rfl, hb⟩
  have HZ1 := Lib.hid (show szv ((1048576 : Int) - ((x0.length : Int) + sumLen x0)) ((x1.length : Int) + infSum x1) = ((1048576 : Int) - ((x0.length : Int) + sumLen x0)) - ((x1.length : Int) + infSum x1) from szv_pos (by omega))
  by_cases hl4 : ((x4.length : Int) + strSum x4) ≤ (((1048576 : Int) - ((x0.length : Int) + sumLen x0)) - ((x1.length : Int) + infSum x1))
  rotate_left
  · have HS := Lib.hid (show szv (((1048576 : Int) - ((x0.length : Int) + sumLen x0)) - ((x1.length : Int) + infSum x1)) ((x4.length : Int) + strSum x4) = -1 from szv_neg (by omega))
    have hb := bref w
    go_enter Tryd.func5, Tryd.ntmps5
    go_wp2_with fail
    refine (szIntSS_c x0 v0 _ _ (HX0.out.below hb) (by omega)).mono ?_
    rintro e w' ⟨rfl, rfl⟩
    rw [HZ0.out]
    go_wp2_with fail
    refine (szInfoS_c x1 v1 _ _ (HX1.out.below hb).1 (HX1.out.below hb).2 (by omega)).mono ?_
    rintro e W1z ⟨rfl, hb1⟩
    replace hb := bnext hb hb1
    clear hb1
    rw [HZ1.out]
    go_wp2_with fail
    refine (szStringS_c x4 v4 _ _ (HX4.out.below hb).1 (HX4.out.below hb).2 (by omega)).mono ?_
    rintro e w' ⟨rfl, rfl⟩
    rw [HS.out]
    go_wp2
    go_ret
    exact ⟨rfl, hb⟩
  have HZ4 := Lib.hid (show szv (((1048576 : Int) - ((x0.length : Int) + sumLen x0)) - ((x1.length : Int) + infSum x1)) ((x4.length : Int) + strSum x4) = (((1048576 : Int) - ((x0.length : Int) + sumLen x0)) - ((x1.length : Int) + infSum x1)) - ((x4.length : Int) + strSum x4) from szv_pos (by omega))
  have hb := bref w
  go_enter Tryd.func5, Tryd.ntmps5
  go_wp2_with fail
  refine (szIntSS_c x0 v0 _ _ HX0.out (by omega)).mono ?_
  rintro e w' ⟨rfl, rfl⟩
  rw [HZ0.out]
  go_wp2_with fail
  refine (szInfoS_c x1 v1 _ _ HX1.out.1 HX1.out.2 (by omega)).mono ?_
  rintro e W1 ⟨rfl, hb1⟩
  rw [HZ1.out]
  have szW1 := hb1.size
  replace hb := bnext hb hb1
  clear hb1
  go_wp2_with fail
  refine (szStringS_c x4 v4 _ _ (HX4.out.below hb).1 (HX4.out.below hb).2 (by omega)).mono ?_
  rintro e w' ⟨rfl, rfl⟩
  rw [HZ4.out]
  go_wp2_with fail
  refine (toIntSS_c x0 v0 _ (HX0.out.below hb) (by omega)).mono ?_
  rintro e W2 ⟨uW2, rfl, ho1, hb1⟩
  have hc := Chg.of_below hb1
  have szW2 := hc.size
  replace hb : Below w.heap.size w W2 := bnext hb hb1
  clear hc
  have HO1 := Lib.hid ho1
  go_wp2_with fail
  refine (toInfoS_c x1 v1 _ (HX1.out.below hb).1 (by omega)).mono ?_
  rintro e W3 ⟨uW3, rfl, ho1, hb1⟩
  have hc := Chg.of_below hb1
  have szW3 := hc.size
  have HO2 := Lib.hid (HO1.out.keep hc (.inr (Nat.zero_le _)))
  clear HO1
  replace hb : Below w.heap.size w W3 := bnext hb hb1
  clear hc
  have HO3 := Lib.hid (OwF.of ho1 (Nat.le_refl _))
  go_wp2_with fail
  refine (toStringS_c x4 v4 _ (HX4.out.below hb).1 (by omega)).mono ?_
  rintro e W4 ⟨uW4, rfl, ho1, hb1⟩
  have hc := Chg.of_below hb1
  have szW4 := hc.size
  have HO4 := Lib.hid (HO2.out.keep hc (.inr (Nat.zero_le _)))
  clear HO2
  have HO5 := Lib.hid (HO3.out.keep hc (.inr (Nat.zero_le _)))
  clear HO3
  replace hb : Below w.heap.size w W4 := bnext hb hb1
  clear hc
  have HO6 := Lib.hid (OwF.of ho1 (Nat.le_refl _))
  go_wp2_with fail
  refine (specTableOk_c x0 x1 uW2 uW3 uW4 x2 x3 x4 _ (HO4.out.rd encI_len) (HO5.out.rd Info.enc_len) HX1.out.2 (HO6.out.rd encS_len) HX4.out.2).mono ?_
  rintro e W5 ⟨rfl, hb1⟩
  have hc := Chg.of_below hb1
  have szW5 := hc.size
  have HO7 := Lib.hid (HO4.out.keep hc (.inr (Nat.zero_le _)))
  clear HO4
  have HO8 := Lib.hid (HO5.out.keep hc (.inr (Nat.zero_le _)))
  clear HO5
  have HO9 := Lib.hid (HO6.out.keep hc (.inr (Nat.zero_le _)))
  clear HO6
  replace hb : Below w.heap.size w W5 := bnext hb hb1
  clear hc
  go_wp2_with fail
  refine (toIntSS_c x0 v0 _ (HX0.out.below hb) (by omega)).mono ?_
  rintro e W6 ⟨uW6, rfl, ho1, hb1⟩
  have hc := Chg.of_below hb1
  have szW6 := hc.size
  have HO10 := Lib.hid (HO7.out.keep hc (.inr (Nat.zero_le _)))
  clear HO7
  have HO11 := Lib.hid (HO8.out.keep hc (.inr (Nat.zero_le _)))
  clear HO8
  have HO12 := Lib.hid (HO9.out.keep hc (.inr (Nat.zero_le _)))
  clear HO9
  replace hb : Below w.heap.size w W6 := bnext hb hb1
  clear hc
  have HO13 := Lib.hid ho1
  go_wp2_with fail
  refine (toInfoS_c x1 v1 _ (HX1.out.below hb).1 (by omega)).mono ?_
  rintro e W7 ⟨uW7, rfl, ho1, hb1⟩
  have hc := Chg.of_below hb1
  have szW7 := hc.size
  have HO14 := Lib.hid (HO10.out.keep hc (.inr (Nat.zero_le _)))
  clear HO10
  have HO15 := Lib.hid (HO11.out.keep hc (.inr (Nat.zero_le _)))
  clear HO11
  have HO16 := Lib.hid (HO12.out.keep hc (.inr (Nat.zero_le _)))
  clear HO12
  have HO17 := Lib.hid (HO13.out.keep hc (.inr (Nat.zero_le _)))
  clear HO13
  replace hb : Below w.heap.size w W7 := bnext hb hb1
  clear hc
  have HO18 := Lib.hid (OwF.of ho1 (Nat.le_refl _))
  go_wp2_with fail
  refine (toStringS_c x4 v4 _ (HX4.out.below hb).1 (by omega)).mono ?_
  rintro e W8 ⟨uW8, rfl, ho1, hb1⟩
  have hc := Chg.of_below hb1
  have szW8 := hc.size
  have HO19 := Lib.hid (HO14.out.keep hc (.inr (Nat.zero_le _)))
  clear HO14
  have HO20 := Lib.hid (HO15.out.keep hc (.inr (Nat.zero_le _)))
  clear HO15
  have HO21 := Lib.hid (HO16.out.keep hc (.inr (Nat.zero_le _)))
  clear HO16
  have HO22 := Lib.hid (HO17.out.keep hc (.inr (Nat.zero_le _)))
  clear HO17
  have HO23 := Lib.hid (HO18.out.keep hc (.inr (Nat.zero_le _)))
  clear HO18
  replace hb : Below w.heap.size w W8 := bnext hb hb1
  clear hc
  have HO24 := Lib.hid (OwF.of ho1 (Nat.le_refl _))
  go_wp2_with fail
  refine (implTableOk_c x0 x1 uW6 uW7 uW8 x2 x3 x4 _ (HO22.out.rd encI_len) (HO23.out.rd Info.enc_len) HX1.out.2 (HO24.out.rd encS_len) HX4.out.2).mono ?_
  rintro e W9 ⟨rfl, hb1⟩
  have hc := Chg.of_below hb1
  have szW9 := hc.size
  have HO25 := Lib.hid (HO19.out.keep hc (.inr (Nat.zero_le _)))
  clear HO19
  have HO26 := Lib.hid (HO20.out.keep hc (.inr (Nat.zero_le _)))
  clear HO20
  have HO27 := Lib.hid (HO21.out.keep hc (.inr (Nat.zero_le _)))
  clear HO21
  have HO28 := Lib.hid (HO22.out.keep hc (.inr (Nat.zero_le _)))
  clear HO22
  have HO29 := Lib.hid (HO23.out.keep hc (.inr (Nat.zero_le _)))
  clear HO23
  have HO30 := Lib.hid (HO24.out.keep hc (.inr (Nat.zero_le _)))
  clear HO24
  replace hb : Below w.heap.size w W9 := bnext hb hb1
  clear hc
  go_wp2_with fail
  refine (toIntSS_c x0 v0 _ (HX0.out.below hb) (by omega)).mono ?_
  rintro e W10 ⟨uW10, rfl, ho1, hb1⟩
  have hc := Chg.of_below hb1
  have szW10 := hc.size
  have HO31 := Lib.hid (HO25.out.keep hc (.inr (Nat.zero_le _)))
  clear HO25
  have HO32 := Lib.hid (HO26.out.keep hc (.inr (Nat.zero_le _)))
  clear HO26
  have HO33 := Lib.hid (HO27.out.keep hc (.inr (Nat.zero_le _)))
  clear HO27
  have HO34 := Lib.hid (HO28.out.keep hc (.inr (Nat.zero_le _)))
  clear HO28
  have HO35 := Lib.hid (HO29.out.keep hc (.inr (Nat.zero_le _)))
  clear HO29
  have HO36 := Lib.hid (HO30.out.keep hc (.inr (Nat.zero_le _)))
  clear HO30
  replace hb : Below w.heap.size w W10 := bnext hb hb1
  clear hc
  have HO37 := Lib.hid ho1
  go_wp2_with fail
  refine (eqIntSS_c x0 x0 uW6 uW10 _ (HO34.out.rd encI_len) (HO37.out.rd encI_len)).mono ?_
  rintro e W11 ⟨rfl, hb1⟩
  rw [decide_eq_true (rfl : x0 = x0)]
  have hc := Chg.of_below hb1
  have szW11 := hc.size
  have HO38 := Lib.hid (HO31.out.keep hc (.inr (Nat.zero_le _)))
  clear HO31
  have HO39 := Lib.hid (HO32.out.keep hc (.inr (Nat.zero_le _)))
  clear HO32
  have HO40 := Lib.hid (HO33.out.keep hc (.inr (Nat.zero_le _)))
  clear HO33
  have HO41 := Lib.hid (HO34.out.keep hc (.inr (Nat.zero_le _)))
  clear HO34
  have HO42 := Lib.hid (HO35.out.keep hc (.inr (Nat.zero_le _)))
  clear HO35
  have HO43 := Lib.hid (HO36.out.keep hc (.inr (Nat.zero_le _)))
  clear HO36
  have HO44 := Lib.hid (HO37.out.keep hc (.inr (Nat.zero_le _)))
  clear HO37
  replace hb : Below w.heap.size w W11 := bnext hb hb1
  clear hc
  go_wp2_with fail
  refine (toInfoS_c x1 v1 _ (HX1.out.below hb).1 (by omega)).mono ?_
  rintro e W12 ⟨uW12, rfl, ho1, hb1⟩
  have hc := Chg.of_below hb1
  have szW12 := hc.size
  have HO45 := Lib.hid (HO38.out.keep hc (.inr (Nat.zero_le _)))
  clear HO38
  have HO46 := Lib.hid (HO39.out.keep hc (.inr (Nat.zero_le _)))
  clear HO39
  have HO47 := Lib.hid (HO40.out.keep hc (.inr (Nat.zero_le _)))
  clear HO40
  have HO48 := Lib.hid (HO41.out.keep hc (.inr (Nat.zero_le _)))
  clear HO41
  have HO49 := Lib.hid (HO42.out.keep hc (.inr (Nat.zero_le _)))
  clear HO42
  have HO50 := Lib.hid (HO43.out.keep hc (.inr (Nat.zero_le _)))
  clear HO43
  have HO51 := Lib.hid (HO44.out.keep hc (.inr (Nat.zero_le _)))
  clear HO44
  replace hb : Below w.heap.size w W12 := bnext hb hb1
  clear hc
  have HO52 := Lib.hid (OwF.of ho1 (Nat.le_refl _))
  go_wp2_with fail
  refine (eqInfoS_c x1 x1 uW7 uW12 _ (HO49.out.rd Info.enc_len) (HO52.out.rd Info.enc_len)).mono ?_
  rintro e W13 ⟨rfl, hb1⟩
  rw [decide_eq_true (rfl : x1 = x1)]
  have hc := Chg.of_below hb1
  have szW13 := hc.size
  have HO53 := Lib.hid (HO45.out.keep hc (.inr (Nat.zero_le _)))
  clear HO45
  have HO54 := Lib.hid (HO46.out.keep hc (.inr (Nat.zero_le _)))
  clear HO46
  have HO55 := Lib.hid (HO47.out.keep hc (.inr (Nat.zero_le _)))
  clear HO47
  have HO56 := Lib.hid (HO48.out.keep hc (.inr (Nat.zero_le _)))
  clear HO48
  have HO57 := Lib.hid (HO49.out.keep hc (.inr (Nat.zero_le _)))
  clear HO49
  have HO58 := Lib.hid (HO50.out.keep hc (.inr (Nat.zero_le _)))
  clear HO50
  have HO59 := Lib.hid (HO51.out.keep hc (.inr (Nat.zero_le _)))
  clear HO51
  have HO60 := Lib.hid (HO52.out.keep hc (.inr (Nat.zero_le _)))
  clear HO52
  replace hb : Below w.heap.size w W13 := bnext hb hb1
  clear hc
  go_wp2_with fail
  refine (toStringS_c x4 v4 _ (HX4.out.below hb).1 (by omega)).mono ?_
  rintro e W14 ⟨uW14, rfl, ho1, hb1⟩
  have hc := Chg.of_below hb1
  have szW14 := hc.size
  have HO61 := Lib.hid (HO53.out.keep hc (.inr (Nat.zero_le _)))
  clear HO53
  have HO62 := Lib.hid (HO54.out.keep hc (.inr (Nat.zero_le _)))
  clear HO54
  have HO63 := Lib.hid (HO55.out.keep hc (.inr (Nat.zero_le _)))
  clear HO55
  have HO64 := Lib.hid (HO56.out.keep hc (.inr (Nat.zero_le _)))
  clear HO56
  have HO65 := Lib.hid (HO57.out.keep hc (.inr (Nat.zero_le _)))
  clear HO57
  have HO66 := Lib.hid (HO58.out.keep hc (.inr (Nat.zero_le _)))
  clear HO58
  have HO67 := Lib.hid (HO59.out.keep hc (.inr (Nat.zero_le _)))
  clear HO59
  have HO68 := Lib.hid (HO60.out.keep hc (.inr (Nat.zero_le _)))
  clear HO60
  replace hb : Below w.heap.size w W14 := bnext hb hb1
  clear hc
  have HO69 := Lib.hid (OwF.of ho1 (Nat.le_refl _))
  go_wp2_with fail
  refine (eqStringS_c x4 x4 uW8 uW14 _ (HO66.out.rd encS_len) (HO69.out.rd encS_len)).mono ?_
  rintro e W15 ⟨rfl, hb1⟩
  rw [decide_eq_true (rfl : x4 = x4)]
  have hc := Chg.of_below hb1
  have szW15 := hc.size
  have HO70 := Lib.hid (HO61.out.keep hc (.inr (Nat.zero_le _)))
  clear HO61
  have HO71 := Lib.hid (HO62.out.keep hc (.inr (Nat.zero_le _)))
  clear HO62
  have HO72 := Lib.hid (HO63.out.keep hc (.inr (Nat.zero_le _)))
  clear HO63
  have HO73 := Lib.hid (HO64.out.keep hc (.inr (Nat.zero_le _)))
  clear HO64
  have HO74 := Lib.hid (HO65.out.keep hc (.inr (Nat.zero_le _)))
  clear HO65
  have HO75 := Lib.hid (HO66.out.keep hc (.inr (Nat.zero_le _)))
  clear HO66
  have HO76 := Lib.hid (HO67.out.keep hc (.inr (Nat.zero_le _)))
  clear HO67
  have HO77 := Lib.hid (HO68.out.keep hc (.inr (Nat.zero_le _)))
  clear HO68
  have HO78 := Lib.hid (HO69.out.keep hc (.inr (Nat.zero_le _)))
  clear HO69
  replace hb : Below w.heap.size w W15 := bnext hb hb1
  clear hc
  go_wp2
  go_ret
  exact ⟨rfl, hb⟩

set_option maxRecDepth 100000 in
theorem fnExactTableOk_l (os : Os) (started : os.Started) (H : Type) (enc : TypeId × Value → H) :
    ReturnsInHanded {} Tryd.checked os 5 .any (fun w args => (Rows.fnExactTableOkSpec.pre enc Tryd.prog Tryd.f5 [] false w args ∧ laidMetH Tryd.prog Rows.fnExactTableOkRow.laid w) ∧ sizedMet enc Tryd.prog Tryd.f5 (OpenSpec.ofChange Rows.fnExactTableOkSpec) false w args)
      (Rows.fnExactTableOkSpec.post enc Tryd.prog Tryd.f5 false true false false) := by
  refine returnsInHanded_of_change_and (C := Tryd.checked) (X := fun w _ => laidMetH Tryd.prog Rows.fnExactTableOkRow.laid w) (fun _ _ _ hh h => h.of_heap hh) own started (by kernel_rfl) Tryd.func5
    (ChangeSpec.witness_shaped (enc := enc) (C := Tryd.checked) (os := os) (X := fun w _ => laidMetH Tryd.prog Rows.fnExactTableOkRow.laid w) false (World.laidAll Tryd.prog os Rows.fnExactTableOkRow.laid) #[.slice none 0 0, .slice none 0 0, .int .i64 0, .int .i64 0, .slice none 0 0] 8 (World.laidAll_os _ _ _)
      (World.shaped_of_ZipB (by kernel_rfl) (by kernel_rfl)) (by kernel_rfl) (by kernel_rfl) (by kernel_rfl)
      (by rw [MakeChecks.laidMetH_plain _ _ _ (by kernel_rfl)]; exact laidMet_laidAll _ (by kernel_rfl) (by kernel_rfl))) ?_
  intro W base args ds gs before hval0 hW _ _ _ _
  have hval : ∀ (j : Nat) t v, Tryd.f5.params[j]? = some t → args[j]? = some v → Value.okWide Tryd.prog W .any base t v := hval0
  have hW' := hW
  obtain ⟨p, q, hA0, hV, rfl, _, _⟩ := hW
  have hA : DataW.TrodAll enc Tryd.prog W 0 (fun _ => true) true Tryd.f5.params.toList args.toList ds p := hA0
  rw [Tryd.params5] at hA hval
  obtain ⟨v0, vs0, d0, ds0, p0, q0, hargs, rfl, rfl, h0, r0⟩ := trodAll_cons hA
  obtain ⟨v1, vs1, d1, ds1, p1, q1, rfl, rfl, rfl, h1, r1⟩ := trodAll_cons r0
  obtain ⟨v2, vs2, d2, ds2, p2, q2, rfl, rfl, rfl, h2, r2⟩ := trodAll_cons r1
  obtain ⟨v3, vs3, d3, ds3, p3, q3, rfl, rfl, rfl, h3, r3⟩ := trodAll_cons r2
  obtain ⟨v4, vs4, d4, ds4, p4, q4, rfl, rfl, rfl, h4, r4⟩ := trodAll_cons r3
  obtain ⟨rfl, rfl, rfl⟩ := trodAll_nil r4
  obtain rfl : args = #[v0, v1, v2, v3, v4] := by cases args; simp_all
  obtain ⟨rfl, rfl⟩ := trodVars_none hV
  clear hA0 hval0
  simp only [List.append_nil] at hW'
  have hl0 : ∀ x ∈ p0, x.block < W.heap.size := fun x hx => by simpa using hW'.lt x (by simp [hx])
  have hl1 : ∀ x ∈ p1, x.block < W.heap.size := fun x hx => by simpa using hW'.lt x (by simp [hx])
  have hl2 : ∀ x ∈ p2, x.block < W.heap.size := fun x hx => by simpa using hW'.lt x (by simp [hx])
  have hl3 : ∀ x ∈ p3, x.block < W.heap.size := fun x hx => by simpa using hW'.lt x (by simp [hx])
  have hl4 : ∀ x ∈ p4, x.block < W.heap.size := fun x hx => by simpa using hW'.lt x (by simp [hx])
  obtain ⟨x0, hx0⟩ := openII (hval 0 23 v0 rfl rfl) h0
  obtain ⟨x1, hx1⟩ := openInfos (hval 1 38 v1 rfl rfl) h1
  obtain ⟨x2, hv2⟩ := openInt (hval 2 3 v2 rfl rfl) h2
  obtain ⟨x3, hv3⟩ := openInt (hval 3 3 v3 rfl rfl) h3
  obtain ⟨x4, hx4⟩ := openTexts (hval 4 48 v4 rfl rfl) h4
  subst hv2
  subst hv3
  refine (fnExactTableOk_w x0 v0 x1 v1 x2 x3 x4 v4 W hx0 hx1   hx4).mono fun e W' ⟨he, hb⟩ => ?_
  subst he
  refine ⟨_, rfl, _, _, _, [], p0 ++ (p1 ++ (p2 ++ (p3 ++ p4))), [], hW', trodAll_cons_mk (shut_bool Tryd.underlying4 _) trodAll_mk0, ?_, rfl, hb.frame _, fun h => by cases h⟩
  have hk := trodAll_cons_mk (Below.trod laidOut (by kernel_rfl) (of_decide_eq_true (by kernel_rfl)) h0 hb hl0) (trodAll_cons_mk (Below.trod laidOut (by kernel_rfl) (of_decide_eq_true (by kernel_rfl)) h1 hb hl1) (trodAll_cons_mk (Below.trod laidOut (by kernel_rfl) (of_decide_eq_true (by kernel_rfl)) h2 hb hl2) (trodAll_cons_mk (Below.trod laidOut (by kernel_rfl) (of_decide_eq_true (by kernel_rfl)) h3 hb hl3) (trodAll_cons_mk (Below.trod laidOut (by kernel_rfl) (of_decide_eq_true (by kernel_rfl)) h4 hb hl4) (trodAll_mk0)))))
  simp only [List.append_nil] at hk
  exact hk

theorem fnExactTableOk_row : Rows.FnExactTableOkSaid :=
  OpenClaim.holds_of_wide 5 Tryd.f5 rfl rfl rfl rfl rfl rfl rfl ⟨rfl, rfl, rfl, rfl, rfl⟩ rfl rfl rfl rfl rfl (by kernel_rfl) Tryd.func5 (by kernel_rfl)
    (of_decide_eq_true (by kernel_rfl)) (by unfold Func.isWrapper; first | (rw [if_pos (by decide +kernel)]; kernel_rfl) | (rw [if_neg (by decide +kernel)]; exact ⟨rfl, rfl⟩))
    (fun os started H enc _ => fnExactTableOk_l os started H enc)

theorem fnExactTableOk_holds : Rows.FnExactTableOkCardSaid :=
  Claim7.holds_tied_plain_at .later [] [.data, .pinned] true Rows.fnExactTableOkCard.stood.harness false fnExactTableOk_row (fun _ h => by cases h) (by kernel_rfl) (fun _ h => by cases h) fnExactTableOk_row_tie rfl ⟨rfl, rfl⟩ (by kernel_rfl) rfl
    (fun f fn hf hfn => by
      obtain rfl : f = 5 := Option.some.inj ((show Tryd.prog.funcNamed "loop.example/exopager/laws.FnExactTableOk" = some 5 by kernel_rfl).symm.trans hf) |>.symm
      obtain rfl : fn = Tryd.f5 := (Option.some.inj (Tryd.func5.symm.trans hfn)).symm
      exact ⟨by kernel_rfl, fun j t ht => by
        rw [Tryd.params5] at ht
        have hm : t ∈ [23, 38, 3, 3, 48] := by simpa using Array.mem_of_getElem? ht
        have hall : ([23, 38, 3, 3, 48].all fun u => !Tryd.prog.wantsStandIn u) = true := by kernel_rfl
        exact (show Tryd.prog.wantsStandIn t = false by simpa using List.all_eq_true.1 hall t hm)⟩)
    (by kernel_rfl)

end Go.Proofs.YtbfjhiacjfbdoaaDoor
