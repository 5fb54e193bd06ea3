/- FnExactTablePin returns true for all arguments. No conditions. -/
import Derived.Test.YtklphfmjdgnpnaaDoorTabL
import Derived.Test.YtklphfmjdgnpnaaDoorOpenInfo
import Derived.Test.YtklphfmjdgnpnaaDoorOpenII
import Derived.Test.YtklphfmjdgnpnaaDoorTie
import Derived.Test.YtklphfmjdgnpnaaDoorCards
import Derived.Lay
import Derived.LaidOnce
import Derived.SevenTiedAt
namespace Go.Proofs.YtklphfmjdgnpnaaDoor
open Go.ChangeShapes Go.WideShapes Go.ChangeAt Go.RowKit
set_option linter.all false
set_option maxRecDepth 100000
attribute [local go_sem ↓] Go.wp_at_zero Go.wp_at_succ

theorem pinL_le (m : List (List Int)) (xs : List Info) (f kind : Int) (rs : List Txt) : (pinL m xs f kind rs).length ≤ 12 := by
  cases h : pinA m xs f kind rs
  · rw [(pinC_bad h).2]; simp
  · have ha := (pinA_arg h).1
    have hl : xs.length = 12 := infosOk_len (by simp only [argB, Bool.and_eq_true] at ha; exact ha.2)
    by_cases hc : pinC m xs f kind rs = 0
    · rw [(pin_done hc).2.2.2.2, pinned_len, hl]; omega
    · rw [pinL_keep h hc, hl]; omega
set_option maxHeartbeats 4000000 in
theorem fnExactTablePin_w (x0 : List (List Int)) (v0 : Value) (x1 : List Info) (v1 : Value) (x2 : Int) (x3 : Int) (x4 : List Txt) (v4 : Value) (w : World) (hx0 : RdII w v0 x0) (hx1 : RdFF w v1 x1) (hx4 : RdSF w v4 x4)  :
    Calls Tryd.prog 13 #[v0, v1, .int .i64 x2, .int .i64 x3, v4] w fun e w' => e = .returned (.bool true) ∧ Below w.heap.size w w' := by
  have HX0 := Lib.hid hx0
  clear hx0
  have HX1 := Lib.hid hx1
  clear hx1
  have HX4 := Lib.hid hx4
  clear hx4
  by_cases hl0 : ((x0.length : Int) + sumLen x0) ≤ (1048576 : Int)
  rotate_left
  · have HS := Lib.hid (show szv (1048576 : Int) ((x0.length : Int) + sumLen x0) = -1 from szv_neg (by omega))
    have hb := bref w
    go_enter Tryd.func13, Tryd.ntmps13
    go_wp2_with fail
    refine (szIntSS_c x0 v0 _ _ (HX0.out.below hb) (by omega)).mono ?_
    rintro e w' ⟨rfl, rfl⟩
    rw [HS.out]
    go_wp2
    go_ret
    exact ⟨rfl, hb⟩
  have HZ0 := Lib.hid (show szv (1048576 : Int) ((x0.length : Int) + sumLen x0) = (1048576 : Int) - ((x0.length : Int) + sumLen x0) from szv_pos (by omega))
  by_cases hl1 : ((x1.length : Int) + infSum x1) ≤ ((1048576 : Int) - ((x0.length : Int) + sumLen x0))
  rotate_left
  · have HS := Lib.hid (show szv ((1048576 : Int) - ((x0.length : Int) + sumLen x0)) ((x1.length : Int) + infSum x1) = -1 from szv_neg (by omega))
    have hb := bref w
    go_enter Tryd.func13, Tryd.ntmps13
    go_wp2_with fail
    refine (szIntSS_c x0 v0 _ _ (HX0.out.below hb) (by omega)).mono ?_
    rintro e w' ⟨rfl, rfl⟩
    rw [HZ0.out]
    go_wp2_with fail
    refine (szInfoS_c x1 v1 _ _ (HX1.out.below hb).1 (HX1.out.below hb).2 (by omega)).mono ?_
    rintro e W1z ⟨rfl, hb1⟩
    replace hb := bnext hb hb1
    clear hb1
    rw [HS.out]
    go_wp2
    go_ret
    exact ⟨rfl, hb⟩
  have HZ1 := Lib.hid (show szv ((1048576 : Int) - ((x0.length : Int) + sumLen x0)) ((x1.length : Int) + infSum x1) = ((1048576 : Int) - ((x0.length : Int) + sumLen x0)) - ((x1.length : Int) + infSum x1) from szv_pos (by omega))
  by_cases hl4 : ((x4.length : Int) + strSum x4) ≤ (((1048576 : Int) - ((x0.length : Int) + sumLen x0)) - ((x1.length : Int) + infSum x1))
  rotate_left
  · have HS := Lib.hid (show szv (((1048576 : Int) - ((x0.length : Int) + sumLen x0)) - ((x1.length : Int) + infSum x1)) ((x4.length : Int) + strSum x4) = -1 from szv_neg (by omega))
    have hb := bref w
    go_enter Tryd.func13, Tryd.ntmps13
    go_wp2_with fail
    refine (szIntSS_c x0 v0 _ _ (HX0.out.below hb) (by omega)).mono ?_
    rintro e w' ⟨rfl, rfl⟩
    rw [HZ0.out]
    go_wp2_with fail
    refine (szInfoS_c x1 v1 _ _ (HX1.out.below hb).1 (HX1.out.below hb).2 (by omega)).mono ?_
    rintro e W1z ⟨rfl, hb1⟩
    replace hb := bnext hb hb1
    clear hb1
    rw [HZ1.out]
    go_wp2_with fail
    refine (szStringS_c x4 v4 _ _ (HX4.out.below hb).1 (HX4.out.below hb).2 (by omega)).mono ?_
    rintro e w' ⟨rfl, rfl⟩
    rw [HS.out]
    go_wp2
    go_ret
    exact ⟨rfl, hb⟩
  have HZ4 := Lib.hid (show szv (((1048576 : Int) - ((x0.length : Int) + sumLen x0)) - ((x1.length : Int) + infSum x1)) ((x4.length : Int) + strSum x4) = (((1048576 : Int) - ((x0.length : Int) + sumLen x0)) - ((x1.length : Int) + infSum x1)) - ((x4.length : Int) + strSum x4) from szv_pos (by omega))
  have hul := pinL_le x0 x1 x2 x3 x4
  have hb := bref w
  go_enter Tryd.func13, Tryd.ntmps13
  go_wp2_with fail
  refine (szIntSS_c x0 v0 _ _ HX0.out (by omega)).mono ?_
  rintro e w' ⟨rfl, rfl⟩
  rw [HZ0.out]
  go_wp2_with fail
  refine (szInfoS_c x1 v1 _ _ HX1.out.1 HX1.out.2 (by omega)).mono ?_
  rintro e W1 ⟨rfl, hb1⟩
  rw [HZ1.out]
  have szW1 := hb1.size
  replace hb := bnext hb hb1
  clear hb1
  go_wp2_with fail
  refine (szStringS_c x4 v4 _ _ (HX4.out.below hb).1 (HX4.out.below hb).2 (by omega)).mono ?_
  rintro e w' ⟨rfl, rfl⟩
  rw [HZ4.out]
  go_wp2_with fail
  refine (toIntSS_c x0 v0 _ (HX0.out.below hb) (by omega)).mono ?_
  rintro e W2 ⟨uW2, rfl, ho1, hb1⟩
  have hc := Chg.of_below hb1
  have szW2 := hc.size
  replace hb : Below w.heap.size w W2 := bnext hb hb1
  clear hc
  have HO1 := Lib.hid ho1
  go_wp2_with fail
  refine (toInfoS_c x1 v1 _ (HX1.out.below hb).1 (by omega)).mono ?_
  rintro e W3 ⟨uW3, rfl, ho1, hb1⟩
  have hc := Chg.of_below hb1
  have szW3 := hc.size
  have HO2 := Lib.hid (HO1.out.keep hc (.inr (Nat.zero_le _)))
  clear HO1
  replace hb : Below w.heap.size w W3 := bnext hb hb1
  clear hc
  have HO3 := Lib.hid (OwF.of ho1 (Nat.le_refl _))
  go_wp2_with fail
  refine (toStringS_c x4 v4 _ (HX4.out.below hb).1 (by omega)).mono ?_
  rintro e W4 ⟨uW4, rfl, ho1, hb1⟩
  have hc := Chg.of_below hb1
  have szW4 := hc.size
  have HO4 := Lib.hid (HO2.out.keep hc (.inr (Nat.zero_le _)))
  clear HO2
  have HO5 := Lib.hid (HO3.out.keep hc (.inr (Nat.zero_le _)))
  clear HO3
  replace hb : Below w.heap.size w W4 := bnext hb hb1
  clear hc
  have HO6 := Lib.hid (OwF.of ho1 (Nat.le_refl _))
  go_wp2_with fail
  refine (specTablePin_c x0 x1 uW2 uW3 uW4 x2 x3 x4 _ (HO4.out.rd encI_len) (HO5.out.rd Info.enc_len) HX1.out.2 (HO6.out.rd encS_len) HX4.out.2).mono ?_
  rintro e W5 ⟨uW5_0, rfl, ho_uW5_0, hb1⟩
  have hc := Chg.of_below hb1
  have szW5 := hc.size
  have HO7 := Lib.hid (HO4.out.keep hc (.inr (Nat.zero_le _)))
  clear HO4
  have HO8 := Lib.hid (HO5.out.keep hc (.inr (Nat.zero_le _)))
  clear HO5
  have HO9 := Lib.hid (HO6.out.keep hc (.inr (Nat.zero_le _)))
  clear HO6
  replace hb : Below w.heap.size w W5 := bnext hb hb1
  clear hc
  have HO10 := Lib.hid (OwF.of ho_uW5_0 (Nat.le_refl _))
  go_wp2_with fail
  refine (toIntSS_c x0 v0 _ (HX0.out.below hb) (by omega)).mono ?_
  rintro e W6 ⟨uW6, rfl, ho1, hb1⟩
  have hc := Chg.of_below hb1
  have szW6 := hc.size
  have HO11 := Lib.hid (HO7.out.keep hc (.inr (Nat.zero_le _)))
  clear HO7
  have HO12 := Lib.hid (HO8.out.keep hc (.inr (Nat.zero_le _)))
  clear HO8
  have HO13 := Lib.hid (HO9.out.keep hc (.inr (Nat.zero_le _)))
  clear HO9
  have HO14 := Lib.hid (HO10.out.keep hc (.inr (Nat.zero_le _)))
  clear HO10
  replace hb : Below w.heap.size w W6 := bnext hb hb1
  clear hc
  have HO15 := Lib.hid ho1
  go_wp2_with fail
  refine (toInfoS_c x1 v1 _ (HX1.out.below hb).1 (by omega)).mono ?_
  rintro e W7 ⟨uW7, rfl, ho1, hb1⟩
  have hc := Chg.of_below hb1
  have szW7 := hc.size
  have HO16 := Lib.hid (HO11.out.keep hc (.inr (Nat.zero_le _)))
  clear HO11
  have HO17 := Lib.hid (HO12.out.keep hc (.inr (Nat.zero_le _)))
  clear HO12
  have HO18 := Lib.hid (HO13.out.keep hc (.inr (Nat.zero_le _)))
  clear HO13
  have HO19 := Lib.hid (HO14.out.keep hc (.inr (Nat.zero_le _)))
  clear HO14
  have HO20 := Lib.hid (HO15.out.keep hc (.inr (Nat.zero_le _)))
  clear HO15
  replace hb : Below w.heap.size w W7 := bnext hb hb1
  clear hc
  have HO21 := Lib.hid (OwF.of ho1 (Nat.le_refl _))
  go_wp2_with fail
  refine (toStringS_c x4 v4 _ (HX4.out.below hb).1 (by omega)).mono ?_
  rintro e W8 ⟨uW8, rfl, ho1, hb1⟩
  have hc := Chg.of_below hb1
  have szW8 := hc.size
  have HO22 := Lib.hid (HO16.out.keep hc (.inr (Nat.zero_le _)))
  clear HO16
  have HO23 := Lib.hid (HO17.out.keep hc (.inr (Nat.zero_le _)))
  clear HO17
  have HO24 := Lib.hid (HO18.out.keep hc (.inr (Nat.zero_le _)))
  clear HO18
  have HO25 := Lib.hid (HO19.out.keep hc (.inr (Nat.zero_le _)))
  clear HO19
  have HO26 := Lib.hid (HO20.out.keep hc (.inr (Nat.zero_le _)))
  clear HO20
  have HO27 := Lib.hid (HO21.out.keep hc (.inr (Nat.zero_le _)))
  clear HO21
  replace hb : Below w.heap.size w W8 := bnext hb hb1
  clear hc
  have HO28 := Lib.hid (OwF.of ho1 (Nat.le_refl _))
  go_wp2_with fail
  refine (implTablePin_c x0 x1 uW6 uW7 uW8 x2 x3 x4 _ (HO26.out.rd encI_len) (HO27.out.rd Info.enc_len) HX1.out.2 (HO28.out.rd encS_len) HX4.out.2).mono ?_
  rintro e W9 ⟨uW9_0, rfl, ho_uW9_0, hb1⟩
  have hc := Chg.of_below hb1
  have szW9 := hc.size
  have HO29 := Lib.hid (HO22.out.keep hc (.inr (Nat.zero_le _)))
  clear HO22
  have HO30 := Lib.hid (HO23.out.keep hc (.inr (Nat.zero_le _)))
  clear HO23
  have HO31 := Lib.hid (HO24.out.keep hc (.inr (Nat.zero_le _)))
  clear HO24
  have HO32 := Lib.hid (HO25.out.keep hc (.inr (Nat.zero_le _)))
  clear HO25
  have HO33 := Lib.hid (HO26.out.keep hc (.inr (Nat.zero_le _)))
  clear HO26
  have HO34 := Lib.hid (HO27.out.keep hc (.inr (Nat.zero_le _)))
  clear HO27
  have HO35 := Lib.hid (HO28.out.keep hc (.inr (Nat.zero_le _)))
  clear HO28
  replace hb : Below w.heap.size w W9 := bnext hb hb1
  clear hc
  have HO36 := Lib.hid (OwF.of ho_uW9_0 (Nat.le_refl _))
  go_wp2_with fail
  refine (eqInfoS_c (pinL x0 x1 x2 x3 x4) (pinL x0 x1 x2 x3 x4) uW9_0 uW5_0 _ (HO36.out.rd Info.enc_len) (HO32.out.rd Info.enc_len)).mono ?_
  rintro e W10 ⟨rfl, hb1⟩
  rw [decide_eq_true (rfl : (pinL x0 x1 x2 x3 x4) = (pinL x0 x1 x2 x3 x4))]
  have hc := Chg.of_below hb1
  have szW10 := hc.size
  have HO37 := Lib.hid (HO29.out.keep hc (.inr (Nat.zero_le _)))
  clear HO29
  have HO38 := Lib.hid (HO30.out.keep hc (.inr (Nat.zero_le _)))
  clear HO30
  have HO39 := Lib.hid (HO31.out.keep hc (.inr (Nat.zero_le _)))
  clear HO31
  have HO40 := Lib.hid (HO32.out.keep hc (.inr (Nat.zero_le _)))
  clear HO32
  have HO41 := Lib.hid (HO33.out.keep hc (.inr (Nat.zero_le _)))
  clear HO33
  have HO42 := Lib.hid (HO34.out.keep hc (.inr (Nat.zero_le _)))
  clear HO34
  have HO43 := Lib.hid (HO35.out.keep hc (.inr (Nat.zero_le _)))
  clear HO35
  have HO44 := Lib.hid (HO36.out.keep hc (.inr (Nat.zero_le _)))
  clear HO36
  replace hb : Below w.heap.size w W10 := bnext hb hb1
  clear hc
  go_wp2_with fail
  refine (toIntSS_c x0 v0 _ (HX0.out.below hb) (by omega)).mono ?_
  rintro e W11 ⟨uW11, rfl, ho1, hb1⟩
  have hc := Chg.of_below hb1
  have szW11 := hc.size
  have HO45 := Lib.hid (HO37.out.keep hc (.inr (Nat.zero_le _)))
  clear HO37
  have HO46 := Lib.hid (HO38.out.keep hc (.inr (Nat.zero_le _)))
  clear HO38
  have HO47 := Lib.hid (HO39.out.keep hc (.inr (Nat.zero_le _)))
  clear HO39
  have HO48 := Lib.hid (HO40.out.keep hc (.inr (Nat.zero_le _)))
  clear HO40
  have HO49 := Lib.hid (HO41.out.keep hc (.inr (Nat.zero_le _)))
  clear HO41
  have HO50 := Lib.hid (HO42.out.keep hc (.inr (Nat.zero_le _)))
  clear HO42
  have HO51 := Lib.hid (HO43.out.keep hc (.inr (Nat.zero_le _)))
  clear HO43
  have HO52 := Lib.hid (HO44.out.keep hc (.inr (Nat.zero_le _)))
  clear HO44
  replace hb : Below w.heap.size w W11 := bnext hb hb1
  clear hc
  have HO53 := Lib.hid ho1
  go_wp2_with fail
  refine (eqIntSS_c x0 x0 uW6 uW11 _ (HO49.out.rd encI_len) (HO53.out.rd encI_len)).mono ?_
  rintro e W12 ⟨rfl, hb1⟩
  rw [decide_eq_true (rfl : x0 = x0)]
  have hc := Chg.of_below hb1
  have szW12 := hc.size
  have HO54 := Lib.hid (HO45.out.keep hc (.inr (Nat.zero_le _)))
  clear HO45
  have HO55 := Lib.hid (HO46.out.keep hc (.inr (Nat.zero_le _)))
  clear HO46
  have HO56 := Lib.hid (HO47.out.keep hc (.inr (Nat.zero_le _)))
  clear HO47
  have HO57 := Lib.hid (HO48.out.keep hc (.inr (Nat.zero_le _)))
  clear HO48
  have HO58 := Lib.hid (HO49.out.keep hc (.inr (Nat.zero_le _)))
  clear HO49
  have HO59 := Lib.hid (HO50.out.keep hc (.inr (Nat.zero_le _)))
  clear HO50
  have HO60 := Lib.hid (HO51.out.keep hc (.inr (Nat.zero_le _)))
  clear HO51
  have HO61 := Lib.hid (HO52.out.keep hc (.inr (Nat.zero_le _)))
  clear HO52
  have HO62 := Lib.hid (HO53.out.keep hc (.inr (Nat.zero_le _)))
  clear HO53
  replace hb : Below w.heap.size w W12 := bnext hb hb1
  clear hc
  go_wp2_with fail
  refine (toInfoS_c x1 v1 _ (HX1.out.below hb).1 (by omega)).mono ?_
  rintro e W13 ⟨uW13, rfl, ho1, hb1⟩
  have hc := Chg.of_below hb1
  have szW13 := hc.size
  have HO63 := Lib.hid (HO54.out.keep hc (.inr (Nat.zero_le _)))
  clear HO54
  have HO64 := Lib.hid (HO55.out.keep hc (.inr (Nat.zero_le _)))
  clear HO55
  have HO65 := Lib.hid (HO56.out.keep hc (.inr (Nat.zero_le _)))
  clear HO56
  have HO66 := Lib.hid (HO57.out.keep hc (.inr (Nat.zero_le _)))
  clear HO57
  have HO67 := Lib.hid (HO58.out.keep hc (.inr (Nat.zero_le _)))
  clear HO58
  have HO68 := Lib.hid (HO59.out.keep hc (.inr (Nat.zero_le _)))
  clear HO59
  have HO69 := Lib.hid (HO60.out.keep hc (.inr (Nat.zero_le _)))
  clear HO60
  have HO70 := Lib.hid (HO61.out.keep hc (.inr (Nat.zero_le _)))
  clear HO61
  have HO71 := Lib.hid (HO62.out.keep hc (.inr (Nat.zero_le _)))
  clear HO62
  replace hb : Below w.heap.size w W13 := bnext hb hb1
  clear hc
  have HO72 := Lib.hid (OwF.of ho1 (Nat.le_refl _))
  go_wp2_with fail
  refine (eqInfoS_c x1 x1 uW7 uW13 _ (HO68.out.rd Info.enc_len) (HO72.out.rd Info.enc_len)).mono ?_
  rintro e W14 ⟨rfl, hb1⟩
  rw [decide_eq_true (rfl : x1 = x1)]
  have hc := Chg.of_below hb1
  have szW14 := hc.size
  have HO73 := Lib.hid (HO63.out.keep hc (.inr (Nat.zero_le _)))
  clear HO63
  have HO74 := Lib.hid (HO64.out.keep hc (.inr (Nat.zero_le _)))
  clear HO64
  have HO75 := Lib.hid (HO65.out.keep hc (.inr (Nat.zero_le _)))
  clear HO65
  have HO76 := Lib.hid (HO66.out.keep hc (.inr (Nat.zero_le _)))
  clear HO66
  have HO77 := Lib.hid (HO67.out.keep hc (.inr (Nat.zero_le _)))
  clear HO67
  have HO78 := Lib.hid (HO68.out.keep hc (.inr (Nat.zero_le _)))
  clear HO68
  have HO79 := Lib.hid (HO69.out.keep hc (.inr (Nat.zero_le _)))
  clear HO69
  have HO80 := Lib.hid (HO70.out.keep hc (.inr (Nat.zero_le _)))
  clear HO70
  have HO81 := Lib.hid (HO71.out.keep hc (.inr (Nat.zero_le _)))
  clear HO71
  have HO82 := Lib.hid (HO72.out.keep hc (.inr (Nat.zero_le _)))
  clear HO72
  replace hb : Below w.heap.size w W14 := bnext hb hb1
  clear hc
  go_wp2_with fail
  refine (toStringS_c x4 v4 _ (HX4.out.below hb).1 (by omega)).mono ?_
  rintro e W15 ⟨uW15, rfl, ho1, hb1⟩
  have hc := Chg.of_below hb1
  have szW15 := hc.size
  have HO83 := Lib.hid (HO73.out.keep hc (.inr (Nat.zero_le _)))
  clear HO73
  have HO84 := Lib.hid (HO74.out.keep hc (.inr (Nat.zero_le _)))
  clear HO74
  have HO85 := Lib.hid (HO75.out.keep hc (.inr (Nat.zero_le _)))
  clear HO75
  have HO86 := Lib.hid (HO76.out.keep hc (.inr (Nat.zero_le _)))
  clear HO76
  have HO87 := Lib.hid (HO77.out.keep hc (.inr (Nat.zero_le _)))
  clear HO77
  have HO88 := Lib.hid (HO78.out.keep hc (.inr (Nat.zero_le _)))
  clear HO78
  have HO89 := Lib.hid (HO79.out.keep hc (.inr (Nat.zero_le _)))
  clear HO79
  have HO90 := Lib.hid (HO80.out.keep hc (.inr (Nat.zero_le _)))
  clear HO80
  have HO91 := Lib.hid (HO81.out.keep hc (.inr (Nat.zero_le _)))
  clear HO81
  have HO92 := Lib.hid (HO82.out.keep hc (.inr (Nat.zero_le _)))
  clear HO82
  replace hb : Below w.heap.size w W15 := bnext hb hb1
  clear hc
  have HO93 := Lib.hid (OwF.of ho1 (Nat.le_refl _))
  go_wp2_with fail
  refine (eqStringS_c x4 x4 uW8 uW15 _ (HO89.out.rd encS_len) (HO93.out.rd encS_len)).mono ?_
  rintro e W16 ⟨rfl, hb1⟩
  rw [decide_eq_true (rfl : x4 = x4)]
  have hc := Chg.of_below hb1
  have szW16 := hc.size
  have HO94 := Lib.hid (HO83.out.keep hc (.inr (Nat.zero_le _)))
  clear HO83
  have HO95 := Lib.hid (HO84.out.keep hc (.inr (Nat.zero_le _)))
  clear HO84
  have HO96 := Lib.hid (HO85.out.keep hc (.inr (Nat.zero_le _)))
  clear HO85
  have HO97 := Lib.hid (HO86.out.keep hc (.inr (Nat.zero_le _)))
  clear HO86
  have HO98 := Lib.hid (HO87.out.keep hc (.inr (Nat.zero_le _)))
  clear HO87
  have HO99 := Lib.hid (HO88.out.keep hc (.inr (Nat.zero_le _)))
  clear HO88
  have HO100 := Lib.hid (HO89.out.keep hc (.inr (Nat.zero_le _)))
  clear HO89
  have HO101 := Lib.hid (HO90.out.keep hc (.inr (Nat.zero_le _)))
  clear HO90
  have HO102 := Lib.hid (HO91.out.keep hc (.inr (Nat.zero_le _)))
  clear HO91
  have HO103 := Lib.hid (HO92.out.keep hc (.inr (Nat.zero_le _)))
  clear HO92
  have HO104 := Lib.hid (HO93.out.keep hc (.inr (Nat.zero_le _)))
  clear HO93
  replace hb : Below w.heap.size w W16 := bnext hb hb1
  clear hc
  go_wp2_with fail
  refine (markIntSS_c x0 uW6 1 _ _ _ HO98.out (by omega) (by omega)).mono ?_
  rintro e W17 ⟨rfl, ho1, hc1⟩
  have hc := hc1
  have szW17 := hc.size
  have HO105 := Lib.hid (HO94.out.keep hc (by omega))
  clear HO94
  have HO106 := Lib.hid (HO95.out.keep hc (by omega))
  clear HO95
  have HO107 := Lib.hid (HO96.out.keep hc (by omega))
  clear HO96
  have HO108 := Lib.hid (HO97.out.keep hc (by omega))
  clear HO97
  have HO109 := Lib.hid (HO99.out.keep hc (by omega))
  clear HO99
  have HO110 := Lib.hid (HO100.out.keep hc (by omega))
  clear HO100
  have HO111 := Lib.hid (HO101.out.keep hc (by omega))
  clear HO101
  have HO112 := Lib.hid (HO102.out.keep hc (by omega))
  clear HO102
  have HO113 := Lib.hid (HO103.out.keep hc (by omega))
  clear HO103
  have HO114 := Lib.hid (HO104.out.keep hc (by omega))
  clear HO104
  replace hb : Below w.heap.size w W17 := Chg.below hb hc (by omega)
  clear hc
  have HO115 : Hid (OwII _ _ W17 uW6 (marksII 1 x0)) := Lib.hid ho1
  clear HO98 ho1 hc1
  go_wp2_with fail
  refine (markInfoS_c x1 uW7 (1 + (sumLen x0 : Int)) _ _ HO109.out.1 (by omega) (by omega)).mono ?_
  rintro e W18 ⟨rfl, ho1, hg1, hn1⟩
  have hm := HO109.out.2
  have hc := Chg.of_mark hm hg1 hn1
  have szW18 := hc.size
  have HO116 := Lib.hid (HO105.out.keep hc (by omega))
  clear HO105
  have HO117 := Lib.hid (HO106.out.keep hc (by omega))
  clear HO106
  have HO118 := Lib.hid (HO107.out.keep hc (by omega))
  clear HO107
  have HO119 := Lib.hid (HO108.out.keep hc (by omega))
  clear HO108
  have HO120 := Lib.hid (HO110.out.keep hc (by omega))
  clear HO110
  have HO121 := Lib.hid (HO111.out.keep hc (by omega))
  clear HO111
  have HO122 := Lib.hid (HO112.out.keep hc (by omega))
  clear HO112
  have HO123 := Lib.hid (HO113.out.keep hc (by omega))
  clear HO113
  have HO124 := Lib.hid (HO114.out.keep hc (by omega))
  clear HO114
  have HO125 := Lib.hid (HO115.out.keep hc (by omega))
  clear HO115
  replace hb : Below w.heap.size w W18 := Chg.below hb hc (by omega)
  clear hc
  have HO126 : Hid (OwF Info.enc 3 36 _ _ W18 uW7 (marksF (1 + (sumLen x0 : Int)) x1.length)) := Lib.hid ⟨ho1, hm⟩
  clear HO109 ho1 hg1 hn1 hm
  go_wp2_with fail
  refine (markStringS_c x4 uW8 ((1 + (sumLen x0 : Int)) + 3 * (x1.length : Int)) _ _ HO120.out.1 (by omega) (by omega)).mono ?_
  rintro e W19 ⟨rfl, ho1, hg1, hn1⟩
  have hm := HO120.out.2
  have hc := Chg.of_mark hm hg1 hn1
  have szW19 := hc.size
  have HO127 := Lib.hid (HO116.out.keep hc (by omega))
  clear HO116
  have HO128 := Lib.hid (HO117.out.keep hc (by omega))
  clear HO117
  have HO129 := Lib.hid (HO118.out.keep hc (by omega))
  clear HO118
  have HO130 := Lib.hid (HO119.out.keep hc (by omega))
  clear HO119
  have HO131 := Lib.hid (HO121.out.keep hc (by omega))
  clear HO121
  have HO132 := Lib.hid (HO122.out.keep hc (by omega))
  clear HO122
  have HO133 := Lib.hid (HO123.out.keep hc (by omega))
  clear HO123
  have HO134 := Lib.hid (HO124.out.keep hc (by omega))
  clear HO124
  have HO135 := Lib.hid (HO125.out.keep hc (by omega))
  clear HO125
  have HO136 := Lib.hid (HO126.out.keep hc (by omega))
  clear HO126
  replace hb : Below w.heap.size w W19 := Chg.below hb hc (by omega)
  clear hc
  have HO137 : Hid (OwF encS 1 9 _ _ W19 uW8 (marksS ((1 + (sumLen x0 : Int)) + 3 * (x1.length : Int)) x4.length)) := Lib.hid ⟨ho1, hm⟩
  clear HO120 ho1 hg1 hn1 hm
  go_wp2_with fail
  refine (eqInfoS_c (pinL x0 x1 x2 x3 x4) (pinL x0 x1 x2 x3 x4) uW9_0 uW5_0 _ (HO131.out.rd Info.enc_len) (HO130.out.rd Info.enc_len)).mono ?_
  rintro e W20 ⟨rfl, hb1⟩
  rw [decide_eq_true (rfl : (pinL x0 x1 x2 x3 x4) = (pinL x0 x1 x2 x3 x4))]
  have hc := Chg.of_below hb1
  have szW20 := hc.size
  have HO138 := Lib.hid (HO127.out.keep hc (.inr (Nat.zero_le _)))
  clear HO127
  have HO139 := Lib.hid (HO128.out.keep hc (.inr (Nat.zero_le _)))
  clear HO128
  have HO140 := Lib.hid (HO129.out.keep hc (.inr (Nat.zero_le _)))
  clear HO129
  have HO141 := Lib.hid (HO130.out.keep hc (.inr (Nat.zero_le _)))
  clear HO130
  have HO142 := Lib.hid (HO131.out.keep hc (.inr (Nat.zero_le _)))
  clear HO131
  have HO143 := Lib.hid (HO132.out.keep hc (.inr (Nat.zero_le _)))
  clear HO132
  have HO144 := Lib.hid (HO133.out.keep hc (.inr (Nat.zero_le _)))
  clear HO133
  have HO145 := Lib.hid (HO134.out.keep hc (.inr (Nat.zero_le _)))
  clear HO134
  have HO146 := Lib.hid (HO135.out.keep hc (.inr (Nat.zero_le _)))
  clear HO135
  have HO147 := Lib.hid (HO136.out.keep hc (.inr (Nat.zero_le _)))
  clear HO136
  have HO148 := Lib.hid (HO137.out.keep hc (.inr (Nat.zero_le _)))
  clear HO137
  replace hb : Below w.heap.size w W20 := bnext hb hb1
  clear hc
  go_wp2_with fail
  refine (markInfoS_c (pinL x0 x1 x2 x3 x4) uW9_0 1 _ _ HO142.out.1 (by omega) (by omega)).mono ?_
  rintro e W21 ⟨rfl, ho1, hg1, hn1⟩
  have hm := HO142.out.2
  have hc := Chg.of_mark hm hg1 hn1
  have szW21 := hc.size
  have HO149 := Lib.hid (HO138.out.keep hc (by omega))
  clear HO138
  have HO150 := Lib.hid (HO139.out.keep hc (by omega))
  clear HO139
  have HO151 := Lib.hid (HO140.out.keep hc (by omega))
  clear HO140
  have HO152 := Lib.hid (HO141.out.keep hc (by omega))
  clear HO141
  have HO153 := Lib.hid (HO143.out.keep hc (by omega))
  clear HO143
  have HO154 := Lib.hid (HO144.out.keep hc (by omega))
  clear HO144
  have HO155 := Lib.hid (HO145.out.keep hc (by omega))
  clear HO145
  have HO156 := Lib.hid (HO146.out.keep hc (by omega))
  clear HO146
  have HO157 := Lib.hid (HO147.out.keep hc (by omega))
  clear HO147
  have HO158 := Lib.hid (HO148.out.keep hc (by omega))
  clear HO148
  replace hb : Below w.heap.size w W21 := Chg.below hb hc (by omega)
  clear hc
  have HO159 : Hid (OwF Info.enc 3 36 _ _ W21 uW9_0 (marksF 1 (pinL x0 x1 x2 x3 x4).length)) := Lib.hid ⟨ho1, hm⟩
  clear HO142 ho1 hg1 hn1 hm
  go_wp2_with fail
  refine (heldInfoS_c (pinL x0 x1 x2 x3 x4).length uW9_0 1 _ (HO159.out.rd Info.enc_len) (by omega) (by omega)).mono ?_
  rintro e W22 ⟨rfl, hb1⟩
  have hc := Chg.of_below hb1
  have szW22 := hc.size
  have HO160 := Lib.hid (HO149.out.keep hc (.inr (Nat.zero_le _)))
  clear HO149
  have HO161 := Lib.hid (HO150.out.keep hc (.inr (Nat.zero_le _)))
  clear HO150
  have HO162 := Lib.hid (HO151.out.keep hc (.inr (Nat.zero_le _)))
  clear HO151
  have HO163 := Lib.hid (HO152.out.keep hc (.inr (Nat.zero_le _)))
  clear HO152
  have HO164 := Lib.hid (HO153.out.keep hc (.inr (Nat.zero_le _)))
  clear HO153
  have HO165 := Lib.hid (HO154.out.keep hc (.inr (Nat.zero_le _)))
  clear HO154
  have HO166 := Lib.hid (HO155.out.keep hc (.inr (Nat.zero_le _)))
  clear HO155
  have HO167 := Lib.hid (HO156.out.keep hc (.inr (Nat.zero_le _)))
  clear HO156
  have HO168 := Lib.hid (HO157.out.keep hc (.inr (Nat.zero_le _)))
  clear HO157
  have HO169 := Lib.hid (HO158.out.keep hc (.inr (Nat.zero_le _)))
  clear HO158
  have HO170 := Lib.hid (HO159.out.keep hc (.inr (Nat.zero_le _)))
  clear HO159
  replace hb : Below w.heap.size w W22 := bnext hb hb1
  clear hc
  go_wp2_with fail
  refine (toIntSS_c x0 v0 _ (HX0.out.below hb) (by omega)).mono ?_
  rintro e W23 ⟨uW23, rfl, ho1, hb1⟩
  have hc := Chg.of_below hb1
  have szW23 := hc.size
  have HO171 := Lib.hid (HO160.out.keep hc (.inr (Nat.zero_le _)))
  clear HO160
  have HO172 := Lib.hid (HO161.out.keep hc (.inr (Nat.zero_le _)))
  clear HO161
  have HO173 := Lib.hid (HO162.out.keep hc (.inr (Nat.zero_le _)))
  clear HO162
  have HO174 := Lib.hid (HO163.out.keep hc (.inr (Nat.zero_le _)))
  clear HO163
  have HO175 := Lib.hid (HO164.out.keep hc (.inr (Nat.zero_le _)))
  clear HO164
  have HO176 := Lib.hid (HO165.out.keep hc (.inr (Nat.zero_le _)))
  clear HO165
  have HO177 := Lib.hid (HO166.out.keep hc (.inr (Nat.zero_le _)))
  clear HO166
  have HO178 := Lib.hid (HO167.out.keep hc (.inr (Nat.zero_le _)))
  clear HO167
  have HO179 := Lib.hid (HO168.out.keep hc (.inr (Nat.zero_le _)))
  clear HO168
  have HO180 := Lib.hid (HO169.out.keep hc (.inr (Nat.zero_le _)))
  clear HO169
  have HO181 := Lib.hid (HO170.out.keep hc (.inr (Nat.zero_le _)))
  clear HO170
  replace hb : Below w.heap.size w W23 := bnext hb hb1
  clear hc
  have HO182 := Lib.hid ho1
  go_wp2_with fail
  refine (toInfoS_c x1 v1 _ (HX1.out.below hb).1 (by omega)).mono ?_
  rintro e W24 ⟨uW24, rfl, ho1, hb1⟩
  have hc := Chg.of_below hb1
  have szW24 := hc.size
  have HO183 := Lib.hid (HO171.out.keep hc (.inr (Nat.zero_le _)))
  clear HO171
  have HO184 := Lib.hid (HO172.out.keep hc (.inr (Nat.zero_le _)))
  clear HO172
  have HO185 := Lib.hid (HO173.out.keep hc (.inr (Nat.zero_le _)))
  clear HO173
  have HO186 := Lib.hid (HO174.out.keep hc (.inr (Nat.zero_le _)))
  clear HO174
  have HO187 := Lib.hid (HO175.out.keep hc (.inr (Nat.zero_le _)))
  clear HO175
  have HO188 := Lib.hid (HO176.out.keep hc (.inr (Nat.zero_le _)))
  clear HO176
  have HO189 := Lib.hid (HO177.out.keep hc (.inr (Nat.zero_le _)))
  clear HO177
  have HO190 := Lib.hid (HO178.out.keep hc (.inr (Nat.zero_le _)))
  clear HO178
  have HO191 := Lib.hid (HO179.out.keep hc (.inr (Nat.zero_le _)))
  clear HO179
  have HO192 := Lib.hid (HO180.out.keep hc (.inr (Nat.zero_le _)))
  clear HO180
  have HO193 := Lib.hid (HO181.out.keep hc (.inr (Nat.zero_le _)))
  clear HO181
  have HO194 := Lib.hid (HO182.out.keep hc (.inr (Nat.zero_le _)))
  clear HO182
  replace hb : Below w.heap.size w W24 := bnext hb hb1
  clear hc
  have HO195 := Lib.hid (OwF.of ho1 (Nat.le_refl _))
  go_wp2_with fail
  refine (toStringS_c x4 v4 _ (HX4.out.below hb).1 (by omega)).mono ?_
  rintro e W25 ⟨uW25, rfl, ho1, hb1⟩
  have hc := Chg.of_below hb1
  have szW25 := hc.size
  have HO196 := Lib.hid (HO183.out.keep hc (.inr (Nat.zero_le _)))
  clear HO183
  have HO197 := Lib.hid (HO184.out.keep hc (.inr (Nat.zero_le _)))
  clear HO184
  have HO198 := Lib.hid (HO185.out.keep hc (.inr (Nat.zero_le _)))
  clear HO185
  have HO199 := Lib.hid (HO186.out.keep hc (.inr (Nat.zero_le _)))
  clear HO186
  have HO200 := Lib.hid (HO187.out.keep hc (.inr (Nat.zero_le _)))
  clear HO187
  have HO201 := Lib.hid (HO188.out.keep hc (.inr (Nat.zero_le _)))
  clear HO188
  have HO202 := Lib.hid (HO189.out.keep hc (.inr (Nat.zero_le _)))
  clear HO189
  have HO203 := Lib.hid (HO190.out.keep hc (.inr (Nat.zero_le _)))
  clear HO190
  have HO204 := Lib.hid (HO191.out.keep hc (.inr (Nat.zero_le _)))
  clear HO191
  have HO205 := Lib.hid (HO192.out.keep hc (.inr (Nat.zero_le _)))
  clear HO192
  have HO206 := Lib.hid (HO193.out.keep hc (.inr (Nat.zero_le _)))
  clear HO193
  have HO207 := Lib.hid (HO194.out.keep hc (.inr (Nat.zero_le _)))
  clear HO194
  have HO208 := Lib.hid (HO195.out.keep hc (.inr (Nat.zero_le _)))
  clear HO195
  replace hb : Below w.heap.size w W25 := bnext hb hb1
  clear hc
  have HO209 := Lib.hid (OwF.of ho1 (Nat.le_refl _))
  go_wp2_with fail
  refine (implTablePin_c x0 x1 uW23 uW24 uW25 x2 x3 x4 _ (HO207.out.rd encI_len) (HO208.out.rd Info.enc_len) HX1.out.2 (HO209.out.rd encS_len) HX4.out.2).mono ?_
  rintro e W26 ⟨uW26_0, rfl, ho_uW26_0, hb1⟩
  have hc := Chg.of_below hb1
  have szW26 := hc.size
  have HO210 := Lib.hid (HO196.out.keep hc (.inr (Nat.zero_le _)))
  clear HO196
  have HO211 := Lib.hid (HO197.out.keep hc (.inr (Nat.zero_le _)))
  clear HO197
  have HO212 := Lib.hid (HO198.out.keep hc (.inr (Nat.zero_le _)))
  clear HO198
  have HO213 := Lib.hid (HO199.out.keep hc (.inr (Nat.zero_le _)))
  clear HO199
  have HO214 := Lib.hid (HO200.out.keep hc (.inr (Nat.zero_le _)))
  clear HO200
  have HO215 := Lib.hid (HO201.out.keep hc (.inr (Nat.zero_le _)))
  clear HO201
  have HO216 := Lib.hid (HO202.out.keep hc (.inr (Nat.zero_le _)))
  clear HO202
  have HO217 := Lib.hid (HO203.out.keep hc (.inr (Nat.zero_le _)))
  clear HO203
  have HO218 := Lib.hid (HO204.out.keep hc (.inr (Nat.zero_le _)))
  clear HO204
  have HO219 := Lib.hid (HO205.out.keep hc (.inr (Nat.zero_le _)))
  clear HO205
  have HO220 := Lib.hid (HO206.out.keep hc (.inr (Nat.zero_le _)))
  clear HO206
  have HO221 := Lib.hid (HO207.out.keep hc (.inr (Nat.zero_le _)))
  clear HO207
  have HO222 := Lib.hid (HO208.out.keep hc (.inr (Nat.zero_le _)))
  clear HO208
  have HO223 := Lib.hid (HO209.out.keep hc (.inr (Nat.zero_le _)))
  clear HO209
  replace hb : Below w.heap.size w W26 := bnext hb hb1
  clear hc
  have HO224 := Lib.hid (OwF.of ho_uW26_0 (Nat.le_refl _))
  go_wp2_with fail
  refine (eqInfoS_c (pinL x0 x1 x2 x3 x4) (pinL x0 x1 x2 x3 x4) uW26_0 uW5_0 _ (HO224.out.rd Info.enc_len) (HO213.out.rd Info.enc_len)).mono ?_
  rintro e W27 ⟨rfl, hb1⟩
  rw [decide_eq_true (rfl : (pinL x0 x1 x2 x3 x4) = (pinL x0 x1 x2 x3 x4))]
  have hc := Chg.of_below hb1
  have szW27 := hc.size
  have HO225 := Lib.hid (HO210.out.keep hc (.inr (Nat.zero_le _)))
  clear HO210
  have HO226 := Lib.hid (HO211.out.keep hc (.inr (Nat.zero_le _)))
  clear HO211
  have HO227 := Lib.hid (HO212.out.keep hc (.inr (Nat.zero_le _)))
  clear HO212
  have HO228 := Lib.hid (HO213.out.keep hc (.inr (Nat.zero_le _)))
  clear HO213
  have HO229 := Lib.hid (HO214.out.keep hc (.inr (Nat.zero_le _)))
  clear HO214
  have HO230 := Lib.hid (HO215.out.keep hc (.inr (Nat.zero_le _)))
  clear HO215
  have HO231 := Lib.hid (HO216.out.keep hc (.inr (Nat.zero_le _)))
  clear HO216
  have HO232 := Lib.hid (HO217.out.keep hc (.inr (Nat.zero_le _)))
  clear HO217
  have HO233 := Lib.hid (HO218.out.keep hc (.inr (Nat.zero_le _)))
  clear HO218
  have HO234 := Lib.hid (HO219.out.keep hc (.inr (Nat.zero_le _)))
  clear HO219
  have HO235 := Lib.hid (HO220.out.keep hc (.inr (Nat.zero_le _)))
  clear HO220
  have HO236 := Lib.hid (HO221.out.keep hc (.inr (Nat.zero_le _)))
  clear HO221
  have HO237 := Lib.hid (HO222.out.keep hc (.inr (Nat.zero_le _)))
  clear HO222
  have HO238 := Lib.hid (HO223.out.keep hc (.inr (Nat.zero_le _)))
  clear HO223
  have HO239 := Lib.hid (HO224.out.keep hc (.inr (Nat.zero_le _)))
  clear HO224
  replace hb : Below w.heap.size w W27 := bnext hb hb1
  clear hc
  go_wp2_with fail
  refine (heldInfoS_c (pinL x0 x1 x2 x3 x4).length uW9_0 1 _ (HO235.out.rd Info.enc_len) (by omega) (by omega)).mono ?_
  rintro e W28 ⟨rfl, hb1⟩
  have hc := Chg.of_below hb1
  have szW28 := hc.size
  have HO240 := Lib.hid (HO225.out.keep hc (.inr (Nat.zero_le _)))
  clear HO225
  have HO241 := Lib.hid (HO226.out.keep hc (.inr (Nat.zero_le _)))
  clear HO226
  have HO242 := Lib.hid (HO227.out.keep hc (.inr (Nat.zero_le _)))
  clear HO227
  have HO243 := Lib.hid (HO228.out.keep hc (.inr (Nat.zero_le _)))
  clear HO228
  have HO244 := Lib.hid (HO229.out.keep hc (.inr (Nat.zero_le _)))
  clear HO229
  have HO245 := Lib.hid (HO230.out.keep hc (.inr (Nat.zero_le _)))
  clear HO230
  have HO246 := Lib.hid (HO231.out.keep hc (.inr (Nat.zero_le _)))
  clear HO231
  have HO247 := Lib.hid (HO232.out.keep hc (.inr (Nat.zero_le _)))
  clear HO232
  have HO248 := Lib.hid (HO233.out.keep hc (.inr (Nat.zero_le _)))
  clear HO233
  have HO249 := Lib.hid (HO234.out.keep hc (.inr (Nat.zero_le _)))
  clear HO234
  have HO250 := Lib.hid (HO235.out.keep hc (.inr (Nat.zero_le _)))
  clear HO235
  have HO251 := Lib.hid (HO236.out.keep hc (.inr (Nat.zero_le _)))
  clear HO236
  have HO252 := Lib.hid (HO237.out.keep hc (.inr (Nat.zero_le _)))
  clear HO237
  have HO253 := Lib.hid (HO238.out.keep hc (.inr (Nat.zero_le _)))
  clear HO238
  have HO254 := Lib.hid (HO239.out.keep hc (.inr (Nat.zero_le _)))
  clear HO239
  replace hb : Below w.heap.size w W28 := bnext hb hb1
  clear hc
  go_wp2
  go_ret
  exact ⟨rfl, hb⟩

set_option maxRecDepth 100000 in
theorem fnExactTablePin_l (os : Os) (started : os.Started) (H : Type) (enc : TypeId × Value → H) :
    ReturnsInHanded {} Tryd.checked os 13 .any (fun w args => (Rows.fnExactTablePinSpec.pre enc Tryd.prog Tryd.f13 [] false w args ∧ laidMetH Tryd.prog Rows.fnExactTablePinRow.laid w) ∧ sizedMet enc Tryd.prog Tryd.f13 (OpenSpec.ofChange Rows.fnExactTablePinSpec) false w args)
      (Rows.fnExactTablePinSpec.post enc Tryd.prog Tryd.f13 false true false false) := by
  refine returnsInHanded_of_change_and (C := Tryd.checked) (X := fun w _ => laidMetH Tryd.prog Rows.fnExactTablePinRow.laid w) (fun _ _ _ hh h => h.of_heap hh) own started (by kernel_rfl) Tryd.func13
    (ChangeSpec.witness_shaped (enc := enc) (C := Tryd.checked) (os := os) (X := fun w _ => laidMetH Tryd.prog Rows.fnExactTablePinRow.laid w) false (World.laidAll Tryd.prog os Rows.fnExactTablePinRow.laid) #[.slice none 0 0, .slice none 0 0, .int .i64 0, .int .i64 0, .slice none 0 0] 8 (World.laidAll_os _ _ _)
      (World.shaped_of_ZipB (by kernel_rfl) (by kernel_rfl)) (by kernel_rfl) (by kernel_rfl) (by kernel_rfl)
      (by rw [MakeChecks.laidMetH_plain _ _ _ (by kernel_rfl)]; exact laidMet_laidAll _ (by kernel_rfl) (by kernel_rfl))) ?_
  intro W base args ds gs before hval0 hW _ _ _ _
  have hval : ∀ (j : Nat) t v, Tryd.f13.params[j]? = some t → args[j]? = some v → Value.okWide Tryd.prog W .any base t v := hval0
  have hW' := hW
  obtain ⟨p, q, hA0, hV, rfl, _, _⟩ := hW
  have hA : DataW.TrodAll enc Tryd.prog W 0 (fun _ => true) true Tryd.f13.params.toList args.toList ds p := hA0
  rw [Tryd.params13] at hA hval
  obtain ⟨v0, vs0, d0, ds0, p0, q0, hargs, rfl, rfl, h0, r0⟩ := trodAll_cons hA
  obtain ⟨v1, vs1, d1, ds1, p1, q1, rfl, rfl, rfl, h1, r1⟩ := trodAll_cons r0
  obtain ⟨v2, vs2, d2, ds2, p2, q2, rfl, rfl, rfl, h2, r2⟩ := trodAll_cons r1
  obtain ⟨v3, vs3, d3, ds3, p3, q3, rfl, rfl, rfl, h3, r3⟩ := trodAll_cons r2
  obtain ⟨v4, vs4, d4, ds4, p4, q4, rfl, rfl, rfl, h4, r4⟩ := trodAll_cons r3
  obtain ⟨rfl, rfl, rfl⟩ := trodAll_nil r4
  obtain rfl : args = #[v0, v1, v2, v3, v4] := by cases args; simp_all
  obtain ⟨rfl, rfl⟩ := trodVars_none hV
  clear hA0 hval0
  simp only [List.append_nil] at hW'
  have hl0 : ∀ x ∈ p0, x.block < W.heap.size := fun x hx => by simpa using hW'.lt x (by simp [hx])
  have hl1 : ∀ x ∈ p1, x.block < W.heap.size := fun x hx => by simpa using hW'.lt x (by simp [hx])
  have hl2 : ∀ x ∈ p2, x.block < W.heap.size := fun x hx => by simpa using hW'.lt x (by simp [hx])
  have hl3 : ∀ x ∈ p3, x.block < W.heap.size := fun x hx => by simpa using hW'.lt x (by simp [hx])
  have hl4 : ∀ x ∈ p4, x.block < W.heap.size := fun x hx => by simpa using hW'.lt x (by simp [hx])
  obtain ⟨x0, hx0⟩ := openII (hval 0 23 v0 rfl rfl) h0
  obtain ⟨x1, hx1⟩ := openInfos (hval 1 55 v1 rfl rfl) h1
  obtain ⟨x2, hv2⟩ := openInt (hval 2 3 v2 rfl rfl) h2
  obtain ⟨x3, hv3⟩ := openInt (hval 3 3 v3 rfl rfl) h3
  obtain ⟨x4, hx4⟩ := openTexts (hval 4 38 v4 rfl rfl) h4
  subst hv2
  subst hv3
  refine (fnExactTablePin_w x0 v0 x1 v1 x2 x3 x4 v4 W hx0 hx1   hx4).mono fun e W' ⟨he, hb⟩ => ?_
  subst he
  refine ⟨_, rfl, _, _, _, [], p0 ++ (p1 ++ (p2 ++ (p3 ++ p4))), [], hW', trodAll_cons_mk (shut_bool Tryd.underlying4 _) trodAll_mk0, ?_, rfl, hb.frame _, fun h => by cases h⟩
  have hk := trodAll_cons_mk (Below.trod laidOut (by kernel_rfl) (of_decide_eq_true (by kernel_rfl)) h0 hb hl0) (trodAll_cons_mk (Below.trod laidOut (by kernel_rfl) (of_decide_eq_true (by kernel_rfl)) h1 hb hl1) (trodAll_cons_mk (Below.trod laidOut (by kernel_rfl) (of_decide_eq_true (by kernel_rfl)) h2 hb hl2) (trodAll_cons_mk (Below.trod laidOut (by kernel_rfl) (of_decide_eq_true (by kernel_rfl)) h3 hb hl3) (trodAll_cons_mk (Below.trod laidOut (by kernel_rfl) (of_decide_eq_true (by kernel_rfl)) h4 hb hl4) (trodAll_mk0)))))
  simp only [List.append_nil] at hk
  exact hk

theorem fnExactTablePin_row : Rows.FnExactTablePinSaid :=
  OpenClaim.holds_of_wide 13 Tryd.f13 rfl rfl rfl rfl rfl rfl rfl ⟨rfl, rfl, rfl, rfl, rfl⟩ rfl rfl rfl rfl rfl (by kernel_rfl) Tryd.func13 (by kernel_rfl)
    (of_decide_eq_true (by kernel_rfl)) (by unfold Func.isWrapper; first | (rw [if_pos (by decide +kernel)]; kernel_rfl) | (rw [if_neg (by decide +kernel)]; exact ⟨rfl, rfl⟩))
    (fun os started H enc _ => fnExactTablePin_l os started H enc)

theorem fnExactTablePin_holds : Rows.FnExactTablePinCardSaid :=
  Claim7.holds_tied_plain_at .later [] [.data, .pinned] true Rows.fnExactTablePinCard.stood.harness false fnExactTablePin_row (fun _ h => by cases h) (by kernel_rfl) (fun _ h => by cases h) fnExactTablePin_row_tie rfl ⟨rfl, rfl⟩ (by kernel_rfl) rfl
    (fun f fn hf hfn => by
      obtain rfl : f = 13 := Option.some.inj ((show Tryd.prog.funcNamed "loop.example/exopager/laws.FnExactTablePin" = some 13 by kernel_rfl).symm.trans hf) |>.symm
      obtain rfl : fn = Tryd.f13 := (Option.some.inj (Tryd.func13.symm.trans hfn)).symm
      exact ⟨by kernel_rfl, fun j t ht => by
        rw [Tryd.params13] at ht
        have hm : t ∈ [23, 55, 3, 3, 38] := by simpa using Array.mem_of_getElem? ht
        have hall : ([23, 55, 3, 3, 38].all fun u => !Tryd.prog.wantsStandIn u) = true := by kernel_rfl
        exact (show Tryd.prog.wantsStandIn t = false by simpa using List.all_eq_true.1 hall t hm)⟩)
    (by kernel_rfl)

end Go.Proofs.YtklphfmjdgnpnaaDoor
