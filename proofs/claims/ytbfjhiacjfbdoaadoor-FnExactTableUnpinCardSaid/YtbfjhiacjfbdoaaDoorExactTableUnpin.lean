/- FnExactTableUnpin returns true for all arguments. No conditions. -/
import Derived.Test.YtbfjhiacjfbdoaaDoorTabK
import Derived.Test.YtbfjhiacjfbdoaaDoorOpenInfo
import Derived.Test.YtbfjhiacjfbdoaaDoorOpenII
import Derived.Test.YtbfjhiacjfbdoaaDoorTie
import Derived.Test.YtbfjhiacjfbdoaaDoorCards
import Derived.Lay
import Derived.LaidOnce
import Derived.SevenTiedAt
namespace Go.Proofs.YtbfjhiacjfbdoaaDoor
open Go.ChangeShapes Go.WideShapes Go.ChangeAt Go.RowKit
set_option linter.all false
set_option maxRecDepth 100000
attribute [local go_sem ↓] Go.wp_at_zero Go.wp_at_succ

theorem unpL_le (m : List (List Int)) (xs : List Info) (f : Int) : (unpL m xs f).length ≤ 12 := by
  cases h : argB m xs f
  · rw [(unp_bad h).2]; simp
  · have hl : xs.length = 12 := infosOk_len (by simp only [argB, Bool.and_eq_true] at h; exact h.2)
    obtain ⟨-, -, h1, h2⟩ := unpC_vals h
    by_cases hc : unpC m xs f = 0
    · rw [h2 hc, unpd_len, hl]; omega
    · rw [h1 hc, hl]; omega
set_option maxHeartbeats 4000000 in
theorem fnExactTableUnpin_w (x0 : List (List Int)) (v0 : Value) (x1 : List Info) (v1 : Value) (x2 : Int) (w : World) (hx0 : RdII w v0 x0) (hx1 : RdFF w v1 x1)  :
    Calls Tryd.prog 6 #[v0, v1, .int .i64 x2] w fun e w' => e = .returned (.bool true) ∧ Below w.heap.size w w' := by
  have HX0 := Lib.hid hx0
  clear hx0
  have HX1 := Lib.hid hx1
  clear hx1
  by_cases hl0 : ((x0.length : Int) + sumLen x0) ≤ (1048576 : Int)
  rotate_left
  · have HS := Lib.hid (show szv (1048576 : Int) ((x0.length : Int) + sumLen x0) = -1 from szv_neg (by omega))
    have hb := bref w
    go_enter Tryd.func6, Tryd.ntmps6
    go_wp2_with fail
    refine (szIntSS_c x0 v0 _ _ (HX0.out.below hb) (by omega)).mono ?_
    rintro e w' ⟨rfl, rfl⟩
    rw [HS.out]
    go_wp2
    go_ret
    exact ⟨rfl, hb⟩
  have HZ0 := Lib.hid (show szv (1048576 : Int) ((x0.length : Int) + sumLen x0) = (1048576 : Int) - ((x0.length : Int) + sumLen x0) from szv_pos (by omega))
  by_cases hl1 : ((x1.length : Int) + infSum x1) ≤ ((1048576 : Int) - ((x0.length : Int) + sumLen x0))
  rotate_left
  · have HS := Lib.hid (show szv ((1048576 : Int) - ((x0.length : Int) + sumLen x0)) ((x1.length : Int) + infSum x1) = -1 from szv_neg (by omega))
    have hb := bref w
    go_enter Tryd.func6, Tryd.ntmps6
    go_wp2_with fail
    refine (szIntSS_c x0 v0 _ _ (HX0.out.below hb) (by omega)).mono ?_
    rintro e w' ⟨rfl, rfl⟩
    rw [HZ0.out]
    go_wp2_with fail
    refine (szInfoS_c x1 v1 _ _ (HX1.out.below hb).1 (HX1.out.below hb).2 (by omega)).mono ?_
    rintro e W1z ⟨rfl, hb1⟩
    replace hb := bnext hb hb1
    clear hb1
    rw [HS.out]
    go_wp2
    go_ret
    exact ⟨rfl, hb⟩
  have HZ1 := Lib.hid (show szv ((1048576 : Int) - ((x0.length : Int) + sumLen x0)) ((x1.length : Int) + infSum x1) = ((1048576 : Int) - ((x0.length : Int) + sumLen x0)) - ((x1.length : Int) + infSum x1) from szv_pos (by omega))
  have hul := unpL_le x0 x1 x2
  have hb := bref w
  go_enter Tryd.func6, Tryd.ntmps6
  go_wp2_with fail
  refine (szIntSS_c x0 v0 _ _ HX0.out (by omega)).mono ?_
  rintro e w' ⟨rfl, rfl⟩
  rw [HZ0.out]
  go_wp2_with fail
  refine (szInfoS_c x1 v1 _ _ HX1.out.1 HX1.out.2 (by omega)).mono ?_
  rintro e W1 ⟨rfl, hb1⟩
  rw [HZ1.out]
  have szW1 := hb1.size
  replace hb := bnext hb hb1
  clear hb1
  go_wp2_with fail
  refine (toIntSS_c x0 v0 _ (HX0.out.below hb) (by omega)).mono ?_
  rintro e W2 ⟨uW2, rfl, ho1, hb1⟩
  have hc := Chg.of_below hb1
  have szW2 := hc.size
  replace hb : Below w.heap.size w W2 := bnext hb hb1
  clear hc
  have HO1 := Lib.hid ho1
  go_wp2_with fail
  refine (toInfoS_c x1 v1 _ (HX1.out.below hb).1 (by omega)).mono ?_
  rintro e W3 ⟨uW3, rfl, ho1, hb1⟩
  have hc := Chg.of_below hb1
  have szW3 := hc.size
  have HO2 := Lib.hid (HO1.out.keep hc (.inr (Nat.zero_le _)))
  clear HO1
  replace hb : Below w.heap.size w W3 := bnext hb hb1
  clear hc
  have HO3 := Lib.hid (OwF.of ho1 (Nat.le_refl _))
  go_wp2_with fail
  refine (specTableUnpin_c x0 x1 uW2 uW3 x2 _ (HO2.out.rd encI_len) (HO3.out.rd Info.enc_len) HX1.out.2).mono ?_
  rintro e W4 ⟨uW4_0, rfl, ho_uW4_0, hb1⟩
  have hc := Chg.of_below hb1
  have szW4 := hc.size
  have HO4 := Lib.hid (HO2.out.keep hc (.inr (Nat.zero_le _)))
  clear HO2
  have HO5 := Lib.hid (HO3.out.keep hc (.inr (Nat.zero_le _)))
  clear HO3
  replace hb : Below w.heap.size w W4 := bnext hb hb1
  clear hc
  have HO6 := Lib.hid (OwF.of ho_uW4_0 (Nat.le_refl _))
  go_wp2_with fail
  refine (toIntSS_c x0 v0 _ (HX0.out.below hb) (by omega)).mono ?_
  rintro e W5 ⟨uW5, rfl, ho1, hb1⟩
  have hc := Chg.of_below hb1
  have szW5 := hc.size
  have HO7 := Lib.hid (HO4.out.keep hc (.inr (Nat.zero_le _)))
  clear HO4
  have HO8 := Lib.hid (HO5.out.keep hc (.inr (Nat.zero_le _)))
  clear HO5
  have HO9 := Lib.hid (HO6.out.keep hc (.inr (Nat.zero_le _)))
  clear HO6
  replace hb : Below w.heap.size w W5 := bnext hb hb1
  clear hc
  have HO10 := Lib.hid ho1
  go_wp2_with fail
  refine (toInfoS_c x1 v1 _ (HX1.out.below hb).1 (by omega)).mono ?_
  rintro e W6 ⟨uW6, rfl, ho1, hb1⟩
  have hc := Chg.of_below hb1
  have szW6 := hc.size
  have HO11 := Lib.hid (HO7.out.keep hc (.inr (Nat.zero_le _)))
  clear HO7
  have HO12 := Lib.hid (HO8.out.keep hc (.inr (Nat.zero_le _)))
  clear HO8
  have HO13 := Lib.hid (HO9.out.keep hc (.inr (Nat.zero_le _)))
  clear HO9
  have HO14 := Lib.hid (HO10.out.keep hc (.inr (Nat.zero_le _)))
  clear HO10
  replace hb : Below w.heap.size w W6 := bnext hb hb1
  clear hc
  have HO15 := Lib.hid (OwF.of ho1 (Nat.le_refl _))
  go_wp2_with fail
  refine (implTableUnpin_c x0 x1 uW5 uW6 x2 _ (HO14.out.rd encI_len) (HO15.out.rd Info.enc_len) HX1.out.2).mono ?_
  rintro e W7 ⟨uW7_0, rfl, ho_uW7_0, hb1⟩
  have hc := Chg.of_below hb1
  have szW7 := hc.size
  have HO16 := Lib.hid (HO11.out.keep hc (.inr (Nat.zero_le _)))
  clear HO11
  have HO17 := Lib.hid (HO12.out.keep hc (.inr (Nat.zero_le _)))
  clear HO12
  have HO18 := Lib.hid (HO13.out.keep hc (.inr (Nat.zero_le _)))
  clear HO13
  have HO19 := Lib.hid (HO14.out.keep hc (.inr (Nat.zero_le _)))
  clear HO14
  have HO20 := Lib.hid (HO15.out.keep hc (.inr (Nat.zero_le _)))
  clear HO15
  replace hb : Below w.heap.size w W7 := bnext hb hb1
  clear hc
  have HO21 := Lib.hid (OwF.of ho_uW7_0 (Nat.le_refl _))
  go_wp2_with fail
  refine (eqInfoS_c (unpL x0 x1 x2) (unpL x0 x1 x2) uW7_0 uW4_0 _ (HO21.out.rd Info.enc_len) (HO18.out.rd Info.enc_len)).mono ?_
  rintro e W8 ⟨rfl, hb1⟩
  rw [decide_eq_true (rfl : (unpL x0 x1 x2) = (unpL x0 x1 x2))]
  have hc := Chg.of_below hb1
  have szW8 := hc.size
  have HO22 := Lib.hid (HO16.out.keep hc (.inr (Nat.zero_le _)))
  clear HO16
  have HO23 := Lib.hid (HO17.out.keep hc (.inr (Nat.zero_le _)))
  clear HO17
  have HO24 := Lib.hid (HO18.out.keep hc (.inr (Nat.zero_le _)))
  clear HO18
  have HO25 := Lib.hid (HO19.out.keep hc (.inr (Nat.zero_le _)))
  clear HO19
  have HO26 := Lib.hid (HO20.out.keep hc (.inr (Nat.zero_le _)))
  clear HO20
  have HO27 := Lib.hid (HO21.out.keep hc (.inr (Nat.zero_le _)))
  clear HO21
  replace hb : Below w.heap.size w W8 := bnext hb hb1
  clear hc
  go_wp2_with fail
  refine (toIntSS_c x0 v0 _ (HX0.out.below hb) (by omega)).mono ?_
  rintro e W9 ⟨uW9, rfl, ho1, hb1⟩
  have hc := Chg.of_below hb1
  have szW9 := hc.size
  have HO28 := Lib.hid (HO22.out.keep hc (.inr (Nat.zero_le _)))
  clear HO22
  have HO29 := Lib.hid (HO23.out.keep hc (.inr (Nat.zero_le _)))
  clear HO23
  have HO30 := Lib.hid (HO24.out.keep hc (.inr (Nat.zero_le _)))
  clear HO24
  have HO31 := Lib.hid (HO25.out.keep hc (.inr (Nat.zero_le _)))
  clear HO25
  have HO32 := Lib.hid (HO26.out.keep hc (.inr (Nat.zero_le _)))
  clear HO26
  have HO33 := Lib.hid (HO27.out.keep hc (.inr (Nat.zero_le _)))
  clear HO27
  replace hb : Below w.heap.size w W9 := bnext hb hb1
  clear hc
  have HO34 := Lib.hid ho1
  go_wp2_with fail
  refine (eqIntSS_c x0 x0 uW5 uW9 _ (HO31.out.rd encI_len) (HO34.out.rd encI_len)).mono ?_
  rintro e W10 ⟨rfl, hb1⟩
  rw [decide_eq_true (rfl : x0 = x0)]
  have hc := Chg.of_below hb1
  have szW10 := hc.size
  have HO35 := Lib.hid (HO28.out.keep hc (.inr (Nat.zero_le _)))
  clear HO28
  have HO36 := Lib.hid (HO29.out.keep hc (.inr (Nat.zero_le _)))
  clear HO29
  have HO37 := Lib.hid (HO30.out.keep hc (.inr (Nat.zero_le _)))
  clear HO30
  have HO38 := Lib.hid (HO31.out.keep hc (.inr (Nat.zero_le _)))
  clear HO31
  have HO39 := Lib.hid (HO32.out.keep hc (.inr (Nat.zero_le _)))
  clear HO32
  have HO40 := Lib.hid (HO33.out.keep hc (.inr (Nat.zero_le _)))
  clear HO33
  have HO41 := Lib.hid (HO34.out.keep hc (.inr (Nat.zero_le _)))
  clear HO34
  replace hb : Below w.heap.size w W10 := bnext hb hb1
  clear hc
  go_wp2_with fail
  refine (toInfoS_c x1 v1 _ (HX1.out.below hb).1 (by omega)).mono ?_
  rintro e W11 ⟨uW11, rfl, ho1, hb1⟩
  have hc := Chg.of_below hb1
  have szW11 := hc.size
  have HO42 := Lib.hid (HO35.out.keep hc (.inr (Nat.zero_le _)))
  clear HO35
  have HO43 := Lib.hid (HO36.out.keep hc (.inr (Nat.zero_le _)))
  clear HO36
  have HO44 := Lib.hid (HO37.out.keep hc (.inr (Nat.zero_le _)))
  clear HO37
  have HO45 := Lib.hid (HO38.out.keep hc (.inr (Nat.zero_le _)))
  clear HO38
  have HO46 := Lib.hid (HO39.out.keep hc (.inr (Nat.zero_le _)))
  clear HO39
  have HO47 := Lib.hid (HO40.out.keep hc (.inr (Nat.zero_le _)))
  clear HO40
  have HO48 := Lib.hid (HO41.out.keep hc (.inr (Nat.zero_le _)))
  clear HO41
  replace hb : Below w.heap.size w W11 := bnext hb hb1
  clear hc
  have HO49 := Lib.hid (OwF.of ho1 (Nat.le_refl _))
  go_wp2_with fail
  refine (eqInfoS_c x1 x1 uW6 uW11 _ (HO46.out.rd Info.enc_len) (HO49.out.rd Info.enc_len)).mono ?_
  rintro e W12 ⟨rfl, hb1⟩
  rw [decide_eq_true (rfl : x1 = x1)]
  have hc := Chg.of_below hb1
  have szW12 := hc.size
  have HO50 := Lib.hid (HO42.out.keep hc (.inr (Nat.zero_le _)))
  clear HO42
  have HO51 := Lib.hid (HO43.out.keep hc (.inr (Nat.zero_le _)))
  clear HO43
  have HO52 := Lib.hid (HO44.out.keep hc (.inr (Nat.zero_le _)))
  clear HO44
  have HO53 := Lib.hid (HO45.out.keep hc (.inr (Nat.zero_le _)))
  clear HO45
  have HO54 := Lib.hid (HO46.out.keep hc (.inr (Nat.zero_le _)))
  clear HO46
  have HO55 := Lib.hid (HO47.out.keep hc (.inr (Nat.zero_le _)))
  clear HO47
  have HO56 := Lib.hid (HO48.out.keep hc (.inr (Nat.zero_le _)))
  clear HO48
  have HO57 := Lib.hid (HO49.out.keep hc (.inr (Nat.zero_le _)))
  clear HO49
  replace hb : Below w.heap.size w W12 := bnext hb hb1
  clear hc
  go_wp2_with fail
  refine (markIntSS_c x0 uW5 1 _ _ _ HO53.out (by omega) (by omega)).mono ?_
  rintro e W13 ⟨rfl, ho1, hc1⟩
  have hc := hc1
  have szW13 := hc.size
  have HO58 := Lib.hid (HO50.out.keep hc (by omega))
  clear HO50
  have HO59 := Lib.hid (HO51.out.keep hc (by omega))
  clear HO51
  have HO60 := Lib.hid (HO52.out.keep hc (by omega))
  clear HO52
  have HO61 := Lib.hid (HO54.out.keep hc (by omega))
  clear HO54
  have HO62 := Lib.hid (HO55.out.keep hc (by omega))
  clear HO55
  have HO63 := Lib.hid (HO56.out.keep hc (by omega))
  clear HO56
  have HO64 := Lib.hid (HO57.out.keep hc (by omega))
  clear HO57
  replace hb : Below w.heap.size w W13 := Chg.below hb hc (by omega)
  clear hc
  have HO65 : Hid (OwII _ _ W13 uW5 (marksII 1 x0)) := Lib.hid ho1
  clear HO53 ho1 hc1
  go_wp2_with fail
  refine (markInfoS_c x1 uW6 (1 + (sumLen x0 : Int)) _ _ HO61.out.1 (by omega) (by omega)).mono ?_
  rintro e W14 ⟨rfl, ho1, hg1, hn1⟩
  have hm := HO61.out.2
  have hc := Chg.of_mark hm hg1 hn1
  have szW14 := hc.size
  have HO66 := Lib.hid (HO58.out.keep hc (by omega))
  clear HO58
  have HO67 := Lib.hid (HO59.out.keep hc (by omega))
  clear HO59
  have HO68 := Lib.hid (HO60.out.keep hc (by omega))
  clear HO60
  have HO69 := Lib.hid (HO62.out.keep hc (by omega))
  clear HO62
  have HO70 := Lib.hid (HO63.out.keep hc (by omega))
  clear HO63
  have HO71 := Lib.hid (HO64.out.keep hc (by omega))
  clear HO64
  have HO72 := Lib.hid (HO65.out.keep hc (by omega))
  clear HO65
  replace hb : Below w.heap.size w W14 := Chg.below hb hc (by omega)
  clear hc
  have HO73 : Hid (OwF Info.enc 3 36 _ _ W14 uW6 (marksF (1 + (sumLen x0 : Int)) x1.length)) := Lib.hid ⟨ho1, hm⟩
  clear HO61 ho1 hg1 hn1 hm
  go_wp2_with fail
  refine (eqInfoS_c (unpL x0 x1 x2) (unpL x0 x1 x2) uW7_0 uW4_0 _ (HO69.out.rd Info.enc_len) (HO68.out.rd Info.enc_len)).mono ?_
  rintro e W15 ⟨rfl, hb1⟩
  rw [decide_eq_true (rfl : (unpL x0 x1 x2) = (unpL x0 x1 x2))]
  have hc := Chg.of_below hb1
  have szW15 := hc.size
  have HO74 := Lib.hid (HO66.out.keep hc (.inr (Nat.zero_le _)))
  clear HO66
  have HO75 := Lib.hid (HO67.out.keep hc (.inr (Nat.zero_le _)))
  clear HO67
  have HO76 := Lib.hid (HO68.out.keep hc (.inr (Nat.zero_le _)))
  clear HO68
  have HO77 := Lib.hid (HO69.out.keep hc (.inr (Nat.zero_le _)))
  clear HO69
  have HO78 := Lib.hid (HO70.out.keep hc (.inr (Nat.zero_le _)))
  clear HO70
  have HO79 := Lib.hid (HO71.out.keep hc (.inr (Nat.zero_le _)))
  clear HO71
  have HO80 := Lib.hid (HO72.out.keep hc (.inr (Nat.zero_le _)))
  clear HO72
  have HO81 := Lib.hid (HO73.out.keep hc (.inr (Nat.zero_le _)))
  clear HO73
  replace hb : Below w.heap.size w W15 := bnext hb hb1
  clear hc
  go_wp2_with fail
  refine (markInfoS_c (unpL x0 x1 x2) uW7_0 1 _ _ HO77.out.1 (by omega) (by omega)).mono ?_
  rintro e W16 ⟨rfl, ho1, hg1, hn1⟩
  have hm := HO77.out.2
  have hc := Chg.of_mark hm hg1 hn1
  have szW16 := hc.size
  have HO82 := Lib.hid (HO74.out.keep hc (by omega))
  clear HO74
  have HO83 := Lib.hid (HO75.out.keep hc (by omega))
  clear HO75
  have HO84 := Lib.hid (HO76.out.keep hc (by omega))
  clear HO76
  have HO85 := Lib.hid (HO78.out.keep hc (by omega))
  clear HO78
  have HO86 := Lib.hid (HO79.out.keep hc (by omega))
  clear HO79
  have HO87 := Lib.hid (HO80.out.keep hc (by omega))
  clear HO80
  have HO88 := Lib.hid (HO81.out.keep hc (by omega))
  clear HO81
  replace hb : Below w.heap.size w W16 := Chg.below hb hc (by omega)
  clear hc
  have HO89 : Hid (OwF Info.enc 3 36 _ _ W16 uW7_0 (marksF 1 (unpL x0 x1 x2).length)) := Lib.hid ⟨ho1, hm⟩
  clear HO77 ho1 hg1 hn1 hm
  go_wp2_with fail
  refine (heldInfoS_c (unpL x0 x1 x2).length uW7_0 1 _ (HO89.out.rd Info.enc_len) (by omega) (by omega)).mono ?_
  rintro e W17 ⟨rfl, hb1⟩
  have hc := Chg.of_below hb1
  have szW17 := hc.size
  have HO90 := Lib.hid (HO82.out.keep hc (.inr (Nat.zero_le _)))
  clear HO82
  have HO91 := Lib.hid (HO83.out.keep hc (.inr (Nat.zero_le _)))
  clear HO83
  have HO92 := Lib.hid (HO84.out.keep hc (.inr (Nat.zero_le _)))
  clear HO84
  have HO93 := Lib.hid (HO85.out.keep hc (.inr (Nat.zero_le _)))
  clear HO85
  have HO94 := Lib.hid (HO86.out.keep hc (.inr (Nat.zero_le _)))
  clear HO86
  have HO95 := Lib.hid (HO87.out.keep hc (.inr (Nat.zero_le _)))
  clear HO87
  have HO96 := Lib.hid (HO88.out.keep hc (.inr (Nat.zero_le _)))
  clear HO88
  have HO97 := Lib.hid (HO89.out.keep hc (.inr (Nat.zero_le _)))
  clear HO89
  replace hb : Below w.heap.size w W17 := bnext hb hb1
  clear hc
  go_wp2_with fail
  refine (toIntSS_c x0 v0 _ (HX0.out.below hb) (by omega)).mono ?_
  rintro e W18 ⟨uW18, rfl, ho1, hb1⟩
  have hc := Chg.of_below hb1
  have szW18 := hc.size
  have HO98 := Lib.hid (HO90.out.keep hc (.inr (Nat.zero_le _)))
  clear HO90
  have HO99 := Lib.hid (HO91.out.keep hc (.inr (Nat.zero_le _)))
  clear HO91
  have HO100 := Lib.hid (HO92.out.keep hc (.inr (Nat.zero_le _)))
  clear HO92
  have HO101 := Lib.hid (HO93.out.keep hc (.inr (Nat.zero_le _)))
  clear HO93
  have HO102 := Lib.hid (HO94.out.keep hc (.inr (Nat.zero_le _)))
  clear HO94
  have HO103 := Lib.hid (HO95.out.keep hc (.inr (Nat.zero_le _)))
  clear HO95
  have HO104 := Lib.hid (HO96.out.keep hc (.inr (Nat.zero_le _)))
  clear HO96
  have HO105 := Lib.hid (HO97.out.keep hc (.inr (Nat.zero_le _)))
  clear HO97
  replace hb : Below w.heap.size w W18 := bnext hb hb1
  clear hc
  have HO106 := Lib.hid ho1
  go_wp2_with fail
  refine (toInfoS_c x1 v1 _ (HX1.out.below hb).1 (by omega)).mono ?_
  rintro e W19 ⟨uW19, rfl, ho1, hb1⟩
  have hc := Chg.of_below hb1
  have szW19 := hc.size
  have HO107 := Lib.hid (HO98.out.keep hc (.inr (Nat.zero_le _)))
  clear HO98
  have HO108 := Lib.hid (HO99.out.keep hc (.inr (Nat.zero_le _)))
  clear HO99
  have HO109 := Lib.hid (HO100.out.keep hc (.inr (Nat.zero_le _)))
  clear HO100
  have HO110 := Lib.hid (HO101.out.keep hc (.inr (Nat.zero_le _)))
  clear HO101
  have HO111 := Lib.hid (HO102.out.keep hc (.inr (Nat.zero_le _)))
  clear HO102
  have HO112 := Lib.hid (HO103.out.keep hc (.inr (Nat.zero_le _)))
  clear HO103
  have HO113 := Lib.hid (HO104.out.keep hc (.inr (Nat.zero_le _)))
  clear HO104
  have HO114 := Lib.hid (HO105.out.keep hc (.inr (Nat.zero_le _)))
  clear HO105
  have HO115 := Lib.hid (HO106.out.keep hc (.inr (Nat.zero_le _)))
  clear HO106
  replace hb : Below w.heap.size w W19 := bnext hb hb1
  clear hc
  have HO116 := Lib.hid (OwF.of ho1 (Nat.le_refl _))
  go_wp2_with fail
  refine (implTableUnpin_c x0 x1 uW18 uW19 x2 _ (HO115.out.rd encI_len) (HO116.out.rd Info.enc_len) HX1.out.2).mono ?_
  rintro e W20 ⟨uW20_0, rfl, ho_uW20_0, hb1⟩
  have hc := Chg.of_below hb1
  have szW20 := hc.size
  have HO117 := Lib.hid (HO107.out.keep hc (.inr (Nat.zero_le _)))
  clear HO107
  have HO118 := Lib.hid (HO108.out.keep hc (.inr (Nat.zero_le _)))
  clear HO108
  have HO119 := Lib.hid (HO109.out.keep hc (.inr (Nat.zero_le _)))
  clear HO109
  have HO120 := Lib.hid (HO110.out.keep hc (.inr (Nat.zero_le _)))
  clear HO110
  have HO121 := Lib.hid (HO111.out.keep hc (.inr (Nat.zero_le _)))
  clear HO111
  have HO122 := Lib.hid (HO112.out.keep hc (.inr (Nat.zero_le _)))
  clear HO112
  have HO123 := Lib.hid (HO113.out.keep hc (.inr (Nat.zero_le _)))
  clear HO113
  have HO124 := Lib.hid (HO114.out.keep hc (.inr (Nat.zero_le _)))
  clear HO114
  have HO125 := Lib.hid (HO115.out.keep hc (.inr (Nat.zero_le _)))
  clear HO115
  have HO126 := Lib.hid (HO116.out.keep hc (.inr (Nat.zero_le _)))
  clear HO116
  replace hb : Below w.heap.size w W20 := bnext hb hb1
  clear hc
  have HO127 := Lib.hid (OwF.of ho_uW20_0 (Nat.le_refl _))
  go_wp2_with fail
  refine (eqInfoS_c (unpL x0 x1 x2) (unpL x0 x1 x2) uW20_0 uW4_0 _ (HO127.out.rd Info.enc_len) (HO119.out.rd Info.enc_len)).mono ?_
  rintro e W21 ⟨rfl, hb1⟩
  rw [decide_eq_true (rfl : (unpL x0 x1 x2) = (unpL x0 x1 x2))]
  have hc := Chg.of_below hb1
  have szW21 := hc.size
  have HO128 := Lib.hid (HO117.out.keep hc (.inr (Nat.zero_le _)))
  clear HO117
  have HO129 := Lib.hid (HO118.out.keep hc (.inr (Nat.zero_le _)))
  clear HO118
  have HO130 := Lib.hid (HO119.out.keep hc (.inr (Nat.zero_le _)))
  clear HO119
  have HO131 := Lib.hid (HO120.out.keep hc (.inr (Nat.zero_le _)))
  clear HO120
  have HO132 := Lib.hid (HO121.out.keep hc (.inr (Nat.zero_le _)))
  clear HO121
  have HO133 := Lib.hid (HO122.out.keep hc (.inr (Nat.zero_le _)))
  clear HO122
  have HO134 := Lib.hid (HO123.out.keep hc (.inr (Nat.zero_le _)))
  clear HO123
  have HO135 := Lib.hid (HO124.out.keep hc (.inr (Nat.zero_le _)))
  clear HO124
  have HO136 := Lib.hid (HO125.out.keep hc (.inr (Nat.zero_le _)))
  clear HO125
  have HO137 := Lib.hid (HO126.out.keep hc (.inr (Nat.zero_le _)))
  clear HO126
  have HO138 := Lib.hid (HO127.out.keep hc (.inr (Nat.zero_le _)))
  clear HO127
  replace hb : Below w.heap.size w W21 := bnext hb hb1
  clear hc
  go_wp2_with fail
  refine (heldInfoS_c (unpL x0 x1 x2).length uW7_0 1 _ (HO135.out.rd Info.enc_len) (by omega) (by omega)).mono ?_
  rintro e W22 ⟨rfl, hb1⟩
  have hc := Chg.of_below hb1
  have szW22 := hc.size
  have HO139 := Lib.hid (HO128.out.keep hc (.inr (Nat.zero_le _)))
  clear HO128
  have HO140 := Lib.hid (HO129.out.keep hc (.inr (Nat.zero_le _)))
  clear HO129
  have HO141 := Lib.hid (HO130.out.keep hc (.inr (Nat.zero_le _)))
  clear HO130
  have HO142 := Lib.hid (HO131.out.keep hc (.inr (Nat.zero_le _)))
  clear HO131
  have HO143 := Lib.hid (HO132.out.keep hc (.inr (Nat.zero_le _)))
  clear HO132
  have HO144 := Lib.hid (HO133.out.keep hc (.inr (Nat.zero_le _)))
  clear HO133
  have HO145 := Lib.hid (HO134.out.keep hc (.inr (Nat.zero_le _)))
  clear HO134
  have HO146 := Lib.hid (HO135.out.keep hc (.inr (Nat.zero_le _)))
  clear HO135
  have HO147 := Lib.hid (HO136.out.keep hc (.inr (Nat.zero_le _)))
  clear HO136
  have HO148 := Lib.hid (HO137.out.keep hc (.inr (Nat.zero_le _)))
  clear HO137
  have HO149 := Lib.hid (HO138.out.keep hc (.inr (Nat.zero_le _)))
  clear HO138
  replace hb : Below w.heap.size w W22 := bnext hb hb1
  clear hc
  go_wp2
  go_ret
  exact ⟨rfl, hb⟩

set_option maxRecDepth 100000 in
theorem fnExactTableUnpin_l (os : Os) (started : os.Started) (H : Type) (enc : TypeId × Value → H) :
    ReturnsInHanded {} Tryd.checked os 6 .any (fun w args => (Rows.fnExactTableUnpinSpec.pre enc Tryd.prog Tryd.f6 [] false w args ∧ laidMetH Tryd.prog Rows.fnExactTableUnpinRow.laid w) ∧ sizedMet enc Tryd.prog Tryd.f6 (OpenSpec.ofChange Rows.fnExactTableUnpinSpec) false w args)
      (Rows.fnExactTableUnpinSpec.post enc Tryd.prog Tryd.f6 false true false false) := by
  refine returnsInHanded_of_change_and (C := Tryd.checked) (X := fun w _ => laidMetH Tryd.prog Rows.fnExactTableUnpinRow.laid w) (fun _ _ _ hh h => h.of_heap hh) own started (by kernel_rfl) Tryd.func6
    (ChangeSpec.witness_shaped (enc := enc) (C := Tryd.checked) (os := os) (X := fun w _ => laidMetH Tryd.prog Rows.fnExactTableUnpinRow.laid w) false (World.laidAll Tryd.prog os Rows.fnExactTableUnpinRow.laid) #[.slice none 0 0, .slice none 0 0, .int .i64 0] 8 (World.laidAll_os _ _ _)
      (World.shaped_of_ZipB (by kernel_rfl) (by kernel_rfl)) (by kernel_rfl) (by kernel_rfl) (by kernel_rfl)
      (by rw [MakeChecks.laidMetH_plain _ _ _ (by kernel_rfl)]; exact laidMet_laidAll _ (by kernel_rfl) (by kernel_rfl))) ?_
  intro W base args ds gs before hval0 hW _ _ _ _
  have hval : ∀ (j : Nat) t v, Tryd.f6.params[j]? = some t → args[j]? = some v → Value.okWide Tryd.prog W .any base t v := hval0
  have hW' := hW
  obtain ⟨p, q, hA0, hV, rfl, _, _⟩ := hW
  have hA : DataW.TrodAll enc Tryd.prog W 0 (fun _ => true) true Tryd.f6.params.toList args.toList ds p := hA0
  rw [Tryd.params6] at hA hval
  obtain ⟨v0, vs0, d0, ds0, p0, q0, hargs, rfl, rfl, h0, r0⟩ := trodAll_cons hA
  obtain ⟨v1, vs1, d1, ds1, p1, q1, rfl, rfl, rfl, h1, r1⟩ := trodAll_cons r0
  obtain ⟨v2, vs2, d2, ds2, p2, q2, rfl, rfl, rfl, h2, r2⟩ := trodAll_cons r1
  obtain ⟨rfl, rfl, rfl⟩ := trodAll_nil r2
  obtain rfl : args = #[v0, v1, v2] := by cases args; simp_all
  obtain ⟨rfl, rfl⟩ := trodVars_none hV
  clear hA0 hval0
  simp only [List.append_nil] at hW'
  have hl0 : ∀ x ∈ p0, x.block < W.heap.size := fun x hx => by simpa using hW'.lt x (by simp [hx])
  have hl1 : ∀ x ∈ p1, x.block < W.heap.size := fun x hx => by simpa using hW'.lt x (by simp [hx])
  have hl2 : ∀ x ∈ p2, x.block < W.heap.size := fun x hx => by simpa using hW'.lt x (by simp [hx])
  obtain ⟨x0, hx0⟩ := openII (hval 0 23 v0 rfl rfl) h0
  obtain ⟨x1, hx1⟩ := openInfos (hval 1 38 v1 rfl rfl) h1
  obtain ⟨x2, hv2⟩ := openInt (hval 2 3 v2 rfl rfl) h2
  subst hv2
  refine (fnExactTableUnpin_w x0 v0 x1 v1 x2 W hx0 hx1 ).mono fun e W' ⟨he, hb⟩ => ?_
  subst he
  refine ⟨_, rfl, _, _, _, [], p0 ++ (p1 ++ p2), [], hW', trodAll_cons_mk (shut_bool Tryd.underlying4 _) trodAll_mk0, ?_, rfl, hb.frame _, fun h => by cases h⟩
  have hk := trodAll_cons_mk (Below.trod laidOut (by kernel_rfl) (of_decide_eq_true (by kernel_rfl)) h0 hb hl0) (trodAll_cons_mk (Below.trod laidOut (by kernel_rfl) (of_decide_eq_true (by kernel_rfl)) h1 hb hl1) (trodAll_cons_mk (Below.trod laidOut (by kernel_rfl) (of_decide_eq_true (by kernel_rfl)) h2 hb hl2) (trodAll_mk0)))
  simp only [List.append_nil] at hk
  exact hk

theorem fnExactTableUnpin_row : Rows.FnExactTableUnpinSaid :=
  OpenClaim.holds_of_wide 6 Tryd.f6 rfl rfl rfl rfl rfl rfl rfl ⟨rfl, rfl, rfl, rfl, rfl⟩ rfl rfl rfl rfl rfl (by kernel_rfl) Tryd.func6 (by kernel_rfl)
    (of_decide_eq_true (by kernel_rfl)) (by unfold Func.isWrapper; first | (rw [if_pos (by decide +kernel)]; kernel_rfl) | (rw [if_neg (by decide +kernel)]; exact ⟨rfl, rfl⟩))
    (fun os started H enc _ => fnExactTableUnpin_l os started H enc)

theorem fnExactTableUnpin_holds : Rows.FnExactTableUnpinCardSaid :=
  Claim7.holds_tied_plain_at .later [] [.data, .pinned] true Rows.fnExactTableUnpinCard.stood.harness false fnExactTableUnpin_row (fun _ h => by cases h) (by kernel_rfl) (fun _ h => by cases h) fnExactTableUnpin_row_tie rfl ⟨rfl, rfl⟩ (by kernel_rfl) rfl
    (fun f fn hf hfn => by
      obtain rfl : f = 6 := Option.some.inj ((show Tryd.prog.funcNamed "loop.example/exopager/laws.FnExactTableUnpin" = some 6 by kernel_rfl).symm.trans hf) |>.symm
      obtain rfl : fn = Tryd.f6 := (Option.some.inj (Tryd.func6.symm.trans hfn)).symm
      exact ⟨by kernel_rfl, fun j t ht => by
        rw [Tryd.params6] at ht
        have hm : t ∈ [23, 38, 3] := by simpa using Array.mem_of_getElem? ht
        have hall : ([23, 38, 3].all fun u => !Tryd.prog.wantsStandIn u) = true := by kernel_rfl
        exact (show Tryd.prog.wantsStandIn t = false by simpa using List.all_eq_true.1 hall t hm)⟩)
    (by kernel_rfl)

end Go.Proofs.YtbfjhiacjfbdoaaDoor
