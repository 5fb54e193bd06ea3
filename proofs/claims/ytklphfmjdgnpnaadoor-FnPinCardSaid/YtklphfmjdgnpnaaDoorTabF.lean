/- Contracts of the functions that check, count and pin tables. No conditions but the readings of the arguments and the sizes of the texts. -/
import Derived.Test.YtklphfmjdgnpnaaDoorTabE
namespace Go.Proofs.YtklphfmjdgnpnaaDoor
open Go.ChangeShapes Go.WideShapes Go.RowKit
set_option linter.all false
set_option maxRecDepth 100000
attribute [local go_sem ↓] Go.wp_at_zero Go.wp_at_succ

set_option maxHeartbeats 4000000 in
theorem implTableOk_c (m : List (List Int)) (xs : List Info) (v v2 v3 : Value) (f kind : Int) (rs : List Txt) (w : World) (hm : RdII w v m) (hx : RdF w v2 xs) (hff : fitF xs) (hr : RdS w v3 rs) (hfr : fitS rs) :
    Calls Tryd.prog 23 #[v, v2, .int .i64 f, .int .i64 kind, v3] w fun e w' => e = .returned (.bool (tokB m xs f kind rs)) ∧ Below w.heap.size w w' := by
  have HM := Lib.hid hm
  have HX := Lib.hid hx
  have HR := Lib.hid hr
  have HT := Lib.hid (show tokB m xs f kind rs = (memOk m && btw 0 f 11 && infosOk xs && tabK kind && rightsOk rs && goodB m xs f kind rs) from rfl)
  clear hm hx hr
  cases d0 : memOk m
  · have C0 := Lib.hid d0
    clear d0
    go_enter Tryd.func23, Tryd.ntmps23
    go_wp2_with fail
    refine (implMemoryValid_c m v _ (HM.out.below (bref _))).mono ?_
    rintro e v0 ⟨rfl, hb0⟩
    rw [C0.out]
    go_wp2
    go_ret
    exact ⟨ret_bool (by rw [HT.out]; simp [C0.out]), hb0⟩
  cases d1 : infosOk xs
  · have C0 := Lib.hid d0
    have C1 := Lib.hid d1
    clear d0 d1
    go_enter Tryd.func23, Tryd.ntmps23
    go_wp2_with fail
    refine (implMemoryValid_c m v _ (HM.out.below (bref _))).mono ?_
    rintro e v0 ⟨rfl, hb0⟩
    rw [C0.out]
    go_wp2_with fail
    refine (implInfosValid_c xs v2 _ (HX.out.below hb0) hff).mono ?_
    rintro e v1 ⟨rfl, hb1⟩
    have hb1 := bnext hb0 hb1
    rw [C1.out]
    go_wp2
    go_ret
    exact ⟨ret_bool (by rw [HT.out]; simp [C0.out, C1.out]), hb1⟩
  cases d2 : btw 0 f 11
  · have C0 := Lib.hid d0
    have C1 := Lib.hid d1
    have C2 := Lib.hid d2
    clear d0 d1 d2
    go_enter Tryd.func23, Tryd.ntmps23
    go_wp2_with fail
    refine (implMemoryValid_c m v _ (HM.out.below (bref _))).mono ?_
    rintro e v0 ⟨rfl, hb0⟩
    rw [C0.out]
    go_wp2_with fail
    refine (implInfosValid_c xs v2 _ (HX.out.below hb0) hff).mono ?_
    rintro e v1 ⟨rfl, hb1⟩
    have hb1 := bnext hb0 hb1
    rw [C1.out]
    go_wp2_with fail
    refine (isFrame_c f _).mono ?_
    rintro e v2 ⟨rfl, rfl⟩
    rw [C2.out]
    go_wp2
    go_ret
    exact ⟨ret_bool (by rw [HT.out]; simp [C0.out, C1.out, C2.out]), hb1⟩
  cases d3 : tabK kind
  · have C0 := Lib.hid d0
    have C1 := Lib.hid d1
    have C2 := Lib.hid d2
    have C3 := Lib.hid d3
    clear d0 d1 d2 d3
    go_enter Tryd.func23, Tryd.ntmps23
    go_wp2_with fail
    refine (implMemoryValid_c m v _ (HM.out.below (bref _))).mono ?_
    rintro e v0 ⟨rfl, hb0⟩
    rw [C0.out]
    go_wp2_with fail
    refine (implInfosValid_c xs v2 _ (HX.out.below hb0) hff).mono ?_
    rintro e v1 ⟨rfl, hb1⟩
    have hb1 := bnext hb0 hb1
    rw [C1.out]
    go_wp2_with fail
    refine (isFrame_c f _).mono ?_
    rintro e v2 ⟨rfl, rfl⟩
    rw [C2.out]
    go_wp2_with fail
    refine (isTable_c kind _).mono ?_
    rintro e v3 ⟨rfl, rfl⟩
    rw [C3.out]
    go_wp2
    go_ret
    exact ⟨ret_bool (by rw [HT.out]; simp [C0.out, C1.out, C2.out, C3.out]), hb1⟩
  cases d4 : rightsOk rs
  · have C0 := Lib.hid d0
    have C1 := Lib.hid d1
    have C2 := Lib.hid d2
    have C3 := Lib.hid d3
    have C4 := Lib.hid d4
    clear d0 d1 d2 d3 d4
    go_enter Tryd.func23, Tryd.ntmps23
    go_wp2_with fail
    refine (implMemoryValid_c m v _ (HM.out.below (bref _))).mono ?_
    rintro e v0 ⟨rfl, hb0⟩
    rw [C0.out]
    go_wp2_with fail
    refine (implInfosValid_c xs v2 _ (HX.out.below hb0) hff).mono ?_
    rintro e v1 ⟨rfl, hb1⟩
    have hb1 := bnext hb0 hb1
    rw [C1.out]
    go_wp2_with fail
    refine (isFrame_c f _).mono ?_
    rintro e v2 ⟨rfl, rfl⟩
    rw [C2.out]
    go_wp2_with fail
    refine (isTable_c kind _).mono ?_
    rintro e v3 ⟨rfl, rfl⟩
    rw [C3.out]
    go_wp2_with fail
    refine (implRightsValid_c rs v3 _ (HR.out.below hb1) hfr).mono ?_
    rintro e v4 ⟨rfl, hb4⟩
    have hb4 := bnext hb1 hb4
    rw [C4.out]
    go_wp2
    go_ret
    exact ⟨ret_bool (by rw [HT.out]; simp [C0.out, C1.out, C2.out, C3.out, C4.out]), hb4⟩
  have HA := Lib.hid (show argB m xs f = true by simp [argB, d0, d1, d2])
  have C0 := Lib.hid d0
  have C1 := Lib.hid d1
  have C2 := Lib.hid d2
  have C3 := Lib.hid d3
  have C4 := Lib.hid d4
  clear d0 d1 d2 d3 d4
  go_enter Tryd.func23, Tryd.ntmps23
  go_wp2_with fail
  refine (implMemoryValid_c m v _ (HM.out.below (bref _))).mono ?_
  rintro e v0 ⟨rfl, hb0⟩
  rw [C0.out]
  go_wp2_with fail
  refine (implInfosValid_c xs v2 _ (HX.out.below hb0) hff).mono ?_
  rintro e v1 ⟨rfl, hb1⟩
  have hb1 := bnext hb0 hb1
  rw [C1.out]
  go_wp2_with fail
  refine (isFrame_c f _).mono ?_
  rintro e v2 ⟨rfl, rfl⟩
  rw [C2.out]
  go_wp2_with fail
  refine (isTable_c kind _).mono ?_
  rintro e v3 ⟨rfl, rfl⟩
  rw [C3.out]
  go_wp2_with fail
  refine (implRightsValid_c rs v3 _ (HR.out.below hb1) hfr).mono ?_
  rintro e v4 ⟨rfl, hb4⟩
  have hb4 := bnext hb1 hb4
  rw [C4.out]
  go_wp2_with fail
  refine (good_c m xs v v2 v3 f kind rs _ (HM.out.below hb4) (HX.out.below hb4) hff (HR.out.below hb4) hfr HA.out).mono ?_
  rintro e v9 ⟨rfl, hb9⟩
  have hb9 := bnext hb4 hb9
  go_wp2
  go_ret
  exact ⟨ret_bool (by rw [HT.out]; simp [C0.out, C1.out, C2.out, C3.out, C4.out]), hb9⟩
end Go.Proofs.YtklphfmjdgnpnaaDoor
