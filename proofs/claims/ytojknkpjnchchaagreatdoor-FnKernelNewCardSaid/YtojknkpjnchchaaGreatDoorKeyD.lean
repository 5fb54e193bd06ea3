/- Equal kernels are found equal, and a new kernel is valid. No conditions but the readings of the arguments. -/
import Derived.Test.YtojknkpjnchchaaGreatDoorKerV
import Derived.Test.YtojknkpjnchchaaGreatDoorKerY
import Derived.Test.YtojknkpjnchchaaGreatDoorKerI
namespace Go.Proofs.YtojknkpjnchchaaGreatDoor
open Go.BigFrame Go.ChangeShapes Go.WideShapes Go.ChangeAt Go.RowKit
set_option linter.all false
set_option maxRecDepth 100000
attribute [local go_sem ↓] Go.wp_at_zero Go.wp_at_succ

set_option maxHeartbeats 1000000 in
theorem sameInts_c (xs ys : List Int) (v u : Value) (w : World) (hx : RdT encI 1 w v xs) (hy : RdT encI 1 w u ys) : Calls Tryz.prog 128 #[v, u] w fun e w' =>
    e = .returned (.bool (decide (xs = ys))) ∧ Below w.heap.size w w' := by
  obtain ⟨a, c, rfl, h1, h2, -, h3⟩ := hx
  obtain ⟨a', c', rfl, h1', h2', -, h3'⟩ := hy
  unfold maxLen at h2 h2'
  by_cases hn : xs.length = ys.length
  · have HN := Lib.hid hn
    obtain ⟨n, hn1⟩ : ∃ n, n = xs.length := ⟨_, rfl⟩
    have hn2 : ys.length = n := by omega
    rw [← hn1, hn2]
    have HN1 := Lib.hid hn1
    have HN2 := Lib.hid hn2
    have hnc : n ≤ c := by omega
    have hnc' : n ≤ c' := by omega
    clear hn hn1 hn2 h1 h1'
    have H3 := Lib.hid h3
    have H3' := Lib.hid h3'
    clear h3 h3'
    go_enter Tryz.func128, Tryz.ntmps128
    go_wp2
    go_loopw [5] (fun i wr => ∃ k : Nat, k ≤ n ∧ i = .int .i64 k ∧ Below w.heap.size w wr ∧ Hid (xs.take k = ys.take k)) (fun i _ => n - (intOf i).toNat)
    case atStart => exact ⟨0, Nat.zero_le _, rfl, Below.refl _ _, rfl⟩
    case round =>
      obtain ⟨k, hk, rfl, hb, heq⟩ := hrel
      by_cases hlt : k < n
      · obtain ⟨m, hm⟩ : ∃ m, xs[k]? = some m := ⟨_, List.getElem?_eq_getElem (by have := HN1.out; omega)⟩
        obtain ⟨p, hp⟩ : ∃ m, ys[k]? = some m := ⟨_, List.getElem?_eq_getElem (by have := HN2.out; omega)⟩
        obtain ⟨b, o, rfl, hbl, hc⟩ := H3.out k m hm
        obtain ⟨b', o', rfl, hbl', hc'⟩ := H3'.out k p hp
        have hk0 : (0 : Int) ≤ (k : Int) := by omega
        have hkn : (k : Int) < (n : Int) := by omega
        have c0 := (hb.cell (p := ⟨b, o + k * 1 + 0, none⟩) hbl).trans (hc 0 _ rfl)
        have d0 := (hb.cell (p := ⟨b', o' + k * 1 + 0, none⟩) hbl').trans (hc' 0 _ rfl)
        simp only [Nat.add_zero, Nat.mul_one] at c0 d0
        have HM := Lib.hid hm
        have HP := Lib.hid hp
        clear hc hc' hm hp
        by_cases hmp : m = p
        all_goals
          have HE := Lib.hid hmp
          first | have he := Lib.hid (decide_eq_false hmp) | have he := Lib.hid (decide_eq_true hmp)
          first | have hne : (m != p) = true := bne_iff_ne.2 hmp | have hne : (m != p) = false := by simp [hmp]
          clear hmp
          go_wp2
          go_still_tail 8, (by kernel_rfl)
          change wpList _ _ _ _ _ wr.drew
          have hb3 := hb.drew
          go_wp2
        · go_roundw
          case rel => exact ⟨k + 1, by omega, by go_num, hb3, take_eq_succ HM.out HP.out heq HE.out⟩
          case measure => simp [intOf]; omega
        · go_ret
          exact ⟨ret_bool (by rw [eq_comm, decide_eq_false_iff_not]; exact ne_of_get HM.out HP.out HE.out), hb3⟩
      · go_wp2
        go_ret
        refine ⟨ret_bool ?_, hb⟩
        have h1 := HN1.out
        have h2 := HN2.out
        have h3 : k = n := by omega
        have h4 := heq.out
        rw [List.take_of_length_le (by omega), List.take_of_length_le (by omega)] at h4
        simp [h4]
  · go_enter Tryz.func128, Tryz.ntmps128
    go_wp2
    go_ret
    exact ⟨ret_bool (by rw [eq_comm, decide_eq_false_iff_not]; rintro rfl; exact hn rfl), Below.refl _ _⟩

set_option maxHeartbeats 1000000 in
theorem sameTexts_c (xs ys : List Txt) (v u : Value) (w : World) (hx : RdT encS 1 w v xs) (hy : RdT encS 1 w u ys) : Calls Tryz.prog 24 #[v, u] w fun e w' =>
    e = .returned (.bool (decide (xs = ys))) ∧ Below w.heap.size w w' := by
  obtain ⟨a, c, rfl, h1, h2, -, h3⟩ := hx
  obtain ⟨a', c', rfl, h1', h2', -, h3'⟩ := hy
  unfold maxLen at h2 h2'
  by_cases hn : xs.length = ys.length
  · have HN := Lib.hid hn
    obtain ⟨n, hn1⟩ : ∃ n, n = xs.length := ⟨_, rfl⟩
    have hn2 : ys.length = n := by omega
    rw [← hn1, hn2]
    have HN1 := Lib.hid hn1
    have HN2 := Lib.hid hn2
    have hnc : n ≤ c := by omega
    have hnc' : n ≤ c' := by omega
    clear hn hn1 hn2 h1 h1'
    have H3 := Lib.hid h3
    have H3' := Lib.hid h3'
    clear h3 h3'
    go_enter Tryz.func24, Tryz.ntmps24
    go_wp2
    go_loopw [5] (fun i wr => ∃ k : Nat, k ≤ n ∧ i = .int .i64 k ∧ Below w.heap.size w wr ∧ Hid (xs.take k = ys.take k)) (fun i _ => n - (intOf i).toNat)
    case atStart => exact ⟨0, Nat.zero_le _, rfl, Below.refl _ _, rfl⟩
    case round =>
      obtain ⟨k, hk, rfl, hb, heq⟩ := hrel
      by_cases hlt : k < n
      · obtain ⟨m, hm⟩ : ∃ m, xs[k]? = some m := ⟨_, List.getElem?_eq_getElem (by have := HN1.out; omega)⟩
        obtain ⟨p, hp⟩ : ∃ m, ys[k]? = some m := ⟨_, List.getElem?_eq_getElem (by have := HN2.out; omega)⟩
        obtain ⟨b, o, rfl, hbl, hc⟩ := H3.out k m hm
        obtain ⟨b', o', rfl, hbl', hc'⟩ := H3'.out k p hp
        have hk0 : (0 : Int) ≤ (k : Int) := by omega
        have hkn : (k : Int) < (n : Int) := by omega
        have c0 := (hb.cell (p := ⟨b, o + k * 1 + 0, none⟩) hbl).trans (hc 0 _ rfl)
        have d0 := (hb.cell (p := ⟨b', o' + k * 1 + 0, none⟩) hbl').trans (hc' 0 _ rfl)
        simp only [Nat.add_zero, Nat.mul_one] at c0 d0
        have HM := Lib.hid hm
        have HP := Lib.hid hp
        clear hc hc' hm hp
        by_cases hmp : m = p
        all_goals
          have HE := Lib.hid hmp
          first | have he := Lib.hid (decide_eq_false hmp) | have he := Lib.hid (decide_eq_true hmp)
          first | have hne : (m == p) = false := beq_eq_false_iff_ne.2 hmp | have hne : (m == p) = true := beq_iff_eq.2 hmp
          clear hmp
          go_wp2
          go_still_tail 8, (by kernel_rfl)
          change wpList _ _ _ _ _ wr.drew
          have hb3 := hb.drew
          go_wp2
        · go_roundw
          case rel => exact ⟨k + 1, by omega, by go_num, hb3, take_eq_succ HM.out HP.out heq HE.out⟩
          case measure => simp [intOf]; omega
        · go_ret
          exact ⟨ret_bool (by rw [eq_comm, decide_eq_false_iff_not]; exact ne_of_get HM.out HP.out HE.out), hb3⟩
      · go_wp2
        go_ret
        refine ⟨ret_bool ?_, hb⟩
        have h1 := HN1.out
        have h2 := HN2.out
        have h3 : k = n := by omega
        have h4 := heq.out
        rw [List.take_of_length_le (by omega), List.take_of_length_le (by omega)] at h4
        simp [h4]
  · go_enter Tryz.func24, Tryz.ntmps24
    go_wp2
    go_ret
    exact ⟨ret_bool (by rw [eq_comm, decide_eq_false_iff_not]; rintro rfl; exact hn rfl), Below.refl _ _⟩


set_option maxHeartbeats 2000000 in
theorem sameMemory_c (m : List (List Int)) (v u : Value) (w : World) (hx : RdII w v m) (hy : RdII w u m) :
    Calls Tryz.prog 74 #[v, u] w fun e w' => e = .returned (.bool true) ∧ Below w.heap.size w w' := by
  obtain ⟨rx, ⟨a, c, rfl, h1, h2, -, h3⟩, hin⟩ := hx
  obtain ⟨ry, ⟨a', c', rfl, h1', h2', -, h3'⟩, hin'⟩ := hy
  unfold maxLen at h2 h2'
  obtain ⟨n, hn⟩ : ∃ n, n = m.length := ⟨_, rfl⟩
  rw [hin.1, ← hn] at h1 ⊢
  rw [hin'.1, ← hn] at h1' ⊢
  have HN := Lib.hid hn
  have HIN := Lib.hid hin
  have HIN' := Lib.hid hin'
  have H3 := Lib.hid h3
  have H3' := Lib.hid h3'
  clear h3 h3' hin hin' hn
  go_enter Tryz.func74, Tryz.ntmps74
  go_wp2
  go_loopw [5] (fun i wr => ∃ k : Nat, k ≤ n ∧ i = .int .i64 k ∧ Below w.heap.size w wr) (fun i _ => n - (intOf i).toNat)
  case atStart => exact ⟨0, Nat.zero_le _, rfl, Below.refl _ _⟩
  case round =>
    obtain ⟨k, hk, rfl, hb⟩ := hrel
    by_cases hlt : k < n
    · obtain ⟨xs, hxs⟩ : ∃ xs, m[k]? = some xs := ⟨_, List.getElem?_eq_getElem (by have := HN.out; omega)⟩
      obtain ⟨⟨sa, sn, sc⟩, hrow, hrd⟩ := HIN.out.get hxs
      obtain ⟨⟨ta, tn, tc⟩, hrow', hrd'⟩ := HIN'.out.get hxs
      obtain ⟨b, o, rfl, hbl, hc⟩ := H3.out k _ hrow
      obtain ⟨b', o', rfl, hbl', hc'⟩ := H3'.out k _ hrow'
      have c0 := (hb.cell (p := ⟨b, o + k * 1 + 0, none⟩) hbl).trans (hc 0 _ rfl)
      have d0 := (hb.cell (p := ⟨b', o' + k * 1 + 0, none⟩) hbl').trans (hc' 0 _ rfl)
      simp only [Nat.add_zero, Nat.mul_one, slv] at c0 d0 hrd hrd'
      have y0 := cell_bel c0
      have y1 := cell_bel d0
      have HRD := Lib.hid (hrd.below hb)
      have HRD' := Lib.hid (hrd'.below hb)
      have hk0 : (0 : Int) ≤ (k : Int) := by omega
      have hkn : (k : Int) < (n : Int) := by omega
      have HB := Lib.hid hb
      clear hc hc' hrow hrow' hrd hrd' hxs c0 d0 hb
      go_wp2
      refine wp_region_plan [some 8, none, some 1] (by kernel_rfl) (by kernel_rfl) ?_
      change wpQuiet _ _ _ _ [_, _, _, _, _, _, _, _] _
      repeat (go_big_quiet_step (fail))
      refine wpQuiet_nil ?_
      change wpList _ _ _ [_] _ _
      go_wp2_with fail
      refine (sameInts_c xs xs _ _ _ (HRD.out.below (bref _).drew) (HRD'.out.below (bref _).drew)).mono ?_
      rintro e w2 ⟨rfl, hb2⟩
      rw [decide_eq_true (rfl : xs = xs)]
      have HL := Lib.hid (bdrew (bref _) hb2)
      clear hb2
      go_wp2
      refine ⟨⟨⟨_, HL.out⟩, rfl⟩, ?_⟩
      change wpQuiet _ _ _ _ [_] _
      repeat (go_big_quiet_step (fail))
      refine wpQuiet_nil ?_
      refine wpPlan_nil ?_
      (try dsimp only)
      have HB2 := Lib.hid (bnext HB.out HL.out)
      go_wp2
      go_roundw
      case rel => first | exact ⟨k + 1, by omega, by go_num, HB2.out⟩ | ((repeat apply Exists.intro); exact ⟨⟨k + 1, by omega, by go_num, HB2.out⟩, rfl⟩)
      case measure => simp [intOf]; omega
    · go_wp2
      go_ret
      exact ⟨rfl, hb⟩

set_option maxHeartbeats 2000000 in
theorem sameEnvs_c (es : List Env) (v u : Value) (w : World) (hx : RdE w v es) (hy : RdE w u es) :
    Calls Tryz.prog 76 #[v, u] w fun e w' => e = .returned (.bool true) ∧ Below w.heap.size w w' := by
  obtain ⟨rx, ⟨a, c, rfl, h1, h2, -, h3⟩, hin, hrt⟩ := hx
  obtain ⟨ry, ⟨a', c', rfl, h1', h2', -, h3'⟩, hin', hrt'⟩ := hy
  unfold maxLen at h2 h2'
  obtain ⟨n, hn⟩ : ∃ n, n = es.length := ⟨_, rfl⟩
  rw [RdE.len hin, ← hn] at h1 ⊢
  rw [RdE.len hin', ← hn] at h1' ⊢
  have HN := Lib.hid hn
  have HIN := Lib.hid hin
  have HIN' := Lib.hid hin'
  have HRT := Lib.hid hrt
  have HRT' := Lib.hid hrt'
  have H3 := Lib.hid h3
  have H3' := Lib.hid h3'
  clear h3 h3' hin hin' hn hrt hrt'
  go_enter Tryz.func76, Tryz.ntmps76
  go_wp2
  go_loopw [5] (fun i wr => ∃ k : Nat, k ≤ n ∧ i = .int .i64 k ∧ Below w.heap.size w wr) (fun i _ => n - (intOf i).toNat)
  case atStart => exact ⟨0, Nat.zero_le _, rfl, Below.refl _ _⟩
  case round =>
    obtain ⟨k, hk, rfl, hb⟩ := hrel
    by_cases hlt : k < n
    · obtain ⟨⟨xs, r⟩, hxs⟩ : ∃ x, es[k]? = some x := ⟨_, List.getElem?_eq_getElem (by have := HN.out; omega)⟩
      obtain ⟨⟨sa, sn, sc⟩, hrow, hrd⟩ := getE HIN.out HRT.out hxs
      obtain ⟨⟨ta, tn, tc⟩, hrow', hrd'⟩ := getE HIN'.out HRT'.out hxs
      obtain ⟨b, o, rfl, hbl, hc⟩ := H3.out k _ hrow
      obtain ⟨b', o', rfl, hbl', hc'⟩ := H3'.out k _ hrow'
      have c0 := (hb.cell (p := ⟨b, o + k * 2 + 0, none⟩) hbl).trans (hc 0 _ rfl)
      have c1 := (hb.cell (p := ⟨b, o + k * 2 + 1, none⟩) hbl).trans (hc 1 _ rfl)
      have d0 := (hb.cell (p := ⟨b', o' + k * 2 + 0, none⟩) hbl').trans (hc' 0 _ rfl)
      have d1 := (hb.cell (p := ⟨b', o' + k * 2 + 1, none⟩) hbl').trans (hc' 1 _ rfl)
      simp only [Nat.add_zero, slv] at c0 c1 d0 d1 hrd hrd'
      have y0 := cell_bel c0
      have y1 := cell_bel c1
      have y2 := cell_bel d0
      have y3 := cell_bel d1
      have hrr : (r != r) = false := by simp
      have HRD := Lib.hid (hrd.below hb)
      have HRD' := Lib.hid (hrd'.below hb)
      have hk0 : (0 : Int) ≤ (k : Int) := by omega
      have hkn : (k : Int) < (n : Int) := by omega
      have HB := Lib.hid hb
      clear hc hc' hrow hrow' hrd hrd' hxs c0 c1 d0 d1 hb
      go_wp2
      refine wp_region_plan [some 22, none, some 2] (by kernel_rfl) (by kernel_rfl) ?_
      change wpQuiet _ _ _ _ [_, _, _, _, _, _, _, _, _, _, _, _, _, _, _, _, _, _, _, _, _, _] _
      repeat (go_big_quiet_step (fail))
      refine wpQuiet_nil ?_
      change wpList _ _ _ [_] _ _
      go_wp2_with fail
      refine (sameTexts_c xs xs _ _ _ (HRD.out.below (bref _).drew) (HRD'.out.below (bref _).drew)).mono ?_
      rintro e w2 ⟨rfl, hb2⟩
      rw [decide_eq_true (rfl : xs = xs)]
      have HL := Lib.hid (bdrew (bref _) hb2)
      clear hb2
      go_wp2
      refine ⟨⟨⟨_, HL.out⟩, rfl⟩, ?_⟩
      change wpQuiet _ _ _ _ [_, _] _
      repeat (go_big_quiet_step (fail))
      refine wpQuiet_nil ?_
      refine wpPlan_nil ?_
      (try dsimp only)
      have HB2 := Lib.hid (bnext HB.out HL.out)
      go_wp2
      go_roundw
      case rel => first | exact ⟨k + 1, by omega, by go_num, HB2.out⟩ | ((repeat apply Exists.intro); exact ⟨⟨k + 1, by omega, by go_num, HB2.out⟩, rfl⟩)
      case measure => simp [intOf]; omega
    · go_wp2
      go_ret
      exact ⟨rfl, hb⟩

theorem sameCache_c (v u : Value) (w : World) (hx : RdC w v []) (hy : RdC w u []) :
    Calls Tryz.prog 77 #[v, u] w fun e w' => e = .returned (.bool true) ∧ Below w.heap.size w w' := by
  obtain ⟨a, c, rfl, -, -, -, -⟩ := hx
  obtain ⟨a', c', rfl, -, -, -, -⟩ := hy
  go_enter Tryz.func77, Tryz.ntmps77
  go_wp2
  refine wp_loop_rounds 1 ?_
  rw [rounds_succ]
  go_wp2
  go_ret
  exact ⟨rfl, bref _⟩

set_option maxHeartbeats 2000000 in
/-- Equal kernels without translations. -/
theorem sameKernel_c (k : Kern) (v u : Value) (w : World) (hx : RdK w v k) (hy : RdK w u k) (hca : k.ca = []) :
    Calls Tryz.prog 23 #[v, u] w fun e w' => e = .returned (.bool true) ∧ Below w.heap.size w w' := by
  obtain ⟨a, b, c, d, rfl, x1, x2, x3, x4⟩ := hx
  obtain ⟨a', b', c', d', rfl, y1, y2, y3, y4⟩ := hy
  rw [hca] at x4 y4
  have HB := Lib.hid (((Bun.refl w none).alloc (.cells #[a, b, c, d] 34)).blkAt (.cells #[a', b', c', d'] 34) (w.heap.size + 1) (by simp))
  have X1 := Lib.hid x1
  have X2 := Lib.hid x2
  have X3 := Lib.hid x3
  have X4 := Lib.hid x4
  have Y1 := Lib.hid y1
  have Y2 := Lib.hid y2
  have Y3 := Lib.hid y3
  have Y4 := Lib.hid y4
  clear x1 x2 x3 x4 y1 y2 y3 y4
  obtain ⟨p0, p1, p2, p3, -, -, -, -, pz⟩ := blk4 (HB.out.get 1 rfl)
  obtain ⟨q0, q1, q2, q3, -, -, -, -, qz⟩ := blk4 (HB.out.get 0 rfl)
  go_enter Tryz.func23, Tryz.ntmps23
  go_wp2_with fail
  refine (sameMemory_c k.me a a' _ (X1.out.below HB.out.below) (Y1.out.below HB.out.below)).mono ?_
  rintro e w1 ⟨rfl, hb⟩
  have HB1 := Lib.hid (HB.out.call hb)
  clear hb p0 p1 p2 p3 pz q0 q1 q2 q3 qz
  obtain ⟨p0, p1, p2, p3, -, -, -, -, pz⟩ := blk4 (HB1.out.get 1 rfl)
  obtain ⟨q0, q1, q2, q3, -, -, -, -, qz⟩ := blk4 (HB1.out.get 0 rfl)
  go_wp2_with fail
  refine (sameInfos_c k.inf k.inf b b' _ (X2.out.below HB1.out.below) (Y2.out.below HB1.out.below)).mono ?_
  rintro e w2 ⟨rfl, hb⟩
  rw [decide_eq_true (rfl : k.inf = k.inf)]
  have HB2 := Lib.hid (HB1.out.call hb)
  clear hb p0 p1 p2 p3 pz q0 q1 q2 q3 qz
  obtain ⟨p0, p1, p2, p3, -, -, -, -, pz⟩ := blk4 (HB2.out.get 1 rfl)
  obtain ⟨q0, q1, q2, q3, -, -, -, -, qz⟩ := blk4 (HB2.out.get 0 rfl)
  go_wp2_with fail
  refine (sameEnvs_c k.env c c' _ (X3.out.below HB2.out.below) (Y3.out.below HB2.out.below)).mono ?_
  rintro e w3 ⟨rfl, hb⟩
  have HB3 := Lib.hid (HB2.out.call hb)
  clear hb p0 p1 p2 p3 pz q0 q1 q2 q3 qz
  obtain ⟨p0, p1, p2, p3, -, -, -, -, pz⟩ := blk4 (HB3.out.get 1 rfl)
  obtain ⟨q0, q1, q2, q3, -, -, -, -, qz⟩ := blk4 (HB3.out.get 0 rfl)
  go_wp2_with fail
  refine (sameCache_c d d' _ (X4.out.below HB3.out.below) (Y4.out.below HB3.out.below)).mono ?_
  rintro e w4 ⟨rfl, hb⟩
  have HB4 := Lib.hid (HB3.out.call hb)
  clear hb p0 p1 p2 p3 pz q0 q1 q2 q3 qz
  go_wp2
  go_ret
  exact ⟨rfl, HB4.out.below⟩

/-! A new kernel is valid. -/
theorem zeros_cnt (m : List (List Int)) (f : Nat) : ∀ t, cntTo m (List.replicate 12 Info.zero) t f = 0 := by
  intro t
  induction t with
  | zero => rfl
  | succ t ih =>
    have h1 : (infAt (List.replicate 12 Info.zero) (t : Int)).kd = 0 := by
      unfold infAt
      rw [List.getElem?_replicate]
      split <;> rfl
    rw [show cntTo m (List.replicate 12 Info.zero) (t + 1) f = cntTo m (List.replicate 12 Info.zero) t f + (if tabK (infAt (List.replicate 12 Info.zero) (t : Int)).kd then cntI (names (rowAt m (t : Int))) f else 0) from rfl, ih, h1]
    rfl
theorem zeros_at (f : Nat) : (List.replicate 12 Info.zero).getD (f : Int).toNat Info.zero = Info.zero := by
  simp only [List.getD, List.getElem?_replicate]
  split <;> rfl
theorem newK_ca (xss : List (List Txt)) : (newK xss).ca = [] := by unfold newK; split <;> rfl
theorem newK_fit (xss : List (List Txt)) (h : ∀ xs ∈ xss, fitS xs) : fitF (newK xss).inf ∧ ∀ e ∈ (newK xss).env, fitS e.rg := by
  unfold newK
  split
  · refine ⟨fun x hx => ?_, fun e he => ?_⟩
    · rw [List.eq_of_mem_replicate hx]; decide
    · simp only [envsOf, List.mem_map] at he
      obtain ⟨xs, hx, rfl⟩ := he
      exact h xs hx
  · exact ⟨fun x hx => by simp [nilK] at hx, fun e he => by simp [nilK] at he⟩
theorem newK_valid {xss : List (List Txt)} (h : newB xss = true) : validB (newK xss) = true := by
  have hk : newK xss = ⟨List.replicate 12 [0, 0, 0, 0], List.replicate 12 Info.zero, envsOf xss, []⟩ := by simp [newK, h]
  simp only [newB, Bool.and_eq_true, decide_eq_true_eq, Bool.not_eq_true', List.any_eq_false] at h
  obtain ⟨hl, hr⟩ := h
  have h1 : headB (newK xss) = true := by
    rw [hk]
    show (memOk (List.replicate 12 [0, 0, 0, 0]) && (infosOk (List.replicate 12 Info.zero) && cachB [])) = true
    decide
  have h2 : envsB (newK xss) = true := by
    rw [hk]
    unfold envsB
    simp only [Bool.and_eq_true, decide_eq_true_eq]
    refine ⟨by simp [envsOf, hl], List.all_eq_true.2 fun e he => ?_⟩
    simp only [envsOf, List.mem_map] at he
    obtain ⟨xs, hx, rfl⟩ := he
    have h3 : rightsOk xs = true := by simpa using hr xs hx
    unfold envOk
    rw [h3, rtOk_one]
    simp [reachL, allowB]
  have h3 : tablesB (newK xss) = true := by
    rw [hk]
    refine range_good fun i _ => ?_
    unfold tableOk kdAt
    rw [zeros_at]; rfl
  have h4 : refsB (newK xss) = true := by
    rw [hk]
    refine range_good fun i _ => ?_
    unfold refOk rfAt
    rw [zeros_at, zeros_cnt]
    have h5 : cntI (rootsTo (envsOf xss) 3) i = 0 := by
      unfold cntI
      have : (rootsTo (envsOf xss) 3).count (i : Int) = 0 := by
        rw [List.count_eq_zero]
        intro hm
        simp only [rootsTo, envsOf, List.mem_map] at hm
        obtain ⟨e, he, h6⟩ := hm
        have := List.mem_of_mem_take he
        simp only [List.mem_map] at this
        obtain ⟨xs, -, rfl⟩ := this
        have h7 : (-1 : Int) = (i : Int) := h6
        omega
      rw [this]; rfl
    rw [h5]; decide
  have h5 : casB (newK xss) = true := by rw [hk]; rfl
  unfold validB
  rw [h1, h2, h3, h4, h5]; rfl
theorem newK_free {xss : List (List Txt)} (h : newB xss = true) : freeN (newK xss).inf = 12 := by
  have hk : (newK xss).inf = List.replicate 12 Info.zero := by simp [newK, h]
  rw [hk]; decide
end Go.Proofs.YtojknkpjnchchaaGreatDoor
