/- Contracts of the functions that draw what is known of frames. No conditions but the readings of the arguments. -/
import Derived.Test.YtklphfmjdgnpnaaDoorInfoG
import Derived.Test.YtklphfmjdgnpnaaDoorRightB
import Derived.Test.YtklphfmjdgnpnaaDoorInts
namespace Go.Proofs.YtklphfmjdgnpnaaDoor
open Go.ChangeShapes Go.WideShapes Go.RowKit
set_option linter.all false
set_option maxRecDepth 100000
attribute [local go_sem ↓] Go.wp_at_zero Go.wp_at_succ

/-- Texts of at most five letters. -/
def shortF (xs : List Info) : Prop := ∀ x ∈ xs, x.gd.length ≤ 5
theorem shortF.fit {xs : List Info} (h : shortF xs) : fitF xs := fun x hx => by have := h x hx; omega
theorem shortF_snoc {xs : List Info} {m : Info} (h : shortF xs) (hm : m.gd.length ≤ 5) : shortF (xs ++ [m]) := by
  intro x hx
  rcases List.mem_append.1 hx with hx | hx
  · exact h x hx
  · simp at hx; subst hx; exact hm
theorem shortF_take {xs : List Info} (h : shortF xs) (k : Nat) : shortF (xs.take k) := fun x hx => h x (List.mem_of_mem_take hx)
theorem shortF_set {xs : List Info} {k : Nat} {m : Info} (h : shortF xs) (hm : m.gd.length ≤ 5) : shortF (xs.set k m) := by
  intro x hx
  rcases List.mem_or_eq_of_mem_set hx with hx | rfl
  · exact h x hx
  · exact hm

theorem Bun.put3 {g : Nat} {x y z : Value} {t : TypeId} {w0 w : World} {row : Option Nat} {rs : List Res} (h : Bun w0 row w (Res.blk g (.cells #[x, y, z] t (0, 0)) :: rs)) (a b c : Value) :
    Bun w0 row (((w.setCell ⟨g, 0, none⟩ a).setCell ⟨g, 1, none⟩ b).setCell ⟨g, 2, none⟩ c) rs := (((h.put 0 a).put 1 b).put 2 c).drop

section
variable {w0 w : World} {row : Option Nat} {rs : List Res} {B : Nat} {v : Value} {bs : List Int} {k : Int}

set_option maxHeartbeats 8000000 in
theorem l91Info_b (H : Bun w0 row w (Res.rdr B v bs k :: rs)) (hk : k ≤ 5000) : Calls Tryd.prog 113 #[.pointer (some ⟨B, 0, none⟩)] w fun e w' =>
    ∃ m : Info, e = .returned m.val ∧ m.gd.length ≤ 5 ∧ Bun w0 row w' (Res.rdr B v bs (k + 10) :: rs) := by
  have H0 := Lib.hid ((H.alloc (.cells #[.int .i64 0, .string ⟨#[]⟩, .int .i64 0] 36)).front 1 rfl)
  clear H
  go_enter Tryd.func113, Tryd.ntmps113
  go_wp2_with fail
  refine (pick_b 3 H0.out (by omega) (by omega)).mono ?_
  rintro e W1 ⟨q1, rfl, hq10, -, H1'⟩
  have H1 := Lib.hid H1'
  clear H1' H0
  by_cases hz1 : q1 = 0
  · have hb1 : (q1 == 0) = true := beq_iff_eq.2 hz1
    obtain ⟨r0, r1, r2, g0, g1, g2, rs0⟩ := blk3 (H1.out.get 1 rfl)
    have H9 := Lib.hid (((H1.out.front 1 rfl).put3 (.int .i64 0) (.string ⟨#[]⟩) (.int .i64 0)).more (show k + 1 ≤ k + 10 by omega))
    clear hz1
    go_wp2
    refine bodyPost_ret (v := .agg #[.int .i64 0, .string ⟨#[]⟩, .int .i64 0]) ?_ rfl ?_
    · simp [results, Tryd.results113, go_sem, r0, r1, r2, rs0]
    · exact ⟨Info.zero, rfl, by simp [Info.zero], H9.out⟩
  have hb1 : (q1 == 0) = false := beq_eq_false_iff_ne.2 hz1
  clear hz1 hq10
  go_wp2_with fail
  refine (pick_b 3 H1.out (by omega) (by omega)).mono ?_
  rintro e W2 ⟨q2, rfl, hq20, hq21, H2'⟩
  replace hq21 := hq21 (by omega)
  have H2 := Lib.hid ((H2'.lits eltStr #[tv [97], tv [97], tv [98], tv [97, 98], tv []] [[97], [97], [98], [97, 98], []] 5 rfl rfl (by omega)).front 1 rfl)
  clear H2' H1
  go_wp2_with fail
  refine (of_b [[97], [97], [98], [97, 98], []] _ H2.out (by omega) (by simp)).mono ?_
  rintro e W3 ⟨gx, rfl, hgx, H3'⟩
  have hg5 : gx.length ≤ 5 := by revert hgx; revert gx; decide
  have H3 := Lib.hid (H3'.rm 1)
  clear H3' H2 hgx
  go_wp2_with fail
  refine (pick_b 2 H3.out (by omega) (by omega)).mono ?_
  rintro e W4 ⟨q4, rfl, hq40, hq41, H4'⟩
  replace hq41 := hq41 (by omega)
  have H4 := Lib.hid H4'
  clear H4' H3
  go_wp2_with fail
  refine (pick_b 3 H4.out (by omega) (by omega)).mono ?_
  rintro e W5 ⟨q5, rfl, hq50, hq51, H5'⟩
  replace hq51 := hq51 (by omega)
  have hp : 0 ≤ q4 * q5 ∧ q4 * q5 ≤ 2 := by
    have h4 : q4 = 0 ∨ q4 = 1 := by omega
    rcases h4 with rfl | rfl
    · simp
    · simp; omega
  obtain ⟨hp0, hp1⟩ := hp
  have H5 := Lib.hid ((H5'.alloc (.cells #[.int .i64 (1 + q2), tv gx, .int .i64 (q4 * q5)] 36)).front 1 rfl)
  clear H5' H4
  go_wp2_with fail
  refine (pick_b 60 H5.out (by omega) (by omega)).mono ?_
  rintro e W6 ⟨q6, rfl, -, -, H6'⟩
  have H6 := Lib.hid H6'
  clear H6' H5
  by_cases e0 : q6 = 0
  · subst e0
    have H7 := Lib.hid ((H6.out.alloc (.cells #[.int .i64 (-1), .int .i64 0, .int .i64 4] 3)).front 1 rfl)
    clear H6
    go_wp2_with fail
    refine (pick_b 3 H7.out (by omega) (by omega)).mono ?_
    rintro e W7 ⟨y, rfl, hy0, hy1, H8'⟩
    replace hy1 := hy1 (by omega)
    have H8 := Lib.hid H8'
    clear H8' H7
    obtain ⟨l0, l1, l2, -, -, -, ls⟩ := blk3 (H8.out.get 1 rfl)
    obtain ⟨m0, m1, m2, f0, f1, f2, ms⟩ := blk3 (H8.out.get 2 rfl)
    obtain ⟨r0, r1, r2, g0, g1, g2, rs0⟩ := blk3 (H8.out.get 3 rfl)
    have hne : W5.heap.size ≠ w.heap.size := fun e => (List.pairwise_iff_getElem.1 H8.out.apart 2 3 (by simp) (by simp) (by omega)) W5.heap.size rfl e
    have hyc : y = 0 ∨ y = 1 ∨ y = 2 := by omega
    clear hy0 hy1
    rcases hyc with rfl | rfl | rfl
    · have H9 := Lib.hid ((((((H8.out.front 2 rfl).put 0 (.int .i64 (-1))).front 3 rfl).put3 (.int .i64 (-1)) (tv gx) (.int .i64 (q4 * q5))).rm 2).rm 0 |>.more (show k + 1 + 1 + 1 + 1 + 1 + 1 + 1 ≤ k + 10 by omega))
      go_wp2
      refine bodyPost_ret (v := .agg #[.int .i64 (-1), tv gx, .int .i64 (q4 * q5)]) ?_ rfl ?_
      · simp [results, Tryd.results113, go_sem, r0, r1, r2, rs0, hne, hne.symm]
      · exact ⟨⟨(-1), gx, (q4 * q5)⟩, rfl, by first | exact hg5 | exact hx5, H9.out⟩
    · have H9 := Lib.hid ((((((H8.out.front 2 rfl).put 0 (.int .i64 0)).front 3 rfl).put3 (.int .i64 0) (tv gx) (.int .i64 (q4 * q5))).rm 2).rm 0 |>.more (show k + 1 + 1 + 1 + 1 + 1 + 1 + 1 ≤ k + 10 by omega))
      go_wp2
      refine bodyPost_ret (v := .agg #[.int .i64 0, tv gx, .int .i64 (q4 * q5)]) ?_ rfl ?_
      · simp [results, Tryd.results113, go_sem, r0, r1, r2, rs0, hne, hne.symm]
      · exact ⟨⟨0, gx, (q4 * q5)⟩, rfl, by first | exact hg5 | exact hx5, H9.out⟩
    · have H9 := Lib.hid ((((((H8.out.front 2 rfl).put 0 (.int .i64 4)).front 3 rfl).put3 (.int .i64 4) (tv gx) (.int .i64 (q4 * q5))).rm 2).rm 0 |>.more (show k + 1 + 1 + 1 + 1 + 1 + 1 + 1 ≤ k + 10 by omega))
      go_wp2
      refine bodyPost_ret (v := .agg #[.int .i64 4, tv gx, .int .i64 (q4 * q5)]) ?_ rfl ?_
      · simp [results, Tryd.results113, go_sem, r0, r1, r2, rs0, hne, hne.symm]
      · exact ⟨⟨4, gx, (q4 * q5)⟩, rfl, by first | exact hg5 | exact hx5, H9.out⟩
  by_cases e1 : q6 = 1
  · subst e1
    go_wp2_with fail
    refine (l91Right_b H6.out (by omega)).mono ?_
    rintro e W7 ⟨gy, rfl, hx5, H8'⟩
    have H8 := Lib.hid H8'
    clear H8' H6
    obtain ⟨m0, m1, m2, f0, f1, f2, ms⟩ := blk3 (H8.out.get 1 rfl)
    obtain ⟨r0, r1, r2, g0, g1, g2, rs0⟩ := blk3 (H8.out.get 2 rfl)
    have hne : W5.heap.size ≠ w.heap.size := fun e => (List.pairwise_iff_getElem.1 H8.out.apart 1 2 (by simp) (by simp) (by omega)) W5.heap.size rfl e
    have H9 := Lib.hid (((((H8.out.front 1 rfl).put 1 (tv gy)).front 2 rfl).put3 (.int .i64 (1 + q2)) (tv gy) (.int .i64 (q4 * q5))).rm 0 |>.more (show k + 1 + 1 + 1 + 1 + 1 + 1 + 2 ≤ k + 10 by omega))
    go_wp2
    refine bodyPost_ret (v := .agg #[.int .i64 (1 + q2), tv gy, .int .i64 (q4 * q5)]) ?_ rfl ?_
    · simp [results, Tryd.results113, go_sem, r0, r1, r2, rs0, hne, hne.symm]
    · exact ⟨⟨(1 + q2), gy, (q4 * q5)⟩, rfl, by first | exact hg5 | exact hx5, H9.out⟩
  by_cases e2 : q6 = 2
  · subst e2
    have H7 := Lib.hid ((H6.out.alloc (.cells #[.int .i64 (-1), .int .i64 50, .int .i64 51] 3)).front 1 rfl)
    clear H6
    go_wp2_with fail
    refine (pick_b 3 H7.out (by omega) (by omega)).mono ?_
    rintro e W7 ⟨y, rfl, hy0, hy1, H8'⟩
    replace hy1 := hy1 (by omega)
    have H8 := Lib.hid H8'
    clear H8' H7
    obtain ⟨l0, l1, l2, -, -, -, ls⟩ := blk3 (H8.out.get 1 rfl)
    obtain ⟨m0, m1, m2, f0, f1, f2, ms⟩ := blk3 (H8.out.get 2 rfl)
    obtain ⟨r0, r1, r2, g0, g1, g2, rs0⟩ := blk3 (H8.out.get 3 rfl)
    have hne : W5.heap.size ≠ w.heap.size := fun e => (List.pairwise_iff_getElem.1 H8.out.apart 2 3 (by simp) (by simp) (by omega)) W5.heap.size rfl e
    have hyc : y = 0 ∨ y = 1 ∨ y = 2 := by omega
    clear hy0 hy1
    rcases hyc with rfl | rfl | rfl
    · have H9 := Lib.hid ((((((H8.out.front 2 rfl).put 2 (.int .i64 (-1))).front 3 rfl).put3 (.int .i64 (1 + q2)) (tv gx) (.int .i64 (-1))).rm 2).rm 0 |>.more (show k + 1 + 1 + 1 + 1 + 1 + 1 + 1 ≤ k + 10 by omega))
      go_wp2
      refine bodyPost_ret (v := .agg #[.int .i64 (1 + q2), tv gx, .int .i64 (-1)]) ?_ rfl ?_
      · simp [results, Tryd.results113, go_sem, r0, r1, r2, rs0, hne, hne.symm]
      · exact ⟨⟨(1 + q2), gx, (-1)⟩, rfl, by first | exact hg5 | exact hx5, H9.out⟩
    · have H9 := Lib.hid ((((((H8.out.front 2 rfl).put 2 (.int .i64 50)).front 3 rfl).put3 (.int .i64 (1 + q2)) (tv gx) (.int .i64 50)).rm 2).rm 0 |>.more (show k + 1 + 1 + 1 + 1 + 1 + 1 + 1 ≤ k + 10 by omega))
      go_wp2
      refine bodyPost_ret (v := .agg #[.int .i64 (1 + q2), tv gx, .int .i64 50]) ?_ rfl ?_
      · simp [results, Tryd.results113, go_sem, r0, r1, r2, rs0, hne, hne.symm]
      · exact ⟨⟨(1 + q2), gx, 50⟩, rfl, by first | exact hg5 | exact hx5, H9.out⟩
    · have H9 := Lib.hid ((((((H8.out.front 2 rfl).put 2 (.int .i64 51)).front 3 rfl).put3 (.int .i64 (1 + q2)) (tv gx) (.int .i64 51)).rm 2).rm 0 |>.more (show k + 1 + 1 + 1 + 1 + 1 + 1 + 1 ≤ k + 10 by omega))
      go_wp2
      refine bodyPost_ret (v := .agg #[.int .i64 (1 + q2), tv gx, .int .i64 51]) ?_ rfl ?_
      · simp [results, Tryd.results113, go_sem, r0, r1, r2, rs0, hne, hne.symm]
      · exact ⟨⟨(1 + q2), gx, 51⟩, rfl, by first | exact hg5 | exact hx5, H9.out⟩
  · have b0 : (q6 == 0) = false := beq_eq_false_iff_ne.2 e0
    have b1 : (q6 == 1) = false := beq_eq_false_iff_ne.2 e1
    have b2 : (q6 == 2) = false := beq_eq_false_iff_ne.2 e2
    clear e0 e1 e2
    obtain ⟨m0, m1, m2, f0, f1, f2, ms⟩ := blk3 (H6.out.get 1 rfl)
    obtain ⟨r0, r1, r2, g0, g1, g2, rs0⟩ := blk3 (H6.out.get 2 rfl)
    have hne : W5.heap.size ≠ w.heap.size := fun e => (List.pairwise_iff_getElem.1 H6.out.apart 1 2 (by simp) (by simp) (by omega)) W5.heap.size rfl e
    have H9 := Lib.hid (((H6.out.front 2 rfl).put3 (.int .i64 (1 + q2)) (tv gx) (.int .i64 (q4 * q5))).rm 1 |>.more (show k + 1 + 1 + 1 + 1 + 1 + 1 ≤ k + 10 by omega))
    go_wp2
    refine bodyPost_ret (v := .agg #[.int .i64 (1 + q2), tv gx, .int .i64 (q4 * q5)]) ?_ rfl ?_
    · simp [results, Tryd.results113, go_sem, r0, r1, r2, rs0, hne, hne.symm]
    · exact ⟨⟨(1 + q2), gx, (q4 * q5)⟩, rfl, by first | exact hg5 | exact hx5, H9.out⟩
end
end Go.Proofs.YtklphfmjdgnpnaaDoor
