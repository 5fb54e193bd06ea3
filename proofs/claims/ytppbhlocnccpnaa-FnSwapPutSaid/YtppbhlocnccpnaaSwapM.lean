/- Contracts of the draws of a swap with a place or with words. No conditions but the readings of the arguments. -/
import Derived.Test.YtppbhlocnccpnaaSwapL
namespace Go.Proofs.Ytppbhlocnccpnaa
open Go.ChangeShapes Go.WideShapes Go.ChangeAt Go.RowKit
set_option linter.all false
attribute [local go_sem ↓] Go.wp_at_zero Go.wp_at_succ

theorem lit3 {a b c : Int} {j : Nat} (h : j < 3) : ∃ y : Int, (#[Value.int .i64 a, .int .i64 b, .int .i64 c])[j]? = some (.int .i64 y) ∧ ∀ h, [Value.int .i64 a, .int .i64 b, .int .i64 c][j]'h = .int .i64 y := by
  match j, h with
  | 0, _ => exact ⟨a, rfl, fun _ => rfl⟩
  | 1, _ => exact ⟨b, rfl, fun _ => rfl⟩
  | 2, _ => exact ⟨c, rfl, fun _ => rfl⟩
theorem lit4 {a b c d : Int} {j : Nat} (h : j < 4) : ∃ y : Int, (#[Value.int .i64 a, .int .i64 b, .int .i64 c, .int .i64 d])[j]? = some (.int .i64 y) ∧ ∀ h, [Value.int .i64 a, .int .i64 b, .int .i64 c, .int .i64 d][j]'h = .int .i64 y := by
  match j, h with
  | 0, _ => exact ⟨a, rfl, fun _ => rfl⟩
  | 1, _ => exact ⟨b, rfl, fun _ => rfl⟩
  | 2, _ => exact ⟨c, rfl, fun _ => rfl⟩
  | 3, _ => exact ⟨d, rfl, fun _ => rfl⟩

set_option maxHeartbeats 4000000 in
theorem drawSwapGet_b (bs : List Int) (v : Value) (w : World) (h : RdB w v bs) (hbs : ∀ b ∈ bs, 0 ≤ b ∧ b ≤ 255) : Calls Try.prog 28 #[v] w fun e w' =>
    ∃ u ss xss slot, e = .returned (.tuple #[u, .int .i64 slot]) ∧ drawnS xss ∧ Bun w none w' [rowS u ss, rowsI ss xss] := by
  go_enter Try.func28, Try.ntmps28
  go_wp2_with fail
  refine (open_b bs v h hbs (Bun.refl w none) (by simp)).mono ?_
  rintro e w1 ⟨B, v', bs', rfl, H1⟩
  go_wp2_with fail
  refine (l91Swap_b H1 (by omega) (by omega)).mono ?_
  rintro e w2 ⟨u, ss, xss, rfl, hd, H2⟩
  go_wp2_with fail
  refine (pick_b 8 H2 (by omega) (by omega)).mono ?_
  rintro e W3 ⟨q, rfl, hq0, -, H3⟩
  have HH3 := Lib.hid H3
  have HD := Lib.hid hd
  clear H1 H2 H3 hd
  by_cases hq : q = 0
  · have hqb : (q == 0) = true := beq_iff_eq.2 hq
    clear hq
    go_wp2
    go_region_with (go_at_call 47; (first | (with_reducible refine (pick_b 3 HH3.out.drew (by omega) (by omega)).mono ?_) | (with_reducible refine (pick_b 3 (((HH3.out.alloc _).drew).front 1 rfl) (by omega) (by omega)).mono ?_)); rintro e W4 ⟨x, rfl, hx0, hx1, H4⟩; obtain ⟨j, rfl⟩ := Int.eq_ofNat_of_zero_le hx0; have hj : j < 3 := (by have := hx1 (by omega); omega); obtain ⟨y, hy, hy2⟩ := lit3 (a := -1) (b := 16) (c := 15) hj; have b0 : (0 : Int) ≤ (j : Int) := hx0; have b1 : (j : Int) < 3 := (by omega); (try (have c0 : W4.cell? ⟨W3.heap.size, j, none⟩ = some (.int .i64 y) := (by rw [cell_of_row W4 W3.heap.size j _ _ (0, 0) (H4.get 1 rfl)]; exact hy))); have H5 := Lib.hid H4; clear H4)
    all_goals
      go_wp2
      go_ret2
      first | exact ⟨_, ss, xss, _, rfl, HD.out, H5.out.drop.drop⟩ | exact ⟨_, ss, xss, _, rfl, HD.out, (H5.out.over _).drop⟩
  · have hqb : (q == 0) = false := beq_eq_false_iff_ne.2 hq
    clear hq
    go_wp2_with fail
    refine (pick_b 6 HH3.out (by omega) (by omega)).mono ?_
    rintro e W4 ⟨x, rfl, hx0, -, H4⟩
    go_wp2
    go_ret2
    exact ⟨_, ss, xss, _, rfl, HD.out, H4.drop⟩

set_option maxHeartbeats 8000000 in
theorem drawSwapPut_b (bs : List Int) (v : Value) (w : World) (h : RdB w v bs) (hbs : ∀ b ∈ bs, 0 ≤ b ∧ b ≤ 255) : Calls Try.prog 30 #[v] w fun e w' =>
    ∃ u ss xss u0 ys, e = .returned (.tuple #[u, u0]) ∧ drawnS xss ∧ ys.length ≤ 4 ∧ Bun w none w' [rowI u0 ys, rowS u ss, rowsI ss xss] := by
  go_enter Try.func30, Try.ntmps30
  go_wp2_with fail
  refine (open_b bs v h hbs (Bun.refl w none) (by simp)).mono ?_
  rintro e w1 ⟨B, v', bs', rfl, H1⟩
  go_wp2_with fail
  refine (l91Swap_b H1 (by omega) (by omega)).mono ?_
  rintro e w2 ⟨u, ss, xss, rfl, hd, H2⟩
  go_wp2_with fail
  refine (pick_b 16 H2 (by omega) (by omega)).mono ?_
  rintro e W3 ⟨q, rfl, hq0, -, H3⟩
  have HH3 := Lib.hid H3
  have HD := Lib.hid hd
  clear H1 H2 H3 hd
  by_cases hq : q = 0
  · have hqb : (q == 0) = true := beq_iff_eq.2 hq
    clear hq
    have H4 := Lib.hid (HH3.out.lits eltInt #[.int .i64 1, .int .i64 2, .int .i64 3] [1, 2, 3] 3 rfl rfl (by omega))
    go_wp2
    go_ret2
    exact ⟨_, ss, xss, _, _, rfl, HD.out, (by decide : [(1 : Int), 2, 3].length ≤ 4), H4.out.rm 1⟩
  · have hqb : (q == 0) = false := beq_eq_false_iff_ne.2 hq
    clear hq
    have HA := HH3.out
    go_wp2
    go_region_with (first
      | (go_at_call 47; (first | (with_reducible refine (pick_b 9 HA.drew (by omega) (by omega)).mono ?_) | (with_reducible refine (pick_b 9 (((HA.alloc _).drew).front 1 rfl) (by omega) (by omega)).mono ?_)); rintro e W4 ⟨x1, rfl, hx10, -, HB⟩)
      | (go_at_call 47; (first | (with_reducible refine (pick_b 2 HB (by omega) (by omega)).mono ?_) | (with_reducible refine (pick_b 2 ((HB.alloc _).front 1 rfl) (by omega) (by omega)).mono ?_)); rintro e W5 ⟨x2, rfl, hx20, hx21, HC⟩; replace hx21 := hx21 (by omega))
      | (go_at_call 47; (first | (with_reducible refine (pick_b 4 HC (by omega) (by omega)).mono ?_) | (with_reducible refine (pick_b 4 ((HC.alloc _).front 1 rfl) (by omega) (by omega)).mono ?_)); rintro e W6 ⟨x3, rfl, hx30, hx31, HE⟩; replace hx31 := hx31 (by omega); obtain ⟨j, hj, hj4⟩ : ∃ j : Nat, x2 * x3 = (j : Int) ∧ j < 4 := (by rcases (show x2 = 0 ∨ x2 = 1 by omega) with rfl | rfl; exact ⟨0, by simp, by omega⟩; exact ⟨x3.toNat, by omega, by omega⟩); have hw : IntKind.i64.wrap (x2 * x3) = (j : Int) := (by rw [hj]; exact Go.IntWalk.i64_in _ (by omega)); have hw2 : wrap64 (x2 * x3) = (j : Int) := (by rw [hj]; exact Go.IntWalk.wrap64_in _ (by omega)); obtain ⟨y, hy, hy2⟩ := lit4 (a := 3) (b := 9999) (c := 10000) (d := -1) hj4; have b0 : (0 : Int) ≤ (j : Int) := (by omega); have b1 : (j : Int) < 4 := (by omega); have HF := Lib.hid HE; (try (have c0 := cell_of_row _ _ j _ _ (0, 0) (HE.get 1 rfl); rw [hy] at c0)); clear HE hj))
    all_goals
      go_wp2
      go_ret2
      first | exact ⟨_, ss, xss, _, [x1, 1, 2, y], rfl, HD.out, by simp, ((HF.out.lits eltInt #[.int .i64 x1, .int .i64 1, .int .i64 2, .int .i64 y] [x1, 1, 2, y] 4 rfl rfl (by omega)).rm 2).rm 1⟩ | exact ⟨_, ss, xss, _, [x1, 1, 2, y], rfl, HD.out, by simp, by have h9 := ((HF.out.over (.cells #[.int .i64 3, .int .i64 9999, .int .i64 10000, .int .i64 (-1)] 3)).lits eltInt #[.int .i64 x1, .int .i64 1, .int .i64 2, .int .i64 y] [x1, 1, 2, y] 4 rfl rfl (by omega)).rm 1; rw [show (W6.alloc (.cells #[.int .i64 3, .int .i64 9999, .int .i64 10000, .int .i64 (-1)] 3)).heap.size = W6.heap.size + 1 by simp] at h9; exact h9⟩
end Go.Proofs.Ytppbhlocnccpnaa
