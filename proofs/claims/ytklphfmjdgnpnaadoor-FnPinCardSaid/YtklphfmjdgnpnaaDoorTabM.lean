/- Contracts of the draws of words and memories. No conditions but the readings of the arguments. -/
import Derived.Test.YtklphfmjdgnpnaaDoorTabE
import Derived.Test.YtklphfmjdgnpnaaDoorBun
import Derived.Test.YtklphfmjdgnpnaaDoorRd
namespace Go.Proofs.YtklphfmjdgnpnaaDoor
open Go.ChangeShapes Go.WideShapes Go.RowKit
set_option linter.all false
set_option maxRecDepth 100000
attribute [local go_sem ↓] Go.wp_at_zero Go.wp_at_succ

section
variable {w0 w w' : World} {row : Option Nat} {rs : List Res} {B : Nat} {v : Value} {bs : List Int} {k : Int}

set_option maxHeartbeats 2000000 in
theorem l2New_b (H : Bun w0 row w rs) : Calls Tryd.prog 111 #[] w fun e w' =>
    ∃ u ss, e = .returned u ∧ Bun w0 row w' (rowS u ss :: rowsI ss (List.replicate 12 [0, 0, 0, 0]) :: rs) := by
  have HH := Lib.hid H
  clear H
  go_enter Tryd.func111, Tryd.ntmps111
  go_wp2
  go_loopw [1, 2] (fun u i wr => ∃ (j : Nat) (ss : List Sl), j ≤ 12 ∧ i = .int .i64 j ∧ Bun w0 row wr (rowS u ss :: rowsI ss (List.replicate j [0, 0, 0, 0]) :: rs)) (fun _ i _ => 12 - (intOf i).toNat)
  case atStart => exact ⟨0, [], Nat.zero_le _, rfl, (HH.out.norows).lit eltSl #[] [] rfl (by simp)⟩
  case round =>
    obtain ⟨j, ss, hj, rfl, hb⟩ := hrel
    have HB := Lib.hid hb
    clear hb
    by_cases hlt : j < 12
    · have HL := Lib.hid ((show InO encI 1 3 0 wr.heap.size wr ss (List.replicate j [0, 0, 0, 0]) from HB.out.get 1 rfl).len.trans (by simp : _ = j))
      go_wp2_with (first | (refine make_T eltInt rfl _ _ rfl 4 rfl rfl (by omega) ?_; intro w1 ho hb1; have H2 := Lib.hid ((HB.out.addT ho hb1).lits eltSl #[.slice (some ⟨wr.heap.size, 0, none⟩) 4 4] [(some ⟨wr.heap.size, 0, none⟩, 4, 4)] 1 rfl rfl (by omega)); clear ho hb1) | (at_builtin; refine append_b eltSl rfl _ _ rfl _ _ [(some ⟨wr.heap.size, 0, none⟩, 4, 4)] rfl rfl (H2.out.front 2 rfl) (H2.out.rd 0 rfl encL_len) (by have := HL.out; simp only [List.length_cons, List.length_nil]; omega) ?_; intro v3 w3 h3 hnil3; have H3 := Lib.hid h3; clear h3 hnil3))
      have H4 := Lib.hid ((((((H3.out.rm 1).front 1 rfl).front 2 rfl).front 1 rfl).snoc (s := (some ⟨wr.heap.size, 0, none⟩, 4, 4))).front 1 rfl)
      rw [show List.replicate j [(0 : Int), 0, 0, 0] ++ [List.replicate 4 0] = List.replicate (j + 1) [0, 0, 0, 0] from (List.replicate_succ' (n := j) (a := [(0 : Int), 0, 0, 0])).symm] at H4
      clear H3 H2
      go_roundw
      case rel => exact ⟨j + 1, _, by omega, by go_num, H4.out⟩
      case measure => simp [intOf]; omega
    · obtain rfl : j = 12 := by omega
      go_wp2
      go_ret
      exact ⟨_, _, rfl, HB.out⟩

theorem l1Put_c (f : Int) (b : Bool) (w : World) (hf : 0 ≤ f ∧ f ≤ 11) : Calls Tryd.prog 91 #[.int .i64 f, .bool b] w fun e w' => (∃ x : Int, e = .returned (.int .i64 x)) ∧ w = w' := by
  obtain ⟨h0, h1⟩ := hf
  cases b
  all_goals
    go_enter Tryd.func91, Tryd.ntmps91
    go_wp2
    go_ret
    exact ⟨⟨_, rfl⟩, rfl⟩

set_option maxHeartbeats 2000000 in
theorem l91Entry_b (H : Bun w0 row w (Res.rdr B v bs k :: rs)) (hk : k ≤ 100000) : Calls Tryd.prog 112 #[.pointer (some ⟨B, 0, none⟩)] w fun e w' =>
    ∃ x : Int, e = .returned (.int .i64 x) ∧ -1 ≤ x ∧ x ≤ 9999 ∧ Bun w0 row w' (Res.rdr B v bs (k + 3) :: rs) := by
  have HH := Lib.hid H
  clear H
  go_enter Tryd.func112, Tryd.ntmps112
  go_wp2_with fail
  refine (pick_b 8 HH.out (by omega) (by omega)).mono ?_
  rintro e W1 ⟨q, rfl, hq0, -, H1⟩
  have HH1 := Lib.hid H1
  clear H1 HH
  by_cases h0 : q = 0
  · subst h0
    go_wp2
    go_ret
    exact ⟨_, rfl, by omega, by omega, HH1.out.more (by omega)⟩
  by_cases h1 : q = 1
  · subst h1
    go_wp2
    go_ret
    exact ⟨_, rfl, by omega, by omega, HH1.out.more (by omega)⟩
  by_cases h2 : q = 2
  · subst h2
    have H2 := Lib.hid ((HH1.out.lits eltInt #[.int .i64 (-1), .int .i64 2, .int .i64 47, .int .i64 48, .int .i64 49, .int .i64 9999, .int .i64 4] [-1, 2, 47, 48, 49, 9999, 4] 7 rfl rfl (by omega)).front 1 rfl)
    go_wp2_with fail
    refine (pick_b 7 H2.out (by omega) (by omega)).mono ?_
    rintro e W3 ⟨x, rfl, hx0, hx1, H3⟩
    replace hx1 := hx1 (by omega)
    obtain ⟨j, rfl⟩ := Int.eq_ofNat_of_zero_le hx0
    obtain ⟨y, hy⟩ : ∃ y, [(-1 : Int), 2, 47, 48, 49, 9999, 4][j]? = some y := ⟨_, List.getElem?_eq_getElem (by simp only [List.length_cons, List.length_nil]; omega)⟩
    have hyr : -1 ≤ y ∧ y ≤ 9999 := by
      have := List.mem_of_getElem? hy
      simp only [List.mem_cons, List.not_mem_nil, or_false] at this
      omega
    obtain ⟨g, c, e1, -, -, -, -, -, hcs⟩ := H3.at 1 rfl encI_len hy
    simp only [Value.slice.injEq, Option.some.injEq, Addr.mk.injEq, and_true] at e1
    obtain ⟨rfl, -, rfl⟩ := e1
    have d0 := hcs 0 _ rfl
    simp only [Nat.mul_one, Nat.add_zero] at d0
    have H4 := Lib.hid (H3.rm 1)
    clear hcs hy H3
    go_wp2
    go_ret
    exact ⟨y, rfl, hyr.1, hyr.2, H4.out.more (by omega)⟩
  · have hb0 : (q == 0) = false := beq_eq_false_iff_ne.2 h0
    have hb1 : (q == 1) = false := beq_eq_false_iff_ne.2 h1
    have hb2 : (q == 2) = false := beq_eq_false_iff_ne.2 h2
    clear h0 h1 h2
    go_wp2_with fail
    refine (pick_b 12 HH1.out (by omega) (by omega)).mono ?_
    rintro e W3 ⟨x, rfl, hx0, hx1, H3⟩
    replace hx1 := hx1 (by omega)
    go_wp2_with fail
    refine (pick_b 2 H3 (by omega) (by omega)).mono ?_
    rintro e W4 ⟨y, rfl, hy0, hy1, H4⟩
    replace hy1 := hy1 (by omega)
    go_wp2
    go_ret
    exact ⟨_, rfl, by omega, by omega, H4.more (by omega)⟩
end
end Go.Proofs.YtklphfmjdgnpnaaDoor
