/- Contracts of the functions that draw two rights. No conditions but the readings of the arguments. -/
import Derived.Test.YtojknkpjnchchaaGreatDoorGRight
import Derived.Test.YtojknkpjnchchaaGreatDoorRd
namespace Go.Proofs.YtojknkpjnchchaaGreatDoor
open Go.ChangeShapes Go.WideShapes Go.RowKit
set_option linter.all false
set_option maxRecDepth 100000
attribute [local go_sem ↓] Go.wp_at_zero Go.wp_at_succ

section
variable {w0 w : World} {row : Option Nat} {rs : List Res} {B : Nat} {v : Value} {bs : List Int} {k : Int}

theorem of_b (xs : List Txt) (u : Value) (H : Bun w0 row w (Res.rdr B v bs k :: Res.row encS 1 9 u xs :: rs)) (hk : k ≤ 10000) (hn : 1 ≤ xs.length ∧ xs.length ≤ 1000) : Calls Tryz.prog 152 #[.pointer (some ⟨B, 0, none⟩), u] w fun e w' =>
    ∃ x, e = .returned (tv x) ∧ x ∈ xs ∧ Bun w0 row w' (Res.rdr B v bs (k + 1) :: Res.row encS 1 9 u xs :: rs) := by
  have HH := Lib.hid H
  have hr := H.rd 1 rfl encS_len
  obtain ⟨a, c, rfl, h1, h2, -, -⟩ := hr
  unfold maxLen at h2
  clear H
  go_enter Tryz.func152, Tryz.ntmps152
  go_wp2_with fail
  refine (pick_b (xs.length : Int) HH.out (by omega) (by omega)).mono ?_
  rintro e W1 ⟨q, rfl, hq0, hq1, H1'⟩
  replace hq1 := hq1 (by omega)
  obtain ⟨n, rfl⟩ := Int.eq_ofNat_of_zero_le hq0
  obtain ⟨x, hx⟩ : ∃ x, xs[n]? = some x := ⟨_, List.getElem?_eq_getElem (by omega)⟩
  obtain ⟨g, cc, e1, t1, t2, t3, t4, t5, t6⟩ := H1'.at 1 rfl encS_len hx
  have d0 := t6 0 _ rfl
  simp only [Value.slice.injEq] at e1
  obtain ⟨rfl, -, rfl⟩ := e1
  have H1 := Lib.hid H1'
  have HX := Lib.hid hx
  simp only [Nat.mul_one, Nat.add_zero, Nat.zero_add] at d0
  clear hx H1' t5 t6
  go_wp2
  go_ret
  exact ⟨x, rfl, List.mem_of_getElem? HX.out, H1.out⟩

/-- The texts of two literals, as short ones. -/
theorem l91Right_b (H : Bun w0 row w (Res.rdr B v bs k :: rs)) (hk : k ≤ 9000) : Calls Tryz.prog 125 #[.pointer (some ⟨B, 0, none⟩)] w fun e w' =>
    ∃ x, e = .returned (tv x) ∧ x.length ≤ 5 ∧ Bun w0 row w' (Res.rdr B v bs (k + 2) :: rs) := by
  have HH := Lib.hid H
  clear H
  go_enter Tryz.func125, Tryz.ntmps125
  go_wp2_with fail
  refine (pick_b 16 HH.out (by omega) (by omega)).mono ?_
  rintro e W1 ⟨q, rfl, hq0, -, H1'⟩
  have H1 := Lib.hid H1'
  clear H1' HH
  by_cases hq : q = 0
  · have hqb : (q == 0) = true := beq_iff_eq.2 hq
    clear hq
    have H2 := Lib.hid ((H1.out.lits eltStr #[tv [100], tv [65], tv [97, 98, 99, 97, 98], tv [97, 32, 98]] [[100], [65], [97, 98, 99, 97, 98], [97, 32, 98]] 4 rfl rfl (by omega)).front 1 rfl)
    go_wp2_with fail
    refine (of_b [[100], [65], [97, 98, 99, 97, 98], [97, 32, 98]] _ H2.out (by omega) (by simp)).mono ?_
    rintro e W3 ⟨x, rfl, hx, H3⟩
    have hx5 : x.length ≤ 5 := by revert hx; revert x; decide
    have H4 := Lib.hid H3
    clear H3
    go_wp2
    go_ret
    exact ⟨x, rfl, hx5, ((H4.out.front 1 rfl).drop).more (by omega)⟩
  · have hqb : (q == 0) = false := beq_eq_false_iff_ne.2 hq
    clear hq
    have H2 := Lib.hid ((H1.out.lits eltStr #[tv [], tv [97], tv [98], tv [99], tv [97, 98], tv [97, 97], tv [97, 98, 99], tv [98, 97], tv [98], tv [97], tv [97, 98, 99, 97], tv [97, 99]] [[], [97], [98], [99], [97, 98], [97, 97], [97, 98, 99], [98, 97], [98], [97], [97, 98, 99, 97], [97, 99]] 12 rfl rfl (by omega)).front 1 rfl)
    go_wp2_with fail
    refine (of_b [[], [97], [98], [99], [97, 98], [97, 97], [97, 98, 99], [98, 97], [98], [97], [97, 98, 99, 97], [97, 99]] _ H2.out (by omega) (by simp)).mono ?_
    rintro e W3 ⟨x, rfl, hx, H3⟩
    have hx5 : x.length ≤ 5 := by revert hx; revert x; decide
    have H4 := Lib.hid H3
    clear H3
    go_wp2
    go_ret
    exact ⟨x, rfl, hx5, ((H4.out.front 1 rfl).drop).more (by omega)⟩
end

end Go.Proofs.YtojknkpjnchchaaGreatDoor
