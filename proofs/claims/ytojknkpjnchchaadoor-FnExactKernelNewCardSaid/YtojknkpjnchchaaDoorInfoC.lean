/- Contracts of the helpers on what is known of one frame. No conditions but the sizes of the texts. -/
import Derived.Test.YtojknkpjnchchaaDoorInfoA
import Derived.Test.YtojknkpjnchchaaDoorBun
namespace Go.Proofs.YtojknkpjnchchaaDoor
open Go.ChangeShapes Go.WideShapes Go.RowKit
set_option linter.all false
set_option maxRecDepth 100000
attribute [local go_sem ↓] Go.wp_at_zero Go.wp_at_succ

theorem eqInfo_c (m n : Info) (w : World) : Calls Tryd.prog 39 #[m.val, n.val] w fun e w' => e = .returned (.bool (decide (m = n))) ∧ Below w.heap.size w w' := by
  obtain ⟨a, b, c⟩ := m
  obtain ⟨a', b', c'⟩ := n
  unfold Info.val
  dsimp only
  simp only [Info.mk.injEq]
  by_cases h1 : a = a' <;> by_cases h2 : b = b' <;> by_cases h3 : c = c'
  all_goals
    have H1 := Lib.hid h1
    have H2 := Lib.hid h2
    have H3 := Lib.hid h3
    first
    | have g1 : (a == a') = true := beq_iff_eq.2 h1
    | have g1 : (a == a') = false := beq_eq_false_iff_ne.2 h1
    first
    | have g2 : (b == b') = true := beq_iff_eq.2 h2
    | have g2 : (b == b') = false := beq_eq_false_iff_ne.2 h2
    first
    | have g3 : (c == c') = true := beq_iff_eq.2 h3
    | have g3 : (c == c') = false := beq_eq_false_iff_ne.2 h3
    clear h1 h2 h3
    go_enter Tryd.func39, Tryd.ntmps39
    go_wp2
    go_ret
    exact ⟨ret_bool (by have h1 := H1.out; have h2 := H2.out; have h3 := H3.out; simp [h1, h2, h3]), by go_grown⟩

end Go.Proofs.YtojknkpjnchchaaDoor
