/- The contract of the function that adds a right. No conditions but the readings of the arguments and the sizes of the texts. -/
import Derived.Test.YtbfjhiacjfbdoaaDoorRightE
namespace Go.Proofs.YtbfjhiacjfbdoaaDoor
open Go.ChangeShapes Go.WideShapes Go.RowKit
set_option linter.all false
set_option maxRecDepth 100000
attribute [local go_sem ↓] Go.wp_at_zero Go.wp_at_succ

theorem not_has {xs : List Txt} {s : Txt} (h : rightsOk xs = true) (hn : xs[place xs s]? ≠ some s) : hasB xs s = false := by
  simp only [hasB, decide_eq_false_iff_not]
  intro hm; exact hn ((place_mem (rightsOk_asc h)).1 hm)
theorem is_has {xs : List Txt} {s : Txt} (h : rightsOk xs = true) (hn : xs[place xs s]? = some s) : hasB xs s = true := by
  simp only [hasB, decide_eq_true_eq]
  exact (place_mem (rightsOk_asc h)).2 hn
theorem place_stop {xs : List Txt} {s y : Txt} {k : Nat} (hk : k ≤ place xs s) (hy : xs[k]? = some y) (hl : ltT y s = false) : k = place xs s := by
  rcases Nat.lt_or_ge k (place xs s) with h | h
  · rw [place_lt h hy] at hl; cases hl
  · omega
theorem place_step {xs : List Txt} {s y : Txt} {k : Nat} (hr : rightsOk xs = true) (hy : xs[k]? = some y) (hl : ltT y s = true) (hk : k ≤ place xs s) : k + 1 ≤ place xs s := by
  rcases Nat.lt_or_ge k (place xs s) with h | h
  · omega
  · rw [place_ge (rightsOk_asc hr) h hy] at hl; cases hl
end Go.Proofs.YtbfjhiacjfbdoaaDoor
