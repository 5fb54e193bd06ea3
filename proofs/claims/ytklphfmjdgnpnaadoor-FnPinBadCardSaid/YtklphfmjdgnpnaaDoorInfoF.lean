/- Contracts of the functions that look for free frames. No conditions but the readings of the arguments and the sizes of the texts. -/
import Derived.Test.YtklphfmjdgnpnaaDoorInfoE
namespace Go.Proofs.YtklphfmjdgnpnaaDoor
open Go.ChangeShapes Go.WideShapes Go.RowKit
set_option linter.all false
set_option maxRecDepth 100000
attribute [local go_sem ↓] Go.wp_at_zero Go.wp_at_succ

theorem isFree0_eq (m : Info) : isFree0 m = (m.kd == 0) := by unfold isFree0; by_cases h : m.kd = 0 <;> simp [h]

theorem count_succ {xs : List Info} {k : Nat} {m : Info} (hm : xs[k]? = some m) : (countF (xs.take (k + 1)) : Int) = countF (xs.take k) + if isFree0 m then 1 else 0 := by
  unfold countF
  rw [List.take_add_one, hm]
  by_cases h : isFree0 m = true <;> simp [List.filter_append, h]
theorem count_take_le (xs : List Info) (k : Nat) : (countF (xs.take k) : Int) ≤ k := by
  have h : countF (xs.take k) ≤ (xs.take k).length := count_le _
  simp at h
  omega

end Go.Proofs.YtklphfmjdgnpnaaDoor
