/- Contracts of the functions on words: slices of integers, and the library's loops over them. No conditions but the readings of the arguments. -/
import Derived.Test.YtojknkpjnchchaaDoorSmall
namespace Go.Proofs.YtojknkpjnchchaaDoor
open Go.ChangeShapes Go.WideShapes Go.RowKit
set_option linter.all false
set_option maxRecDepth 100000
attribute [local go_sem ↓] Go.wp_at_zero Go.wp_at_succ

/-- The words of a frame. -/
def wordsOk (xs : List Int) : Bool := decide (xs.length = 4) && !(xs.any fun x => !btw 0 x 9999)
theorem wordsOk_len {xs : List Int} (h : wordsOk xs = true) : xs.length = 4 := by simp [wordsOk] at h; exact h.1

end Go.Proofs.YtojknkpjnchchaaDoor
