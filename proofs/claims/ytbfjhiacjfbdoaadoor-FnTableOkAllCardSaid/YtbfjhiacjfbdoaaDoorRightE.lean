/- The contract of the function that drops rights one by one. No conditions but the readings of the arguments and the sizes of the texts. -/
import Derived.Test.YtbfjhiacjfbdoaaDoorRightD
import Derived.Test.YtbfjhiacjfbdoaaDoorRd
namespace Go.Proofs.YtbfjhiacjfbdoaaDoor
open Go.ChangeShapes Go.WideShapes Go.RowKit
set_option linter.all false
set_option maxRecDepth 100000
attribute [local go_sem ↓] Go.wp_at_zero Go.wp_at_succ

/-- An owned slice of texts. -/
abbrev rowT (u : Value) (xs : List Txt) : Res := Res.row encS 1 9 u xs
theorem keep_succ {xs : List Txt} {k : Nat} {x g : Txt} (hx : xs[k]? = some x) (h : covB g x = false) : (xs.take (k + 1)).filter (fun r => !covB g r) = (xs.take k).filter (fun r => !covB g r) ++ [x] := by
  rw [List.take_add_one, hx]; simp [List.filter_append, h]
theorem skip_succ {xs : List Txt} {k : Nat} {x g : Txt} (hx : xs[k]? = some x) (h : covB g x = true) : (xs.take (k + 1)).filter (fun r => !covB g r) = (xs.take k).filter (fun r => !covB g r) := by
  rw [List.take_add_one, hx]; simp [List.filter_append, h]

end Go.Proofs.YtbfjhiacjfbdoaaDoor
