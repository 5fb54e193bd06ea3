/- The contract of the function that drops rights one by one. No conditions but the readings of the arguments and the sizes of the texts. -/
import Derived.Test.YtojknkpjnchchaaGreatDoorRightD
import Derived.Test.YtojknkpjnchchaaGreatDoorRd
namespace Go.Proofs.YtojknkpjnchchaaGreatDoor
open Go.ChangeShapes Go.WideShapes Go.RowKit
set_option linter.all false
set_option maxRecDepth 100000
attribute [local go_sem ↓] Go.wp_at_zero Go.wp_at_succ

/-- An owned slice of texts. -/
abbrev rowT (u : Value) (xs : List Txt) : Res := Res.row encS 1 9 u xs
theorem keep_succ {xs : List Txt} {k : Nat} {x g : Txt} (hx : xs[k]? = some x) (h : covB g x = false) : (xs.take (k + 1)).filter (fun r => !covB g r) = (xs.take k).filter (fun r => !covB g r) ++ [x] := by
  rw [List.take_add_one, hx]; simp [List.filter_append, h]
theorem skip_succ {xs : List Txt} {k : Nat} {x g : Txt} (hx : xs[k]? = some x) (h : covB g x = true) : (xs.take (k + 1)).filter (fun r => !covB g r) = (xs.take k).filter (fun r => !covB g r) := by
  rw [List.take_add_one, hx]; simp [List.filter_append, h]

theorem not_has {xs : List Txt} {s : Txt} (h : rightsOk xs = true) (hn : xs[place xs s]? ≠ some s) : hasB xs s = false := by
  simp only [hasB, decide_eq_false_iff_not]
  intro hm; exact hn ((place_mem (rightsOk_asc h)).1 hm)
theorem is_has {xs : List Txt} {s : Txt} (h : rightsOk xs = true) (hn : xs[place xs s]? = some s) : hasB xs s = true := by
  simp only [hasB, decide_eq_true_eq]
  exact (place_mem (rightsOk_asc h)).2 hn
theorem place_stop {xs : List Txt} {s y : Txt} {k : Nat} (hk : k ≤ place xs s) (hy : xs[k]? = some y) (hl : ltT y s = false) : k = place xs s := by
  rcases Nat.lt_or_ge k (place xs s) with h | h
  · rw [place_lt h hy] at hl; cases hl
  · omega
theorem place_step {xs : List Txt} {s y : Txt} {k : Nat} (hr : rightsOk xs = true) (hy : xs[k]? = some y) (hl : ltT y s = true) (hk : k ≤ place xs s) : k + 1 ≤ place xs s := by
  rcases Nat.lt_or_ge k (place xs s) with h | h
  · omega
  · rw [place_ge (rightsOk_asc hr) h hy] at hl; cases hl
end Go.Proofs.YtojknkpjnchchaaGreatDoor
