/- Contracts of the functions that check rights. No conditions but the readings of the arguments and the sizes of the texts. -/
import Derived.Test.YtdeempkiffdlnaaDoorRightB
import Derived.Deep.QuietTactic
import Derived.BigQuiet
namespace Go.Proofs.YtdeempkiffdlnaaDoor
open Go.ChangeShapes Go.WideShapes Go.RowKit
set_option linter.all false
attribute [local go_sem ↓] Go.wp_at_zero Go.wp_at_succ

theorem rights_bad {xs : List Txt} {k : Nat} {x : Txt} (hx : xs[k]? = some x) (h : rightOk x = false) : rightsOk xs = false := by
  cases hr : rightsOk xs
  · rfl
  · rw [rightsOk_all hr x (List.mem_of_getElem? hx)] at h; cases h
theorem rights_badlt {xs : List Txt} {k : Nat} {y x : Txt} (hy : xs[k]? = some y) (hx : xs[k + 1]? = some x) (h : ltT y x = false) : rightsOk xs = false := by
  cases hr : rightsOk xs
  · rfl
  · have h1 := rightsOk_asc hr
    rw [← ascB_pair] at h1
    have h2 := asc_take h1 (k + 2)
    rw [asc_take_succ hy hx, h, Bool.and_false] at h2
    cases h2
theorem rights_good {xs : List Txt} {k : Nat} (hk : xs.length ≤ k) (h1 : (xs.take k).all rightOk = true) (h2 : ascB (xs.take k) = true) : rightsOk xs = decide (xs.length ≤ 6) := by
  rw [List.take_of_length_le hk] at h1 h2
  simp [rightsOk, h1, h2]

theorem specRightValid_q (x : Txt) (r : Bool) (w : World) (hx : x.length ≤ 9223372036854775807) (hr : rightOk x = r) : Calls Tryd.prog 47 #[tv x] w fun e w' => e = .returned (.bool r) ∧ ∃ n, w' = w.drewN n :=
  (specRightValid_c x w hx).mono (by rintro e w' ⟨he, hw⟩; exact ⟨by rw [he, hr], 0, hw.symm⟩)

end Go.Proofs.YtdeempkiffdlnaaDoor
