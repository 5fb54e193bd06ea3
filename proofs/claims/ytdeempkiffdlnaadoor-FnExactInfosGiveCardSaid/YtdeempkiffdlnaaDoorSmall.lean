/- Small functions and plain facts that many contracts use. No conditions. -/
import Derived.Test.YtdeempkiffdlnaaDoorInts
import Derived.Test.YtdeempkiffdlnaaDoorLibD
import Derived.Test.YtdeempkiffdlnaaDoorGen
namespace Go.Proofs.YtdeempkiffdlnaaDoor
open Go.ChangeShapes Go.WideShapes Go.RowKit
set_option linter.all false
attribute [local go_sem ↓] Go.wp_at_zero Go.wp_at_succ

theorem within_c (n a b : Int) (w : World) : Calls Tryd.prog 55 #[.int .i64 n, .int .i64 a, .int .i64 b] w fun e w' => e = .returned (.bool (btw a n b)) ∧ w = w' := by
  go_enter Tryd.func55, Tryd.ntmps55
  go_wp2
  all_goals go_ret
  all_goals exact ⟨ret_bool (by simp [btw]; try omega), rfl⟩

theorem l6In_c (n a b : Int) (w : World) : Calls Tryd.prog 56 #[.int .i64 n, .int .i64 a, .int .i64 b] w fun e w' => e = .returned (.bool (btw a n b)) ∧ w = w' := by
  go_enter Tryd.func56, Tryd.ntmps56
  go_wp2
  all_goals go_ret
  all_goals exact ⟨ret_bool (by simp [btw]; try omega), rfl⟩

end Go.Proofs.YtdeempkiffdlnaaDoor
