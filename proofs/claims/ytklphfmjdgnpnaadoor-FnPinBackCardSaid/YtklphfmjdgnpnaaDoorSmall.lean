/- Small functions and plain facts that many contracts use. No conditions. -/
import Derived.Test.YtklphfmjdgnpnaaDoorInts
import Derived.Test.YtklphfmjdgnpnaaDoorLibD
import Derived.Test.YtklphfmjdgnpnaaDoorGen
namespace Go.Proofs.YtklphfmjdgnpnaaDoor
open Go.ChangeShapes Go.WideShapes Go.RowKit
set_option linter.all false
set_option maxRecDepth 100000
attribute [local go_sem ↓] Go.wp_at_zero Go.wp_at_succ

theorem within_c (n a b : Int) (w : World) : Calls Tryd.prog 98 #[.int .i64 n, .int .i64 a, .int .i64 b] w fun e w' => e = .returned (.bool (btw a n b)) ∧ w = w' := by
  go_enter Tryd.func98, Tryd.ntmps98
  go_wp2
  all_goals go_ret
  all_goals exact ⟨ret_bool (by simp [btw]; try omega), rfl⟩

theorem l6In_c (n a b : Int) (w : World) : Calls Tryd.prog 97 #[.int .i64 n, .int .i64 a, .int .i64 b] w fun e w' => e = .returned (.bool (btw a n b)) ∧ w = w' := by
  go_enter Tryd.func97, Tryd.ntmps97
  go_wp2
  all_goals go_ret
  all_goals exact ⟨ret_bool (by simp [btw]; try omega), rfl⟩

end Go.Proofs.YtklphfmjdgnpnaaDoor
