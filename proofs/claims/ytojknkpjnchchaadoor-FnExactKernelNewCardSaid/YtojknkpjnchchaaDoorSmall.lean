/- Small functions and plain facts that many contracts use. No conditions. -/
import Derived.Test.YtojknkpjnchchaaDoorInts
import Derived.Test.YtojknkpjnchchaaDoorLibD
import Derived.Test.YtojknkpjnchchaaDoorGen
namespace Go.Proofs.YtojknkpjnchchaaDoor
open Go.ChangeShapes Go.WideShapes Go.RowKit
set_option linter.all false
set_option maxRecDepth 100000
attribute [local go_sem ↓] Go.wp_at_zero Go.wp_at_succ

end Go.Proofs.YtojknkpjnchchaaDoor
