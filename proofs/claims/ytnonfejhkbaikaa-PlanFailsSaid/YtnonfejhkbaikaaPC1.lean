/- Numbers as bytes, plainly (cut from C1). -/
import Derived.Test.YtnonfejhkbaikaaPGN
import Derived.Test.YtnonfejhkbaikaaPN0
import Derived.Test.YtnonfejhkbaikaaPKE
namespace Go.G
open Go.Ab Go.Proofs Go.RowKit
set_option linter.unusedVariables false
set_option linter.unusedSimpArgs false
set_option maxRecDepth 100000
def II (n : Int) : Nat := (min (max n 0) 1099511627776).toNat
end Go.G
