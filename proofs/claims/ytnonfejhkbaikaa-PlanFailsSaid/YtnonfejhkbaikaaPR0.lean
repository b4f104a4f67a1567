/- From a call that answers true to a row: all that the rows of this seat share. -/
import Derived.Test.YtnonfejhkbaikaaRows
import Derived.Test.YtnonfejhkbaikaaPR00
import Derived.Test.YtnonfejhkbaikaaPKE
import Derived.Test.YtnonfejhkbaikaaPKC
import Derived.ProofKit
import Derived.OpenShut
import Derived.JoinedCond
import Derived.Deep.Matrix
namespace Go.G
open Go.Ab Go.Proofs Go.RowKit Go.Deep Go.ChangeShapes Go.WideShapes Go.ChangeAt
set_option linter.unusedVariables false
set_option maxRecDepth 100000
theorem bQ : Try.prog.cellsOf Ty.t = 1 := by kernel_rfl
end Go.G
