/- From a call that answers true to a row: all that the rows of this seat share. -/
import Derived.Test.YtjchjhkhopcalaaGreatDoorRows
import Derived.Test.YtjchjhkhopcalaaGreatDoorPR00
import Derived.Test.YtjchjhkhopcalaaGreatDoorPKE
import Derived.Test.YtjchjhkhopcalaaGreatDoorPKC
import Derived.ProofKit
import Derived.OpenShut
import Derived.JoinedCond
import Derived.Deep.Matrix
namespace Go.G
open Go.Ab Go.Proofs Go.RowKit Go.Deep Go.ChangeShapes Go.WideShapes Go.ChangeAt
set_option linter.unusedVariables false
set_option maxRecDepth 100000
theorem kw : Tryz.prog.cellsOf Ty.k = 1 := by kernel_rfl
end Go.G
