/- What the listed variables hold as a call begins. -/
import Derived.Test.YtjchjhkhopcalaaGreatDoorPRZ
import Derived.Test.YtjchjhkhopcalaaGreatDoorPKE
namespace Go.G
open Go.Ab Go.Proofs Go.RowKit Go.ChangeShapes Go.WideShapes Go.ChangeAt
set_option linter.unusedVariables false
set_option maxRecDepth 100000
theorem iB : gR Tryz.prog = true := by kernel_rfl
theorem there {w : World} (hS : w.ShapedOpen Tryz.prog) : Gsh w := fA iB hS
end Go.G
