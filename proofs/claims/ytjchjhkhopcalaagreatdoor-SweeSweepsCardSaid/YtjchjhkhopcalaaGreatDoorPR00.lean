/- The abstract machine over this program. -/
import Derived.Test.YtjchjhkhopcalaaGreatDoorPAW
import Derived.Test.YtjchjhkhopcalaaGreatDoorPKE
namespace Go.G
open Go.Ab Go.Proofs Go.RowKit Go.ChangeShapes Go.WideShapes Go.ChangeAt
set_option linter.unusedVariables false
set_option maxRecDepth 100000
theorem rB {f : FuncId} {args cargs : Array Value} {M : Store} {μ : Map} {w : World} (h : R f args M fun v _ => v = .bool true) (hL : Lay Tryz.prog w μ M) (ha : LRel (VRel Tryz.prog μ w.shape?) cargs.toList args.toList) (hf : Ex f = none := by rfl) :
    Calls Tryz.prog f cargs w fun e w' => e = .returned (.bool true) ∧ Below w.heap.size w w' := by
 obtain ⟨k, v, M', h1, rfl⟩ := h
 exact pN (nJ Ex uy k hf) h1 hL.glob hL.rel hL.ro ha
end Go.G
