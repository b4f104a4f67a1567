/- The abstract machine over this program. -/
import Derived.Test.YtnonfejhkbaikaaPAW
import Derived.Test.YtnonfejhkbaikaaPKE
namespace Go.G
open Go.Ab Go.Proofs Go.RowKit Go.ChangeShapes Go.WideShapes Go.ChangeAt
set_option linter.unusedVariables false
set_option maxRecDepth 100000
theorem F8 {f : FuncId} {args cargs : Array Value} {M : Store} {μ : Map} {w : World} (h : R f args M fun v _ => v = .bool true) (hL : Lay Try.prog w μ M) (ha : LRel (VRel Try.prog μ w.shape?) cargs.toList args.toList) (hf : Ex f = none := by rfl) :
    Calls Try.prog f cargs w fun e w' => e = .returned (.bool true) ∧ Below w.heap.size w w' := by
 obtain ⟨k, v, M', h1, rfl⟩ := h
 exact Dt (Ax Ex Jd k hf) h1 hL.glob hL.rel hL.ro ha
end Go.G
