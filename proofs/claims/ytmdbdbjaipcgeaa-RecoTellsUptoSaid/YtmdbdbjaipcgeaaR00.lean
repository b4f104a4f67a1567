/- The abstract machine over this program. -/
import Derived.Test.YtmdbdbjaipcgeaaRows
import Derived.Test.YtmdbdbjaipcgeaaGN
import Derived.Test.YtmdbdbjaipcgeaaAbArgs
import Derived.Test.YtmdbdbjaipcgeaaAbClose
import Derived.ProofKit
import Derived.OpenShut
import Derived.JoinedCond
import Derived.Deep.Matrix
namespace Go.G
open Go.Ab Go.Proofs Go.RowKit Go.ChangeShapes Go.WideShapes Go.ChangeAt
set_option linter.unusedVariables false
set_option maxRecDepth 100000

theorem own_knob : ownKnob Try.prog.godebug = none := by kernel_rfl
theorem laid_out : laidOutB Try.prog = true := by kernel_rfl
theorem all_ok : (Try.prog.funcs.toList.all fun fn => match fn.body with
  | some c => codeOk c
  | none => true) = true := by kernel_rfl
theorem call_ok (k : Nat) : CallOk Try.prog (acall Try.prog Ex k) :=
  acall_ok (by kernel_rfl) (fun f g h => by cases h) (fun f fn c hf _ hb => by
    have hm : fn ∈ Try.prog.funcs.toList := by
      rw [← Array.getElem?_toList] at hf
      exact List.mem_of_getElem? hf
    have := List.all_eq_true.1 all_ok fn hm
    rw [hb] at this; exact this) k

/-- The call, in the model. -/
theorem calls_of {f : FuncId} {args cargs : Array Value} {M : Store} {μ : Map} {w : World} (h : R f args M fun v _ => v = .bool true) (hL : Lay Try.prog w μ M) (ha : LRel (VRel Try.prog μ w.shape?) cargs.toList args.toList) :
    Calls Try.prog f cargs w fun e w' => e = .returned (.bool true) ∧ Below w.heap.size w w' := by
  obtain ⟨k, v, M', h1, rfl⟩ := h
  exact calls_true (call_ok k) h1 hL.rel hL.ro ha


end Go.G
