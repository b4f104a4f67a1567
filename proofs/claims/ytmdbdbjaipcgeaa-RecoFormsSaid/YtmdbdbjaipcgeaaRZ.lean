/- The abstract machine over this program: its code is good. -/
import Derived.Test.YtmdbdbjaipcgeaaRows
import Derived.Test.YtmdbdbjaipcgeaaGN
import Derived.Test.YtmdbdbjaipcgeaaAbArgs
import Derived.Test.YtmdbdbjaipcgeaaAbForms
import Derived.ProofKit
import Derived.OpenShut
import Derived.JoinedCond
import Derived.Deep.Matrix
namespace Go.G
open Go.Ab Go.Proofs Go.RowKit Go.ChangeShapes Go.WideShapes Go.ChangeAt
set_option linter.unusedVariables false
set_option maxRecDepth 100000

theorem own_knob : ownKnob Try.prog.godebug = none := by kernel_rfl
theorem laid_out : laidOutB Try.prog = true := by kernel_rfl
theorem all_ok : (Try.prog.funcs.toList.all fun fn => match fn.body with
  | some c => codeOk c
  | none => true) = true := by kernel_rfl
/-- Whatever answers are given at once, if they are right. -/
theorem call_okE (E : Ext) (hE : ∀ f g, E f = some g → CallOk1 Try.prog f g) (k : Nat) : CallOk Try.prog (acall Try.prog E k) :=
  acall_ok (by kernel_rfl) hE (fun f fn c hf _ hb => by
    have hm : fn ∈ Try.prog.funcs.toList := by
      rw [← Array.getElem?_toList] at hf
      exact List.mem_of_getElem? hf
    have := List.all_eq_true.1 all_ok fn hm
    rw [hb] at this; exact this) k

end Go.G
