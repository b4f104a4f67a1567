/- The abstract machine over this program: its code is good. -/
import Derived.Test.YtnonfejhkbaikaaRows
import Derived.Test.YtnonfejhkbaikaaPGN
import Derived.Test.YtnonfejhkbaikaaPKE
import Derived.ProofKit
import Derived.OpenShut
import Derived.JoinedCond
import Derived.Deep.Matrix
namespace Go.G
open Go.Ab Go.Proofs Go.RowKit Go.ChangeShapes Go.WideShapes Go.ChangeAt
set_option linter.unusedVariables false
set_option maxRecDepth 100000
theorem own_knob : ownKnob Try.prog.godebug = none := by kernel_rfl
theorem laid_out : laidOutB Try.prog = true := by kernel_rfl
theorem all_ok : (Try.prog.funcs.toList.all fun fn => match fn.body with
  | some c => codeOk c
  | none => true) = true := by kernel_rfl
theorem code_ok (E : Ext) : ∀ f fn c, Try.prog.funcs[f]? = some fn → E f = none → fn.body = some c → codeOk c = true := fun f fn c hf _ hb => by
  have hm : fn ∈ Try.prog.funcs.toList := by
    rw [← Array.getElem?_toList] at hf
    exact List.mem_of_getElem? hf
  have := List.all_eq_true.1 all_ok fn hm
  rw [hb] at this; exact this
theorem call_okE (E : Ext) (hE : ∀ f g, E f = some g → CallOk1 Try.prog f g ∨ ExtOk1 Try.prog f g) (k : Nat) : CallOk Try.prog (acall Try.prog E k) :=
  acall_ok (by kernel_rfl) hE (code_ok E) k
theorem call_fnE (E : Ext) (hE : ∀ f g, E f = some g → CallOk1 Try.prog f g ∨ ExtOk1 Try.prog f g) (k : Nat) {f : FuncId} (hf : E f = none) : CallOk1 Try.prog f (acall Try.prog E k true f) := by
  cases k with
  | zero => intro args M v M' h; simp [acall] at h
  | succ k => exact acall_fn (by kernel_rfl) (code_ok E) (call_okE E hE k) hf
end Go.G
