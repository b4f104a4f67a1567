/- The abstract machine over this program: its code is good. -/
import Derived.Test.YtnonfejhkbaikaaDoorRows
import Derived.Test.YtnonfejhkbaikaaDoorPGN
import Derived.Test.YtnonfejhkbaikaaDoorPKE
import Derived.ProofKit
import Derived.OpenShut
import Derived.JoinedCond
import Derived.Deep.Matrix
namespace Go.G
open Go.Ab Go.Proofs Go.RowKit Go.ChangeShapes Go.WideShapes Go.ChangeAt
set_option linter.unusedVariables false
set_option maxRecDepth 100000

theorem own_knob : ownKnob Tryd.prog.godebug = none := by kernel_rfl
theorem laid_out : laidOutB Tryd.prog = true := by kernel_rfl
theorem all_ok : (Tryd.prog.funcs.toList.all fun fn => match fn.body with
  | some c => codeOk c
  | none => true) = true := by kernel_rfl
theorem code_ok (E : Ext) : ∀ f fn c, Tryd.prog.funcs[f]? = some fn → E f = none → fn.body = some c → codeOk c = true := fun f fn c hf _ hb => by
  have hm : fn ∈ Tryd.prog.funcs.toList := by
    rw [← Array.getElem?_toList] at hf
    exact List.mem_of_getElem? hf
  have := List.all_eq_true.1 all_ok fn hm
  rw [hb] at this; exact this
/-- Whatever answers are given at once, if they are right. -/
theorem call_okE (E : Ext) (hE : ∀ f g, E f = some g → CallOk1 Tryd.prog f g ∨ ExtOk1 Tryd.prog f g) (k : Nat) : CallOk Tryd.prog (acall Tryd.prog E k) :=
  acall_ok (by kernel_rfl) hE (code_ok E) k
theorem call_fnE (E : Ext) (hE : ∀ f g, E f = some g → CallOk1 Tryd.prog f g ∨ ExtOk1 Tryd.prog f g) (k : Nat) {f : FuncId} (hf : E f = none) : CallOk1 Tryd.prog f (acall Tryd.prog E k true f) := by
  cases k with
  | zero => intro args M v M' h; simp [acall] at h
  | succ k => exact acall_fn (by kernel_rfl) (code_ok E) (call_okE E hE k) hf

end Go.G
