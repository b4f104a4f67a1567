/- The abstract machine over this program: its code is good. -/
import Derived.Test.YtnonfejhkbaikaaRows
import Derived.Test.YtnonfejhkbaikaaPGN
import Derived.Test.YtnonfejhkbaikaaPKE
import Derived.ProofKit
import Derived.OpenShut
import Derived.JoinedCond
import Derived.Deep.Matrix
namespace Go.G
open Go.Ab Go.Proofs Go.RowKit Go.ChangeShapes Go.WideShapes Go.ChangeAt
set_option linter.unusedVariables false
set_option maxRecDepth 100000
theorem GW : ownKnob Try.prog.godebug = none := by kernel_rfl
theorem GL : laidOutB Try.prog = true := by kernel_rfl
theorem IX : (Try.prog.funcs.toList.all fun fn => match fn.body with
 | some c => bg c
 | none => true) = true := by kernel_rfl
theorem CJ (E : Ext) : ∀ f fn c, Try.prog.funcs[f]? = some fn → E f = none → fn.body = some c → bg c = true := fun f fn c hf _ hb => by
 have hm : fn ∈ Try.prog.funcs.toList := by
  rw [← Array.getElem?_toList] at hf
  exact List.mem_of_getElem? hf
 have := List.all_eq_true.1 IX fn hm
 rw [hb] at this; exact this
theorem Gz (E : Ext) (hE : ∀ f g, E f = some g → cA Try.prog f g ∨ kK Try.prog f g) (k : Nat) : CallOk Try.prog (aB Try.prog E k) :=
 AH (by kernel_rfl) hE (CJ E) k
theorem AW (E : Ext) (hE : ∀ f g, E f = some g → cA Try.prog f g ∨ kK Try.prog f g) (k : Nat) {f : FuncId} (hf : E f = none) : cA Try.prog f (aB Try.prog E k true f) := by
 cases k with
 | zero => intro args M v M' h; simp [aB] at h
 | succ k => exact AG (by kernel_rfl) (CJ E) (Gz E hE k) hf
end Go.G
