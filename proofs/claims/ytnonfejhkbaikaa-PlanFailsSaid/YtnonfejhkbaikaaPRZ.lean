/- The abstract machine over this program: its code is good. -/
import Derived.Test.YtnonfejhkbaikaaRows
import Derived.Test.YtnonfejhkbaikaaPGN
import Derived.Test.YtnonfejhkbaikaaPKE
import Derived.ProofKit
import Derived.OpenShut
import Derived.JoinedCond
import Derived.Deep.Matrix
namespace Go.G
open Go.Ab Go.Proofs Go.RowKit Go.ChangeShapes Go.WideShapes Go.ChangeAt
set_option linter.unusedVariables false
set_option maxRecDepth 100000
theorem Gu : ownKnob Try.prog.godebug = none := by kernel_rfl
theorem Gj : laidOutB Try.prog = true := by kernel_rfl
theorem Iw : (Try.prog.funcs.toList.all fun fn => match fn.body with
 | some c => be c
 | none => true) = true := by kernel_rfl
theorem Cj (E : Ext) : ∀ f fn c, Try.prog.funcs[f]? = some fn → E f = none → fn.body = some c → be c = true := fun f fn c hf _ hb => by
 have hm : fn ∈ Try.prog.funcs.toList := by
  rw [← Array.getElem?_toList] at hf
  exact List.mem_of_getElem? hf
 have := List.all_eq_true.1 Iw fn hm
 rw [hb] at this; exact this
theorem F7 (E : Ext) (hE : ∀ f g, E f = some g → cE Try.prog f g ∨ kY Try.prog f g) (k : Nat) : CallOk Try.prog (az Try.prog E k) :=
 Ah (by kernel_rfl) hE (Cj E) k
theorem Ax (E : Ext) (hE : ∀ f g, E f = some g → cE Try.prog f g ∨ kY Try.prog f g) (k : Nat) {f : FuncId} (hf : E f = none) : cE Try.prog f (az Try.prog E k true f) := by
 cases k with
 | zero => intro args M v M' h; simp [az] at h
 | succ k => exact Ag (by kernel_rfl) (Cj E) (F7 E hE k) hf
end Go.G
