/- The abstract machine over this program: its code is good. -/
import Derived.Test.YtnonfejhkbaikaaRows
import Derived.Test.YtnonfejhkbaikaaPGN
import Derived.Test.YtnonfejhkbaikaaPKE
import Derived.ProofKit
import Derived.OpenShut
import Derived.JoinedCond
import Derived.Deep.Matrix
namespace Go.G
open Go.Ab Go.Proofs Go.RowKit Go.ChangeShapes Go.WideShapes Go.ChangeAt
set_option linter.unusedVariables false
set_option maxRecDepth 100000
theorem Id0 : ownKnob Try.prog.godebug = none := by kernel_rfl
theorem H4 : laidOutB Try.prog = true := by kernel_rfl
theorem Kf : (Try.prog.funcs.toList.all fun fn => match fn.body with
 | some c => bh c
 | none => true) = true := by kernel_rfl
theorem DY (E : Ext) : ∀ f fn c, Try.prog.funcs[f]? = some fn → E f = none → fn.body = some c → bh c = true := fun f fn c hf _ hb => by
 have hm : fn ∈ Try.prog.funcs.toList := by
  rw [← Array.getElem?_toList] at hf
  exact List.mem_of_getElem? hf
 have := List.all_eq_true.1 Kf fn hm
 rw [hb] at this; exact this
theorem HS (E : Ext) (hE : ∀ f g, E f = some g → cE Try.prog f g ∨ lF Try.prog f g) (k : Nat) : CallOk Try.prog (aA Try.prog E k) :=
 BU (by kernel_rfl) hE (DY E) k
theorem B8 (E : Ext) (hE : ∀ f g, E f = some g → cE Try.prog f g ∨ lF Try.prog f g) (k : Nat) {f : FuncId} (hf : E f = none) : cE Try.prog f (aA Try.prog E k true f) := by
 cases k with
 | zero => intro args M v M' h; simp [aA] at h
 | succ k => exact BT (by kernel_rfl) (DY E) (HS E hE k) hf
end Go.G
