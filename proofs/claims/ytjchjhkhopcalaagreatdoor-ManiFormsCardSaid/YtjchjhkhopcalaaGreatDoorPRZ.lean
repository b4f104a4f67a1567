/- The abstract machine over this program: its code is good. -/
import Derived.Test.YtjchjhkhopcalaaGreatDoorRows
import Derived.Test.YtjchjhkhopcalaaGreatDoorPGN
import Derived.Test.YtjchjhkhopcalaaGreatDoorPKE
import Derived.ProofKit
import Derived.OpenShut
import Derived.JoinedCond
import Derived.Deep.Matrix
namespace Go.G
open Go.Ab Go.Proofs Go.RowKit Go.ChangeShapes Go.WideShapes Go.ChangeAt
set_option linter.unusedVariables false
set_option maxRecDepth 100000
theorem fh : ownKnob Tryz.prog.godebug = none := by kernel_rfl
theorem fa : laidOutB Tryz.prog = true := by kernel_rfl
theorem iK : (Tryz.prog.funcs.toList.all fun fn => match fn.body with
 | some c => ao c
 | none => true) = true := by kernel_rfl
theorem fI (E : Ext) : ∀ f fn c, Tryz.prog.funcs[f]? = some fn → E f = none → fn.body = some c → ao c = true := fun f fn c hf _ hb => by
 have hm : fn ∈ Tryz.prog.funcs.toList := by
  rw [← Array.getElem?_toList] at hf
  exact List.mem_of_getElem? hf
 have := List.all_eq_true.1 iK fn hm
 rw [hb] at this; exact this
theorem hJ (E : Ext) (hE : ∀ f g, E f = some g → aj Tryz.prog f g ∨ aX Tryz.prog f g) (k : Nat) : CallOk Tryz.prog (af Tryz.prog E k) :=
 eQ (by kernel_rfl) hE (fI E) k
theorem dA (E : Ext) (hE : ∀ f g, E f = some g → aj Tryz.prog f g ∨ aX Tryz.prog f g) (k : Nat) {f : FuncId} (hf : E f = none) : aj Tryz.prog f (af Tryz.prog E k true f) := by
 cases k with
 | zero => intro args M v M' h; simp [af] at h
 | succ k => exact eP (by kernel_rfl) (fI E) (hJ E hE k) hf
end Go.G
