/- The abstract machine over this program: its code is good. -/
import Derived.Test.YtjchjhkhopcalaaGreatDoorRows
import Derived.Test.YtjchjhkhopcalaaGreatDoorPGN
import Derived.Test.YtjchjhkhopcalaaGreatDoorPKE
import Derived.ProofKit
import Derived.OpenShut
import Derived.JoinedCond
import Derived.Deep.Matrix
namespace Go.G
open Go.Ab Go.Proofs Go.RowKit Go.ChangeShapes Go.WideShapes Go.ChangeAt
set_option linter.unusedVariables false
set_option maxRecDepth 100000
theorem rS : ownKnob Tryz.prog.godebug = none := by kernel_rfl
theorem rK : laidOutB Tryz.prog = true := by kernel_rfl
theorem tI : (Tryz.prog.funcs.toList.all fun fn => match fn.body with
 | some c => aQ c
 | none => true) = true := by kernel_rfl
theorem o7 (E : Ext) : ∀ f fn c, Tryz.prog.funcs[f]? = some fn → E f = none → fn.body = some c → aQ c = true := fun f fn c hf _ hb => by
 have hm : fn ∈ Tryz.prog.funcs.toList := by
  rw [← Array.getElem?_toList] at hf
  exact List.mem_of_getElem? hf
 have := List.all_eq_true.1 tI fn hm
 rw [hb] at this; exact this
theorem rA (E : Ext) (hE : ∀ f g, E f = some g → ay Tryz.prog f g ∨ dz Tryz.prog f g) (k : Nat) : CallOk Tryz.prog (aq Tryz.prog E k) :=
 nv (by kernel_rfl) hE (o7 E) k
theorem nJ (E : Ext) (hE : ∀ f g, E f = some g → ay Tryz.prog f g ∨ dz Tryz.prog f g) (k : Nat) {f : FuncId} (hf : E f = none) : ay Tryz.prog f (aq Tryz.prog E k true f) := by
 cases k with
 | zero => intro args M v M' h; simp [aq] at h
 | succ k => exact nu (by kernel_rfl) (o7 E) (rA E hE k) hf
end Go.G
