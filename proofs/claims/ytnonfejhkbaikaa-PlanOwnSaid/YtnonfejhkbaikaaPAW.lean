/- What is told at once is right: closed calls answer true, each by its run; functions that run in place by the model. -/
import Derived.Test.YtnonfejhkbaikaaPRZ
import Derived.Test.YtnonfejhkbaikaaPKE
namespace Go.G
open Go.Ab Go.Proofs Go.RowKit
set_option linter.unusedVariables false
set_option maxRecDepth 100000
def XT : Ext := fun f => none
theorem K2 : ∀ f g, XT f = some g → cE Try.prog f g ∨ lF Try.prog f g := by
 intro f g h
 unfold XT at h
 cases h
def EC : Ext := XT
theorem K0 : ∀ f g, EC f = some g → cE Try.prog f g ∨ lF Try.prog f g := K2
theorem DX {k : Nat} {f : FuncId} (hf : EC f = none) (h : okB (aA Try.prog EC k true f #[] M00) = true) : cE Try.prog f CI := by
 obtain ⟨M', h⟩ := KF h
 exact GL (B8 EC K0 k hf) h
theorem Cy : okB (aA Try.prog EC 9000 true F.U #[] M00) = true := by kernel_rfl
theorem AA : okB (aA Try.prog EC 9000 true F.t #[] M00) = true := by kernel_rfl
theorem K1 : ∀ f g, Ex f = some g → cE Try.prog f g ∨ lF Try.prog f g := by
 intro f g h
 unfold Ex at h
 cases h0 : Nat.beq f F.U with
 | true => rw [h0, cond_true] at h; injection h with h; subst h; obtain rfl := Nat.eq_of_beq_eq_true h0; exact .inl (DX rfl Cy)
 | false =>
  rw [h0, cond_false] at h
  cases h1 : Nat.beq f F.t with
  | true => rw [h1, cond_true] at h; injection h with h; subst h; obtain rfl := Nat.eq_of_beq_eq_true h1; exact .inl (DX rfl AA)
  | false =>
   rw [h1, cond_false] at h
   cases h
end Go.G
