/- What is told at once is right: closed calls answer true, each by its run; functions that run in place by the model. -/
import Derived.Test.YtnonfejhkbaikaaPRZ
import Derived.Test.YtnonfejhkbaikaaPKE
namespace Go.G
open Go.Ab Go.Proofs Go.RowKit
set_option linter.unusedVariables false
set_option maxRecDepth 100000
def XT : Ext := fun f => none
theorem Je : ∀ f g, XT f = some g → cE Try.prog f g ∨ kY Try.prog f g := by
 intro f g h
 unfold XT at h
 cases h
def EC : Ext := XT
theorem Jc : ∀ f g, EC f = some g → cE Try.prog f g ∨ kY Try.prog f g := Je
theorem Ci {k : Nat} {f : FuncId} (hf : EC f = none) (h : okB (az Try.prog EC k true f #[] M00) = true) : cE Try.prog f xJ := by
 obtain ⟨M', h⟩ := IU h
 exact EZ (Ax EC Jc k hf) h
theorem AW : okB (az Try.prog EC 9000 true F.Q #[] M00) = true := by kernel_rfl
theorem y0 : okB (az Try.prog EC 9000 true F.m #[] M00) = true := by kernel_rfl
theorem Jd : ∀ f g, Ex f = some g → cE Try.prog f g ∨ kY Try.prog f g := by
 intro f g h
 unfold Ex at h
 cases h0 : Nat.beq f F.Q with
 | true => rw [h0, cond_true] at h; injection h with h; subst h; obtain rfl := Nat.eq_of_beq_eq_true h0; exact .inl (Ci rfl AW)
 | false =>
  rw [h0, cond_false] at h
  cases h1 : Nat.beq f F.m with
  | true => rw [h1, cond_true] at h; injection h with h; subst h; obtain rfl := Nat.eq_of_beq_eq_true h1; exact .inl (Ci rfl y0)
  | false =>
   rw [h1, cond_false] at h
   cases h
end Go.G
