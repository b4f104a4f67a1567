/- What is told at once is right: closed calls answer true, each by its run; functions that run in place by the model. -/
import Derived.Test.YtnonfejhkbaikaaPRZ
import Derived.Test.YtnonfejhkbaikaaPKE
namespace Go.G
open Go.Ab Go.Proofs Go.RowKit
set_option linter.unusedVariables false
set_option maxRecDepth 100000
def XT : Ext := fun f => none
theorem JC : ∀ f g, XT f = some g → cA Try.prog f g ∨ kK Try.prog f g := by
 intro f g h
 unfold XT at h
 cases h
def EC : Ext := XT
theorem JA : ∀ f g, EC f = some g → cA Try.prog f g ∨ kK Try.prog f g := JC
theorem CI {k : Nat} {f : FuncId} (hf : EC f = none) (h : okB (aB Try.prog EC k true f #[] M00) = true) : cA Try.prog f yg := by
 obtain ⟨M', h⟩ := Jj h
 exact Fu (AW EC JA k hf) h
theorem Bk : okB (aB Try.prog EC 9000 true F.S #[] M00) = true := by kernel_rfl
theorem zn : okB (aB Try.prog EC 9000 true F.s #[] M00) = true := by kernel_rfl
theorem JB : ∀ f g, Ex f = some g → cA Try.prog f g ∨ kK Try.prog f g := by
 intro f g h
 unfold Ex at h
 cases h0 : Nat.beq f F.S with
 | true => rw [h0, cond_true] at h; injection h with h; subst h; obtain rfl := Nat.eq_of_beq_eq_true h0; exact .inl (CI rfl Bk)
 | false =>
  rw [h0, cond_false] at h
  cases h1 : Nat.beq f F.s with
  | true => rw [h1, cond_true] at h; injection h with h; subst h; obtain rfl := Nat.eq_of_beq_eq_true h1; exact .inl (CI rfl zn)
  | false =>
   rw [h1, cond_false] at h
   cases h
end Go.G
