/- What is told at once is right: closed calls answer true, each by its run; functions that run in place by the model. -/
import Derived.Test.YtnonfejhkbaikaaPRZ
import Derived.Test.YtnonfejhkbaikaaPKE
namespace Go.G
open Go.Ab Go.Proofs Go.RowKit
set_option linter.unusedVariables false
set_option maxRecDepth 100000
def XT : Ext := fun f => none
theorem XT_ok : ∀ f g, XT f = some g → CallOk1 Try.prog f g ∨ ExtOk1 Try.prog f g := by
  intro f g h
  unfold XT at h
  cases h
def EC : Ext := XT
theorem EC_ok : ∀ f g, EC f = some g → CallOk1 Try.prog f g ∨ ExtOk1 Try.prog f g := XT_ok
theorem closedC {k : Nat} {f : FuncId} (hf : EC f = none) (h : okB (acall Try.prog EC k true f #[] M00) = true) : CallOk1 Try.prog f yes0 := by
  obtain ⟨M', h⟩ := okB_of h
  exact closed_ok (call_fnE EC EC_ok k hf) h
theorem run_l8_awake : okB (acall Try.prog EC 9000 true F.l8_awake #[] M00) = true := by kernel_rfl
theorem run_l18_awake : okB (acall Try.prog EC 9000 true F.l18_awake #[] M00) = true := by kernel_rfl
theorem Ex_ok : ∀ f g, Ex f = some g → CallOk1 Try.prog f g ∨ ExtOk1 Try.prog f g := by
  intro f g h
  unfold Ex at h
  cases h0 : Nat.beq f F.l8_awake with
  | true => rw [h0, cond_true] at h; injection h with h; subst h; obtain rfl := Nat.eq_of_beq_eq_true h0; exact .inl (closedC rfl run_l8_awake)
  | false =>
    rw [h0, cond_false] at h
    cases h1 : Nat.beq f F.l18_awake with
    | true => rw [h1, cond_true] at h; injection h with h; subst h; obtain rfl := Nat.eq_of_beq_eq_true h1; exact .inl (closedC rfl run_l18_awake)
    | false =>
      rw [h1, cond_false] at h
      cases h
end Go.G
