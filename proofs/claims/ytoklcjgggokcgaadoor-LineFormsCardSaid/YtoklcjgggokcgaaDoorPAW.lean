/- What is told at once is right: closed calls answer true, each by its run; functions that run in place by the model. -/
import Derived.Test.YtoklcjgggokcgaaDoorPRZ
import Derived.Test.YtoklcjgggokcgaaDoorPKE
namespace Go.G
open Go.Ab Go.Proofs Go.RowKit
set_option linter.unusedVariables false
set_option maxRecDepth 100000

def XT : Ext := fun f => bif Nat.beq f F.internal_bytealg_IndexByteString then some ixbX else bif Nat.beq f F.internal_bytealg_CountString then some cntX else none
theorem XT_ok : ∀ f g, XT f = some g → CallOk1 Tryd.prog f g ∨ ExtOk1 Tryd.prog f g := by
  intro f g h
  unfold XT at h
  cases h0 : Nat.beq f F.internal_bytealg_IndexByteString with
  | true => rw [h0, cond_true] at h; injection h with h; subst h; obtain rfl := Nat.eq_of_beq_eq_true h0; exact .inr (ixbX_ok Tryd.func105 (by kernel_rfl) (by kernel_rfl) (by kernel_rfl) (by kernel_rfl))
  | false =>
    rw [h0, cond_false] at h
    cases h1 : Nat.beq f F.internal_bytealg_CountString with
    | true => rw [h1, cond_true] at h; injection h with h; subst h; obtain rfl := Nat.eq_of_beq_eq_true h1; exact .inr (cntX_ok Tryd.func84 (by kernel_rfl) (by kernel_rfl) (by kernel_rfl) (by kernel_rfl))
    | false =>
      rw [h1, cond_false] at h
      cases h
def EC : Ext := XT
theorem EC_ok : ∀ f g, EC f = some g → CallOk1 Tryd.prog f g ∨ ExtOk1 Tryd.prog f g := XT_ok
/-- What a closed run is worth. -/
theorem closedC {k : Nat} {f : FuncId} (hf : EC f = none) (h : okB (acall Tryd.prog EC k true f #[] M00) = true) : CallOk1 Tryd.prog f yes0 := by
  obtain ⟨M', h⟩ := okB_of h
  exact closed_ok (call_fnE EC EC_ok k hf) h
theorem run_fettlelaw5_awake : okB (acall Tryd.prog EC 3000 true F.fettlelaw5_awake #[] M00) = true := by kernel_rfl
theorem Ex_ok : ∀ f g, Ex f = some g → CallOk1 Tryd.prog f g ∨ ExtOk1 Tryd.prog f g := by
  intro f g h
  unfold Ex at h
  cases h0 : Nat.beq f F.fettlelaw5_awake with
  | true => rw [h0, cond_true] at h; injection h with h; subst h; obtain rfl := Nat.eq_of_beq_eq_true h0; exact .inl (closedC rfl run_fettlelaw5_awake)
  | false =>
    rw [h0, cond_false] at h
    cases h1 : Nat.beq f F.internal_bytealg_IndexByteString with
    | true => rw [h1, cond_true] at h; injection h with h; subst h; obtain rfl := Nat.eq_of_beq_eq_true h1; exact .inr (ixbX_ok Tryd.func105 (by kernel_rfl) (by kernel_rfl) (by kernel_rfl) (by kernel_rfl))
    | false =>
      rw [h1, cond_false] at h
      cases h2 : Nat.beq f F.internal_bytealg_CountString with
      | true => rw [h2, cond_true] at h; injection h with h; subst h; obtain rfl := Nat.eq_of_beq_eq_true h2; exact .inr (cntX_ok Tryd.func84 (by kernel_rfl) (by kernel_rfl) (by kernel_rfl) (by kernel_rfl))
      | false =>
        rw [h2, cond_false] at h
        cases h

end Go.G
