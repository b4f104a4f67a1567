/- What is told at once is right: closed calls answer true, each by its run; functions that run in place by the model. -/
import Derived.Test.YtpacolplhcfamaaPU1
import Derived.Test.YtpacolplhcfamaaPKE
import Derived.Test.YtpacolplhcfamaaPSH
namespace Go.G
open Go.Ab Go.Proofs Go.RowKit
set_option linter.unusedVariables false
set_option maxRecDepth 100000

def XT : Ext := fun f => bif Nat.beq f F.bytes_Join then some bjoinB else bif Nat.beq f F.internal_bytealg_IndexByteString then some ixbX else none
theorem XT_ok : ∀ f g, XT f = some g → CallOk1 Try.prog f g ∨ ExtOk1 Try.prog f g := by
  intro f g h
  unfold XT at h
  cases h0 : Nat.beq f F.bytes_Join with
  | true => rw [h0, cond_true] at h; injection h with h; subst h; obtain rfl := Nat.eq_of_beq_eq_true h0; exact .inl bjoinB_ok
  | false =>
    rw [h0, cond_false] at h
    cases h1 : Nat.beq f F.internal_bytealg_IndexByteString with
    | true => rw [h1, cond_true] at h; injection h with h; subst h; obtain rfl := Nat.eq_of_beq_eq_true h1; exact .inr (ixbX_ok Try.func144 (by kernel_rfl) (by kernel_rfl) (by kernel_rfl) (by kernel_rfl))
    | false =>
      rw [h1, cond_false] at h
      cases h
def EC : Ext := fun f => match G0.E1 f with
  | some g => some g
  | none => XT f
theorem EC_ok : ∀ f g, EC f = some g → CallOk1 Try.prog f g ∨ ExtOk1 Try.prog f g := by
  intro f g h
  unfold EC at h
  split at h
  · rename_i g1 h1; injection h with h; subst h; exact .inl (G0.E1_ok _ _ h1)
  · exact XT_ok f g h
/-- What a closed run is worth. -/
theorem closedC {k : Nat} {f : FuncId} (hf : EC f = none) (h : okB (acall Try.prog EC k true f #[] M00) = true) : CallOk1 Try.prog f yes0 := by
  obtain ⟨M', h⟩ := okB_of h
  exact closed_ok (call_fnE EC EC_ok k hf) h
theorem run_fettlelaw10_awake : okB (acall Try.prog EC 9000 true F.fettlelaw10_awake #[] M00) = true := by kernel_rfl
theorem run_fettlelaw15_awake : okB (acall Try.prog EC 9000 true F.fettlelaw15_awake #[] M00) = true := by kernel_rfl
theorem run_fettlelaw25_awake : okB (acall Try.prog EC 9000 true F.fettlelaw25_awake #[] M00) = true := by kernel_rfl
theorem run_fettlelaw16_awake : okB (acall Try.prog EC 9000 true F.fettlelaw16_awake #[] M00) = true := by kernel_rfl
theorem Ex_ok : ∀ f g, Ex f = some g → CallOk1 Try.prog f g ∨ ExtOk1 Try.prog f g := by
  intro f g h
  unfold Ex at h
  cases h0 : Nat.beq f F.fettlelaw10_awake with
  | true => rw [h0, cond_true] at h; injection h with h; subst h; obtain rfl := Nat.eq_of_beq_eq_true h0; exact .inl (closedC rfl run_fettlelaw10_awake)
  | false =>
    rw [h0, cond_false] at h
    cases h1 : Nat.beq f F.fettlelaw15_awake with
    | true => rw [h1, cond_true] at h; injection h with h; subst h; obtain rfl := Nat.eq_of_beq_eq_true h1; exact .inl (closedC rfl run_fettlelaw15_awake)
    | false =>
      rw [h1, cond_false] at h
      cases h2 : Nat.beq f F.fettlelaw25_awake with
      | true => rw [h2, cond_true] at h; injection h with h; subst h; obtain rfl := Nat.eq_of_beq_eq_true h2; exact .inl (closedC rfl run_fettlelaw25_awake)
      | false =>
        rw [h2, cond_false] at h
        cases h3 : Nat.beq f F.fettlelaw16_awake with
        | true => rw [h3, cond_true] at h; injection h with h; subst h; obtain rfl := Nat.eq_of_beq_eq_true h3; exact .inl (closedC rfl run_fettlelaw16_awake)
        | false =>
          rw [h3, cond_false] at h
          cases h4 : Nat.beq f F.bytes_Join with
          | true => rw [h4, cond_true] at h; injection h with h; subst h; obtain rfl := Nat.eq_of_beq_eq_true h4; exact .inl bjoinB_ok
          | false =>
            rw [h4, cond_false] at h
            cases h5 : Nat.beq f F.internal_bytealg_IndexByteString with
            | true => rw [h5, cond_true] at h; injection h with h; subst h; obtain rfl := Nat.eq_of_beq_eq_true h5; exact .inr (ixbX_ok Try.func144 (by kernel_rfl) (by kernel_rfl) (by kernel_rfl) (by kernel_rfl))
            | false =>
              rw [h5, cond_false] at h
              cases h

end Go.G
