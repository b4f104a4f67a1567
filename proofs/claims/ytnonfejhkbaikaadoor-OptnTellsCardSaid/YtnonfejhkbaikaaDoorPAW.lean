/- What is told at once is right: closed calls answer true, each by its run; functions that run in place by the model. -/
import Derived.Test.YtnonfejhkbaikaaDoorPRZ
import Derived.Test.YtnonfejhkbaikaaDoorPKE
import Derived.Test.YtnonfejhkbaikaaDoorPSH
namespace Go.G
open Go.Ab Go.Proofs Go.RowKit
set_option linter.unusedVariables false
set_option maxRecDepth 100000

def XT : Ext := fun f => bif Nat.beq f F.internal_bytealg_IndexByteString then some ixbX else bif Nat.beq f F.internal_bytealg_CountString then some cntX else bif Nat.beq f F.strconv_Itoa then some itoaB else bif Nat.beq f F.strconv_Atoi then some atoiB else bif Nat.beq f F.strings_Join then some joinB else bif Nat.beq f F.bytes_Join then some bjoinB else none
theorem XT_ok : ∀ f g, XT f = some g → CallOk1 Tryd.prog f g ∨ ExtOk1 Tryd.prog f g := by
  intro f g h
  unfold XT at h
  cases h0 : Nat.beq f F.internal_bytealg_IndexByteString with
  | true => rw [h0, cond_true] at h; injection h with h; subst h; obtain rfl := Nat.eq_of_beq_eq_true h0; exact .inr (ixbX_ok Tryd.func91 (by kernel_rfl) (by kernel_rfl) (by kernel_rfl) (by kernel_rfl))
  | false =>
    rw [h0, cond_false] at h
    cases h1 : Nat.beq f F.internal_bytealg_CountString with
    | true => rw [h1, cond_true] at h; injection h with h; subst h; obtain rfl := Nat.eq_of_beq_eq_true h1; exact .inr (cntX_ok Tryd.func74 (by kernel_rfl) (by kernel_rfl) (by kernel_rfl) (by kernel_rfl))
    | false =>
      rw [h1, cond_false] at h
      cases h2 : Nat.beq f F.strconv_Itoa with
      | true => rw [h2, cond_true] at h; injection h with h; subst h; obtain rfl := Nat.eq_of_beq_eq_true h2; exact .inl itoaB_ok
      | false =>
        rw [h2, cond_false] at h
        cases h3 : Nat.beq f F.strconv_Atoi with
        | true => rw [h3, cond_true] at h; injection h with h; subst h; obtain rfl := Nat.eq_of_beq_eq_true h3; exact .inl atoiB_ok
        | false =>
          rw [h3, cond_false] at h
          cases h4 : Nat.beq f F.strings_Join with
          | true => rw [h4, cond_true] at h; injection h with h; subst h; obtain rfl := Nat.eq_of_beq_eq_true h4; exact .inl joinB_ok
          | false =>
            rw [h4, cond_false] at h
            cases h5 : Nat.beq f F.bytes_Join with
            | true => rw [h5, cond_true] at h; injection h with h; subst h; obtain rfl := Nat.eq_of_beq_eq_true h5; exact .inl bjoinB_ok
            | false =>
              rw [h5, cond_false] at h
              cases h
def EC : Ext := XT
theorem EC_ok : ∀ f g, EC f = some g → CallOk1 Tryd.prog f g ∨ ExtOk1 Tryd.prog f g := XT_ok
/-- What a closed run is worth. -/
theorem closedC {k : Nat} {f : FuncId} (hf : EC f = none) (h : okB (acall Tryd.prog EC k true f #[] M00) = true) : CallOk1 Tryd.prog f yes0 := by
  obtain ⟨M', h⟩ := okB_of h
  exact closed_ok (call_fnE EC EC_ok k hf) h
theorem run_fettlelaw6_awake : okB (acall Tryd.prog EC 9000 true F.fettlelaw6_awake #[] M00) = true := by kernel_rfl
theorem run_fettlelaw21_awake : okB (acall Tryd.prog EC 9000 true F.fettlelaw21_awake #[] M00) = true := by kernel_rfl
theorem Ex_ok : ∀ f g, Ex f = some g → CallOk1 Tryd.prog f g ∨ ExtOk1 Tryd.prog f g := by
  intro f g h
  unfold Ex at h
  cases h0 : Nat.beq f F.fettlelaw6_awake with
  | true => rw [h0, cond_true] at h; injection h with h; subst h; obtain rfl := Nat.eq_of_beq_eq_true h0; exact .inl (closedC rfl run_fettlelaw6_awake)
  | false =>
    rw [h0, cond_false] at h
    cases h1 : Nat.beq f F.fettlelaw21_awake with
    | true => rw [h1, cond_true] at h; injection h with h; subst h; obtain rfl := Nat.eq_of_beq_eq_true h1; exact .inl (closedC rfl run_fettlelaw21_awake)
    | false =>
      rw [h1, cond_false] at h
      cases h2 : Nat.beq f F.internal_bytealg_IndexByteString with
      | true => rw [h2, cond_true] at h; injection h with h; subst h; obtain rfl := Nat.eq_of_beq_eq_true h2; exact .inr (ixbX_ok Tryd.func91 (by kernel_rfl) (by kernel_rfl) (by kernel_rfl) (by kernel_rfl))
      | false =>
        rw [h2, cond_false] at h
        cases h3 : Nat.beq f F.internal_bytealg_CountString with
        | true => rw [h3, cond_true] at h; injection h with h; subst h; obtain rfl := Nat.eq_of_beq_eq_true h3; exact .inr (cntX_ok Tryd.func74 (by kernel_rfl) (by kernel_rfl) (by kernel_rfl) (by kernel_rfl))
        | false =>
          rw [h3, cond_false] at h
          cases h4 : Nat.beq f F.strconv_Itoa with
          | true => rw [h4, cond_true] at h; injection h with h; subst h; obtain rfl := Nat.eq_of_beq_eq_true h4; exact .inl itoaB_ok
          | false =>
            rw [h4, cond_false] at h
            cases h5 : Nat.beq f F.strconv_Atoi with
            | true => rw [h5, cond_true] at h; injection h with h; subst h; obtain rfl := Nat.eq_of_beq_eq_true h5; exact .inl atoiB_ok
            | false =>
              rw [h5, cond_false] at h
              cases h6 : Nat.beq f F.strings_Join with
              | true => rw [h6, cond_true] at h; injection h with h; subst h; obtain rfl := Nat.eq_of_beq_eq_true h6; exact .inl joinB_ok
              | false =>
                rw [h6, cond_false] at h
                cases h7 : Nat.beq f F.bytes_Join with
                | true => rw [h7, cond_true] at h; injection h with h; subst h; obtain rfl := Nat.eq_of_beq_eq_true h7; exact .inl bjoinB_ok
                | false =>
                  rw [h7, cond_false] at h
                  cases h

end Go.G
