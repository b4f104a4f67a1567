/- The closed calls that are told at once do answer true: each by its run. -/
import Derived.Test.YtmdbdbjaipcgeaaPU1
namespace Go.G
open Go.Ab Go.Proofs Go.RowKit
set_option linter.unusedVariables false
set_option maxRecDepth 100000

theorem run_fettlelaw8_awake : okB (acall Try.prog G0.E1 3000 true F.fettlelaw8_awake #[] M00) = true := by kernel_rfl
theorem Ex_ok : ∀ f g, Ex f = some g → CallOk1 Try.prog f g := by
  intro f g h
  unfold Ex at h
  cases h0 : Nat.beq f F.fettlelaw8_awake with
  | true => rw [h0, cond_true] at h; injection h with h; subst h; obtain rfl := Nat.eq_of_beq_eq_true h0; exact G0.closed1 run_fettlelaw8_awake
  | false =>
    rw [h0, cond_false] at h
    cases h

end Go.G
