/-  -/
import Derived.Test.YtpacolplhcfamaaPGN
open Go.RowKit
namespace Go.G
open Go.Ab Go.Proofs
set_option linter.unusedVariables false
set_option maxRecDepth 100000
def S_fettlelaw15_write (x0 x1 x2 : Value) (M : Store) (Q : Value → Store → Prop) : Prop :=
  OP (binI .add (.int .i64 48) x2) fun t8 =>
  OP (cvI .u8 t8) fun t9 =>
  OP (bldL (.int .u8 0) 1 1 [(0, t9)]) fun c =>
  LT (.slice (some ⟨M.n, 0, none⟩) 1 1) (M.push (some (.inl (c, Ty.uint8, true)))) fun t10 M1 =>
  R F.fettlelaw15_made #[x1] M1 fun t12 M2 =>
  BR t12 (
  OP (bldL (.int .u8 0) 1 1 [(0, (.int .u8 112))]) fun c_1 =>
  LT (.slice (some ⟨M2.n, 0, none⟩) 1 1) (M2.push (some (.inl (c_1, Ty.uint8, true)))) fun t13 M3 =>
  OP2 (cvId t13 M3) fun t14 M4 =>
  R F.fettleref10_Make #[t14, t10] M4 fun t16 M5 =>
  R F.simf_FS_Put #[x0, x1, t16] M5 fun t20 M6 =>
  NTs [] ∧ Q (.tuple #[]) M6
  ) (
  R F.simf_FS_Put #[x0, x1, t10] M2 fun t20_1 M7 =>
  NTs [] ∧ Q (.tuple #[]) M7
  )
theorem T_fettlelaw15_write {x0 x1 x2 : Value} {M : Store} {Q : Value → Store → Prop} (h : S_fettlelaw15_write x0 x1 x2 M Q) : R F.fettlelaw15_write #[x0, x1, x2] M Q := by
  refine runs_of (c := bodyOf Try.f38) Try.func38 rfl (by kernel_rfl) (by kernel_rfl) ?_
  unfold At
  exact rule (B := 1000) (N := 21) (ct := .no)
    [⟨0, fun a M => kfin Try.prog Try.f38.results.toList Q 0 a M, fun a M => kfin Try.prog Try.f38.results.toList Q 0 a M⟩]
    [] [0] (by kernel_rfl) (by kernel_rfl) (by kernel_rfl) (by kernel_rfl) (by kernel_rfl)
    ⟨fun _ _ _ h => h,
    trivial⟩
    (cast (by kernel_rfl) h)
def S_fettlelaw15_value (x0 x1 : Value) (M : Store) (Q : Value → Store → Prop) : Prop :=
  R F.simf_FS_Read #[x0, x1] M fun t14 M1 =>
  OP (tup t14 0) fun t15 =>
  OP (tup t14 1) fun t16 =>
  OP (tup t14 2) fun t17 =>
  R F.fettlelaw15_made #[x1] M1 fun t19 M2 =>
  BR t19 (
  R F.fettleref10_Open #[t15] M2 fun t22 M3 =>
  OP (tup t22 0) fun t23 =>
  OP (tup t22 1) fun t24 =>
  OP (tup t22 2) fun t25 =>
  NTs [t24] ∧ Q t24 M3
  ) (
  NTs [t15] ∧ Q t15 M2
  )
theorem T_fettlelaw15_value {x0 x1 : Value} {M : Store} {Q : Value → Store → Prop} (h : S_fettlelaw15_value x0 x1 M Q) : R F.fettlelaw15_value #[x0, x1] M Q := by
  refine runs_of (c := bodyOf Try.f39) Try.func39 rfl (by kernel_rfl) (by kernel_rfl) ?_
  unfold At
  exact rule (B := 1000) (N := 28) (ct := .no)
    [⟨1, fun a M => kfin Try.prog Try.f39.results.toList Q 1 a M, fun a M => kfin Try.prog Try.f39.results.toList Q 1 a M⟩]
    [] [1] (by kernel_rfl) (by kernel_rfl) (by kernel_rfl) (by kernel_rfl) (by kernel_rfl)
    ⟨fun _ _ _ h => h,
    trivial⟩
    (cast (by kernel_rfl) h)
end Go.G
