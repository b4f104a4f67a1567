/-  -/
import Derived.Test.YtpacolplhcfamaaPGN
open Go.RowKit
namespace Go.G
open Go.Ab Go.Proofs
set_option linter.unusedVariables false
set_option maxRecDepth 100000
def S_fettleref10_Make (x0 x1 : Value) (M : Store) (Q : Value → Store → Prop) : Prop :=
  R F.fettleref1_Bytes #[(.slice none 0 0), x0] M fun t6 M1 =>
  R F.fettleref1_Bytes #[t6, x1] M1 fun t8 M2 =>
  R F.fettleref1_Put #[(.slice none 0 0), t8] M2 fun t9 M3 =>
  NTs [t9] ∧ Q t9 M3
theorem T_fettleref10_Make {x0 x1 : Value} {M : Store} {Q : Value → Store → Prop} (h : S_fettleref10_Make x0 x1 M Q) : R F.fettleref10_Make #[x0, x1] M Q := by
  refine runs_of (c := bodyOf Try.f41) Try.func41 rfl (by kernel_rfl) (by kernel_rfl) ?_
  unfold At
  exact rule (B := 1000) (N := 10) (ct := .no)
    [⟨1, fun a M => kfin Try.prog Try.f41.results.toList Q 1 a M, fun a M => kfin Try.prog Try.f41.results.toList Q 1 a M⟩]
    [] [1] (by kernel_rfl) (by kernel_rfl) (by kernel_rfl) (by kernel_rfl) (by kernel_rfl)
    ⟨fun _ _ _ h => h,
    trivial⟩
    (cast (by kernel_rfl) h)
def S_fettleref10_Open (x0 : Value) (M : Store) (Q : Value → Store → Prop) : Prop :=
  R F.fettleref10_whole #[x0] M fun t12 M1 =>
  OP (tup t12 0) fun t13 =>
  OP (tup t12 1) fun t14 =>
  OP (bldS #[(.slice none 0 0), (.bool false)] [(0, 1), (1, 1)] [(0, t13)]) fun t16 =>
  OP (boxv t16) fun c =>
  LT (.pointer (some ⟨M1.n, 0, none⟩)) (M1.push (some (.inl (c, Ty.fettleref1_Reader, true)))) fun t17 M2 =>
  R F.fettleref1_Reader_Bytes #[t17, (.int .i64 4000)] M2 fun t19 M3 =>
  R F.fettleref1_Reader_Bytes #[t17, (.int .i64 256)] M3 fun t21 M4 =>
  OP (aun .not t14) fun t23 =>
  BR t23 (
  NTs [(.slice none 0 0), (.slice none 0 0), (.bool false)] ∧ Q (.tuple #[(.slice none 0 0), (.slice none 0 0), (.bool false)]) M4
  ) (
  R F.fettleref1_Reader_End #[t17] M4 fun t26 M5 =>
  OP (aun .not t26) fun t27 =>
  BR t27 (
  NTs [(.slice none 0 0), (.slice none 0 0), (.bool false)] ∧ Q (.tuple #[(.slice none 0 0), (.slice none 0 0), (.bool false)]) M5
  ) (
  NTs [t19, t21, (.bool true)] ∧ Q (.tuple #[t19, t21, (.bool true)]) M5
  )
  )
theorem T_fettleref10_Open {x0 : Value} {M : Store} {Q : Value → Store → Prop} (h : S_fettleref10_Open x0 M Q) : R F.fettleref10_Open #[x0] M Q := by
  refine runs_of (c := bodyOf Try.f47) Try.func47 rfl (by kernel_rfl) (by kernel_rfl) ?_
  unfold At
  exact rule (B := 1000) (N := 31) (ct := .no)
    [⟨1, fun a M => kfin Try.prog Try.f47.results.toList Q 1 a M, fun a M => kfin Try.prog Try.f47.results.toList Q 1 a M⟩]
    [] [1] (by kernel_rfl) (by kernel_rfl) (by kernel_rfl) (by kernel_rfl) (by kernel_rfl)
    ⟨fun _ _ _ h => h,
    trivial⟩
    (cast (by kernel_rfl) h)
def S_arti_Open (x0 : Value) (M : Store) (Q : Value → Store → Prop) : Prop :=
  R F.fram_Scan #[x0] M fun t10 M1 =>
  OP (tup t10 0) fun t11 =>
  OP (tup t10 1) fun t12 =>
  OP (lenV t11) fun t14 =>
  OP (binI .neq t14 (.int .i64 1)) fun t15 =>
  BR t15 (
  NTs [(.slice none 0 0), (.slice none 0 0), (.bool false)] ∧ Q (.tuple #[(.slice none 0 0), (.slice none 0 0), (.bool false)]) M1
  ) (
  OP (lenV x0) fun t19 =>
  OP (binI .neq t12 t19) fun t20 =>
  BR t20 (
  NTs [(.slice none 0 0), (.slice none 0 0), (.bool false)] ∧ Q (.tuple #[(.slice none 0 0), (.slice none 0 0), (.bool false)]) M1
  ) (
  OP (ixA 1 t11 (.int .i64 0)) fun t23 =>
  OP (ld 1 false t23 M1) fun t24 =>
  R F.code_Read #[t24] M1 fun t25 M2 =>
  R F.code_Reader_Bytes #[t25, (.int .i64 4000)] M2 fun t27 M3 =>
  R F.code_Reader_Bytes #[t25, (.int .i64 256)] M3 fun t29 M4 =>
  R F.code_Reader_End #[t25] M4 fun t31 M5 =>
  OP (aun .not t31) fun t32 =>
  BR t32 (
  NTs [(.slice none 0 0), (.slice none 0 0), (.bool false)] ∧ Q (.tuple #[(.slice none 0 0), (.slice none 0 0), (.bool false)]) M5
  ) (
  NTs [t27, t29, (.bool true)] ∧ Q (.tuple #[t27, t29, (.bool true)]) M5
  )
  )
  )
theorem T_arti_Open {x0 : Value} {M : Store} {Q : Value → Store → Prop} (h : S_arti_Open x0 M Q) : R F.arti_Open #[x0] M Q := by
  refine runs_of (c := bodyOf Try.f93) Try.func93 rfl (by kernel_rfl) (by kernel_rfl) ?_
  unfold At
  exact rule (B := 1000) (N := 35) (ct := .no)
    [⟨1, fun a M => kfin Try.prog Try.f93.results.toList Q 1 a M, fun a M => kfin Try.prog Try.f93.results.toList Q 1 a M⟩]
    [] [1] (by kernel_rfl) (by kernel_rfl) (by kernel_rfl) (by kernel_rfl) (by kernel_rfl)
    ⟨fun _ _ _ h => h,
    trivial⟩
    (cast (by kernel_rfl) h)
def S_fettleref10_whole (x0 : Value) (M : Store) (Q : Value → Store → Prop) : Prop :=
  R F.fettleref1_Scan #[x0] M fun t8 M1 =>
  OP (tup t8 0) fun t9 =>
  OP (tup t8 1) fun t10 =>
  OP (lenV t9) fun t12 =>
  OP (binI .neq t12 (.int .i64 1)) fun t13 =>
  BR t13 (
  NTs [(.slice none 0 0), (.bool false)] ∧ Q (.tuple #[(.slice none 0 0), (.bool false)]) M1
  ) (
  OP (lenV x0) fun t17 =>
  OP (binI .neq t10 t17) fun t18 =>
  BR t18 (
  NTs [(.slice none 0 0), (.bool false)] ∧ Q (.tuple #[(.slice none 0 0), (.bool false)]) M1
  ) (
  OP (ixA 1 t9 (.int .i64 0)) fun t21 =>
  OP (ld 1 false t21 M1) fun t22 =>
  NTs [t22, (.bool true)] ∧ Q (.tuple #[t22, (.bool true)]) M1
  )
  )
theorem T_fettleref10_whole {x0 : Value} {M : Store} {Q : Value → Store → Prop} (h : S_fettleref10_whole x0 M Q) : R F.fettleref10_whole #[x0] M Q := by
  refine runs_of (c := bodyOf Try.f95) Try.func95 rfl (by kernel_rfl) (by kernel_rfl) ?_
  unfold At
  exact rule (B := 1000) (N := 23) (ct := .no)
    [⟨1, fun a M => kfin Try.prog Try.f95.results.toList Q 1 a M, fun a M => kfin Try.prog Try.f95.results.toList Q 1 a M⟩]
    [] [1] (by kernel_rfl) (by kernel_rfl) (by kernel_rfl) (by kernel_rfl) (by kernel_rfl)
    ⟨fun _ _ _ h => h,
    trivial⟩
    (cast (by kernel_rfl) h)
end Go.G
