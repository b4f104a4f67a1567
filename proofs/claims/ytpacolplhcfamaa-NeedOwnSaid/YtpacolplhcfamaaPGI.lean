/-  -/
import Derived.Test.YtpacolplhcfamaaPGN
open Go.RowKit
namespace Go.G
open Go.Ab Go.Proofs
set_option linter.unusedVariables false
set_option maxRecDepth 100000
def S_simf_New (x0 : Value) (M : Store) (Q : Value → Store → Prop) : Prop :=
  LT (.map (some M.n)) (M.push (some (.inr (.inl [])))) fun t4 M1 =>
  OP (bldS #[(.int .i64 0), (.int .i64 0), (.int .i64 0), (.bool false), (.int .i64 0), (.map none)] [(0, 1), (1, 1), (2, 1), (3, 1), (4, 1), (5, 1)] [(5, t4)]) fun t5 =>
  OP (boxv t5) fun c =>
  LT (.pointer (some ⟨M1.n, 0, none⟩)) (M1.push (some (.inl (c, Ty.simf_FS, true)))) fun t6 M2 =>
  R F.simf_FS_Room #[t6, x0] M2 fun t9 M3 =>
  NTs [t6] ∧ Q t6 M3
theorem T_simf_New {x0 : Value} {M : Store} {Q : Value → Store → Prop} (h : S_simf_New x0 M Q) : R F.simf_New #[x0] M Q := by
  refine runs_of (c := bodyOf Try.f29) Try.func29 rfl (by kernel_rfl) (by kernel_rfl) ?_
  unfold At
  exact rule (B := 1000) (N := 11) (ct := .no)
    [⟨1, fun a M => kfin Try.prog Try.f29.results.toList Q 1 a M, fun a M => kfin Try.prog Try.f29.results.toList Q 1 a M⟩]
    [] [1] (by kernel_rfl) (by kernel_rfl) (by kernel_rfl) (by kernel_rfl) (by kernel_rfl)
    ⟨fun _ _ _ h => h,
    trivial⟩
    (cast (by kernel_rfl) h)
def S_simf_FS_Put (x0 x1 x2 : Value) (M : Store) (Q : Value → Store → Prop) : Prop :=
  R F.name_File #[x1] M fun t10 M1 =>
  OP (aun .not t10) fun t11 =>
  BR t11 (
  NTs [(.int .i64 0), (.int .i64 1)] ∧ Q (.tuple #[(.int .i64 0), (.int .i64 1)]) M1
  ) (
  OP (lenV x2) fun t16 =>
  R F.simf_FS_fits #[x0, x1, t16] M1 fun t17 M2 =>
  OP (aun .not t17) fun t18 =>
  BR t18 (
  NTs [(.int .i64 0), (.int .i64 2)] ∧ Q (.tuple #[(.int .i64 0), (.int .i64 2)]) M2
  ) (
  R F.slices_Clone_sl_byte_byte #[x2] M2 fun t22 M3 =>
  R F.simf_FS_write #[x0, x1, t22] M3 fun t23 M4 =>
  NTs [t23, (.int .i64 0)] ∧ Q (.tuple #[t23, (.int .i64 0)]) M4
  )
  )
theorem T_simf_FS_Put {x0 x1 x2 : Value} {M : Store} {Q : Value → Store → Prop} (h : S_simf_FS_Put x0 x1 x2 M Q) : R F.simf_FS_Put #[x0, x1, x2] M Q := by
  refine runs_of (c := bodyOf Try.f30) Try.func30 rfl (by kernel_rfl) (by kernel_rfl) ?_
  unfold At
  exact rule (B := 1000) (N := 24) (ct := .no)
    [⟨1, fun a M => kfin Try.prog Try.f30.results.toList Q 1 a M, fun a M => kfin Try.prog Try.f30.results.toList Q 1 a M⟩]
    [] [1] (by kernel_rfl) (by kernel_rfl) (by kernel_rfl) (by kernel_rfl) (by kernel_rfl)
    ⟨fun _ _ _ h => h,
    trivial⟩
    (cast (by kernel_rfl) h)
def S_sour_New (x0 x1 : Value) (M : Store) (Q : Value → Store → Prop) : Prop :=
  R F.slices_Clone_sl_string_string #[x0] M fun t6 M1 =>
  OP (bldS #[(.slice none 0 0), .nilFunc, (.bool false), (.int .i64 0), (.slice none 0 0), (.slice none 0 0), (.bool false), (.int .i64 0)] [(0, 1), (1, 1), (2, 1), (3, 1), (4, 1), (5, 1), (6, 1), (7, 1)] [(0, t6), (1, x1)]) fun t8 =>
  OP (boxv t8) fun c =>
  LT (.pointer (some ⟨M1.n, 0, none⟩)) (M1.push (some (.inl (c, Ty.sour_Read, true)))) fun t9 M2 =>
  NTs [t9] ∧ Q t9 M2
theorem T_sour_New {x0 x1 : Value} {M : Store} {Q : Value → Store → Prop} (h : S_sour_New x0 x1 M Q) : R F.sour_New #[x0, x1] M Q := by
  refine runs_of (c := bodyOf Try.f31) Try.func31 rfl (by kernel_rfl) (by kernel_rfl) ?_
  unfold At
  exact rule (B := 1000) (N := 10) (ct := .no)
    [⟨1, fun a M => kfin Try.prog Try.f31.results.toList Q 1 a M, fun a M => kfin Try.prog Try.f31.results.toList Q 1 a M⟩]
    [] [1] (by kernel_rfl) (by kernel_rfl) (by kernel_rfl) (by kernel_rfl) (by kernel_rfl)
    ⟨fun _ _ _ h => h,
    trivial⟩
    (cast (by kernel_rfl) h)
def S_sour_Read_Step (x0 x1 : Value) (M : Store) (Q : Value → Store → Prop) : Prop :=
  OP (nilc x0) fun t7 =>
  OP (fad 6 t7) fun t8 =>
  OP (ld 1 false t8 M) fun t9 =>
  BR t9 (
  OP (nilc x0) fun t11 =>
  OP (fad 7 t11) fun t12 =>
  OP (ld 1 false t12 M) fun t13 =>
  NTs [t13] ∧ Q t13 M
  ) (
  OP (nilc x0) fun t16 =>
  OP (fad 0 t16) fun t17 =>
  OP (ld 1 false t17 M) fun t18 =>
  OP (lenV t18) fun t19 =>
  OP (binI .eql t19 (.int .i64 0)) fun t20 =>
  BR t20 (
  R F.sour_Read_end #[x0, (.int .i64 1)] M fun t22 M1 =>
  NTs [t22] ∧ Q t22 M1
  ) (
  OP (nilc x0) fun t25 =>
  OP (fad 2 t25) fun t26 =>
  OP (ld 1 false t26 M) fun t27 =>
  BR t27 (
  R F.sour_Read_look #[x0, x1] M fun t30 M2 =>
  NTs [t30] ∧ Q t30 M2
  ) (
  R F.sour_Read_read #[x0, x1] M fun t33 M3 =>
  NTs [t33] ∧ Q t33 M3
  )
  )
  )
theorem T_sour_Read_Step {x0 x1 : Value} {M : Store} {Q : Value → Store → Prop} (h : S_sour_Read_Step x0 x1 M Q) : R F.sour_Read_Step #[x0, x1] M Q := by
  refine runs_of (c := bodyOf Try.f33) Try.func33 rfl (by kernel_rfl) (by kernel_rfl) ?_
  unfold At
  exact rule (B := 1000) (N := 34) (ct := .no)
    [⟨1, fun a M => kfin Try.prog Try.f33.results.toList Q 1 a M, fun a M => kfin Try.prog Try.f33.results.toList Q 1 a M⟩]
    [] [1] (by kernel_rfl) (by kernel_rfl) (by kernel_rfl) (by kernel_rfl) (by kernel_rfl)
    ⟨fun _ _ _ h => h,
    trivial⟩
    (cast (by kernel_rfl) h)
def P_sour_Read_Values_1 (x4 x13 x14 x15 : Value) (M : Store) (Q : Value → Store → Prop) : Prop :=
  ∀ f : Nat → Value, f 4 = x4 → f 13 = x13 → f 14 = x14 → f 15 = x15 → At Try.prog Ex none Try.f34 [1, 1, 1, 0, 1, 0] ⟨⟨27, f⟩, []⟩ M Q
def P_sour_Read_Values_2 (x4 : Value) (M : Store) (Q : Value → Store → Prop) : Prop :=
  ∀ f : Nat → Value, f 4 = x4 → At Try.prog Ex none Try.f34 [1, 1, 1, 1] ⟨⟨27, f⟩, []⟩ M Q
def S_sour_Read_Values (x0 : Value) (M : Store) (Q : Value → Store → Prop) : Prop :=
  R F.sour_Read_all #[x0] M fun t8 M1 =>
  OP (aun .not t8) fun t9 =>
  BR t9 (
  NTs [(.slice none 0 0), (.bool false)] ∧ Q (.tuple #[(.slice none 0 0), (.bool false)]) M1
  ) (
  OP (nilc x0) fun t11 =>
  OP (fad 4 t11) fun t12 =>
  OP (ld 1 false t12 M1) fun t13 =>
  OP (lenV t13) fun t14 =>
  P_sour_Read_Values_1 (.slice none 0 0) t13 t14 (.int .i64 0) M1 Q
  )
theorem T_sour_Read_Values {x0 : Value} {M : Store} {Q : Value → Store → Prop} (h : S_sour_Read_Values x0 M Q) : R F.sour_Read_Values #[x0] M Q := by
  refine runs_of (c := bodyOf Try.f34) Try.func34 rfl (by kernel_rfl) (by kernel_rfl) ?_
  unfold At
  exact rule (B := 1000) (N := 27) (ct := (.two .no (.two .no (.two .no (.two (.two .no (.two (.here 1000) .no)) (.here 1001))))))
    [⟨1002, fun a M => dfr a.defers (P_sour_Read_Values_1 (a.get 4) (a.get 13) (a.get 14) (a.get 15) M Q), fun a M => At Try.prog Ex none Try.f34 [1, 1, 1, 0, 1, 0] a M Q⟩,
    ⟨1003, fun _ _ => False, fun a M => At Try.prog Ex none Try.f34 [1, 1, 1, 1] a M Q⟩,
    ⟨1, fun a M => kfin Try.prog Try.f34.results.toList Q 1 a M, fun a M => kfin Try.prog Try.f34.results.toList Q 1 a M⟩]
    [1000, 1001] [1] (by kernel_rfl) (by kernel_rfl) (by kernel_rfl) (by kernel_rfl) (by kernel_rfl)
    ⟨fun a M hn h => by obtain ⟨⟨n, f⟩, ds⟩ := a; have hn : n = 27 := hn; subst hn; obtain ⟨hd, h⟩ := dfr_iff h; have hd : ds = [] := hd; subst hd; exact h f rfl rfl rfl rfl,
    fun _ _ _ h => h.elim,
    fun _ _ _ h => h,
    trivial⟩
    (cast (by kernel_rfl) h)
def S_sour_Read_Values_1 (x4 x13 x14 x15 : Value) (M : Store) (Q : Value → Store → Prop) : Prop :=
  OP (binI .lss x15 x14) fun t16 =>
  BR t16 (
  OP (ixA 1 x13 x15) fun t17 =>
  OP (ld 1 false t17 M) fun t18 =>
  R F.slices_Clone_sl_byte_byte #[t18] M fun t21 M1 =>
  OP (bldL (.slice none 0 0) 1 1 [(0, t21)]) fun c =>
  LT (.slice (some ⟨M1.n, 0, none⟩) 1 1) (M1.push (some (.inl (c, Ty.sl_uint8, true)))) fun t22 M2 =>
  OP2 (appV 1 Ty.sl_uint8 x4 t22 M2) fun t23 M3 =>
  OP (binI .add x15 (.int .i64 1)) fun t24 =>
  P_sour_Read_Values_1 t23 x13 x14 t24 M3 Q
  ) (
  P_sour_Read_Values_2 x4 M Q
  )
theorem T_sour_Read_Values_1 {x4 x13 x14 x15 : Value} {M : Store} {Q : Value → Store → Prop} (h : S_sour_Read_Values_1 x4 x13 x14 x15 M Q) : P_sour_Read_Values_1 x4 x13 x14 x15 M Q := by
  intro f h4 h13 h14 h15; subst h4; subst h13; subst h14; subst h15
  unfold At
  refine cast (by kernel_rfl) (CW.loop (P := Try.prog) (E := Ex) (rd := none) (x := sub (bodyOf Try.f34) [1, 1, 1, 0, 1, 0, 0]) (a := ⟨⟨27, f⟩, []⟩) (M := M) (K := kcont Try.prog Ex none (bodyOf Try.f34) [1, 1, 1, 0, 1, 0] (kfin Try.prog Try.f34.results.toList Q)) ?_)
  exact rule (B := 1000) (N := 27) (ct := .no)
    [⟨0, fun a M => dfr a.defers (P_sour_Read_Values_1 (a.get 4) (a.get 13) (a.get 14) (a.get 15) M Q), fun a M => At Try.prog Ex none Try.f34 [1, 1, 1, 0, 1, 0] a M Q⟩,
    ⟨2, fun a M => dfr a.defers (P_sour_Read_Values_2 (a.get 4) M Q), fun a M => At Try.prog Ex none Try.f34 [1, 1, 1, 1] a M Q⟩]
    [] [0, 2] (by kernel_rfl) (by kernel_rfl) (by kernel_rfl) (by kernel_rfl) (by kernel_rfl)
    ⟨fun a M hn h => by obtain ⟨⟨n, f⟩, ds⟩ := a; have hn : n = 27 := hn; subst hn; obtain ⟨hd, h⟩ := dfr_iff h; have hd : ds = [] := hd; subst hd; exact h f rfl rfl rfl rfl,
    fun a M hn h => by obtain ⟨⟨n, f⟩, ds⟩ := a; have hn : n = 27 := hn; subst hn; obtain ⟨hd, h⟩ := dfr_iff h; have hd : ds = [] := hd; subst hd; exact h f rfl,
    trivial⟩
    (cast (by kernel_rfl) h)
def S_sour_Read_Values_2 (x4 : Value) (M : Store) (Q : Value → Store → Prop) : Prop :=
  R F.slices_Clip_sl_sl_byte_sl_byte #[x4] M fun t26 M1 =>
  NTs [t26, (.bool true)] ∧ Q (.tuple #[t26, (.bool true)]) M1
theorem T_sour_Read_Values_2 {x4 : Value} {M : Store} {Q : Value → Store → Prop} (h : S_sour_Read_Values_2 x4 M Q) : P_sour_Read_Values_2 x4 M Q := by
  intro f h4; subst h4
  unfold At
  exact rule (B := 1000) (N := 27) (ct := .no)
    [⟨1, fun a M => kfin Try.prog Try.f34.results.toList Q 1 a M, fun a M => kfin Try.prog Try.f34.results.toList Q 1 a M⟩]
    [] [1] (by kernel_rfl) (by kernel_rfl) (by kernel_rfl) (by kernel_rfl) (by kernel_rfl)
    ⟨fun _ _ _ h => h,
    trivial⟩
    (cast (by kernel_rfl) h)
def S_sour_Read_Stamps (x0 : Value) (M : Store) (Q : Value → Store → Prop) : Prop :=
  R F.sour_Read_all #[x0] M fun t4 M1 =>
  OP (aun .not t4) fun t5 =>
  BR t5 (
  NTs [(.slice none 0 0)] ∧ Q (.slice none 0 0) M1
  ) (
  OP (nilc x0) fun t7 =>
  OP (fad 5 t7) fun t8 =>
  OP (ld 1 false t8 M1) fun t9 =>
  R F.slices_Clone_sl_int_int #[t9] M1 fun t10 M2 =>
  NTs [t10] ∧ Q t10 M2
  )
theorem T_sour_Read_Stamps {x0 : Value} {M : Store} {Q : Value → Store → Prop} (h : S_sour_Read_Stamps x0 M Q) : R F.sour_Read_Stamps #[x0] M Q := by
  refine runs_of (c := bodyOf Try.f35) Try.func35 rfl (by kernel_rfl) (by kernel_rfl) ?_
  unfold At
  exact rule (B := 1000) (N := 11) (ct := .no)
    [⟨1, fun a M => kfin Try.prog Try.f35.results.toList Q 1 a M, fun a M => kfin Try.prog Try.f35.results.toList Q 1 a M⟩]
    [] [1] (by kernel_rfl) (by kernel_rfl) (by kernel_rfl) (by kernel_rfl) (by kernel_rfl)
    ⟨fun _ _ _ h => h,
    trivial⟩
    (cast (by kernel_rfl) h)
def S_simf_FS_Stamp (x0 x1 : Value) (M : Store) (Q : Value → Store → Prop) : Prop :=
  OP (nilc x0) fun t6 =>
  OP (fad 5 t6) fun t7 =>
  OP (ld 1 false t7 M) fun t8 =>
  OP (lku .string (.agg #[(.slice none 0 0), (.int .i64 0)]) t8 x1 false M) fun t10 =>
  OP (prt 1 1 false t10) fun t11 =>
  NTs [t11] ∧ Q t11 M
theorem T_simf_FS_Stamp {x0 x1 : Value} {M : Store} {Q : Value → Store → Prop} (h : S_simf_FS_Stamp x0 x1 M Q) : R F.simf_FS_Stamp #[x0, x1] M Q := by
  refine runs_of (c := bodyOf Try.f40) Try.func40 rfl (by kernel_rfl) (by kernel_rfl) ?_
  unfold At
  exact rule (B := 1000) (N := 12) (ct := .no)
    [⟨1, fun a M => kfin Try.prog Try.f40.results.toList Q 1 a M, fun a M => kfin Try.prog Try.f40.results.toList Q 1 a M⟩]
    [] [1] (by kernel_rfl) (by kernel_rfl) (by kernel_rfl) (by kernel_rfl) (by kernel_rfl)
    ⟨fun _ _ _ h => h,
    trivial⟩
    (cast (by kernel_rfl) h)
def S_simf_FS_Room (x0 x1 : Value) (M : Store) (Q : Value → Store → Prop) : Prop :=
  OP (amax2 x1 (.int .i64 0)) fun t6 =>
  OP (amin2 t6 (.int .i64 1073741824)) fun t7 =>
  OP (nilc x0) fun t8 =>
  OP (fad 0 t8) fun t9 =>
  OP (st 1 t9 t7 M) fun M1 =>
  NTs [] ∧ Q (.tuple #[]) M1
theorem T_simf_FS_Room {x0 x1 : Value} {M : Store} {Q : Value → Store → Prop} (h : S_simf_FS_Room x0 x1 M Q) : R F.simf_FS_Room #[x0, x1] M Q := by
  refine runs_of (c := bodyOf Try.f79) Try.func79 rfl (by kernel_rfl) (by kernel_rfl) ?_
  unfold At
  exact rule (B := 1000) (N := 10) (ct := .no)
    [⟨0, fun a M => kfin Try.prog Try.f79.results.toList Q 0 a M, fun a M => kfin Try.prog Try.f79.results.toList Q 0 a M⟩]
    [] [0] (by kernel_rfl) (by kernel_rfl) (by kernel_rfl) (by kernel_rfl) (by kernel_rfl)
    ⟨fun _ _ _ h => h,
    trivial⟩
    (cast (by kernel_rfl) h)
def S_simf_FS_fits (x0 x1 x2 : Value) (M : Store) (Q : Value → Store → Prop) : Prop :=
  OP (nilc x0) fun t10 =>
  OP (fad 5 t10) fun t11 =>
  OP (ld 1 false t11 M) fun t12 =>
  OP (lku .string (.agg #[(.slice none 0 0), (.int .i64 0)]) t12 x1 false M) fun t14 =>
  OP (prt 0 1 false t14) fun t15 =>
  OP (lenV t15) fun t16 =>
  OP (binI .sub x2 t16) fun t17 =>
  OP (binI .leq t17 (.int .i64 0)) fun t19 =>
  BR t19 (
  NTs [(.bool true)] ∧ Q (.bool true) M
  ) (
  OP (nilc x0) fun t22 =>
  OP (fad 1 t22) fun t23 =>
  OP (ld 1 false t23 M) fun t24 =>
  OP (binI .add t24 t17) fun t26 =>
  OP (nilc x0) fun t28 =>
  OP (fad 0 t28) fun t29 =>
  OP (ld 1 false t29 M) fun t30 =>
  OP (binI .leq t26 t30) fun t31 =>
  NTs [t31] ∧ Q t31 M
  )
theorem T_simf_FS_fits {x0 x1 x2 : Value} {M : Store} {Q : Value → Store → Prop} (h : S_simf_FS_fits x0 x1 x2 M Q) : R F.simf_FS_fits #[x0, x1, x2] M Q := by
  refine runs_of (c := bodyOf Try.f81) Try.func81 rfl (by kernel_rfl) (by kernel_rfl) ?_
  unfold At
  exact rule (B := 1000) (N := 33) (ct := .no)
    [⟨1, fun a M => kfin Try.prog Try.f81.results.toList Q 1 a M, fun a M => kfin Try.prog Try.f81.results.toList Q 1 a M⟩]
    [] [1] (by kernel_rfl) (by kernel_rfl) (by kernel_rfl) (by kernel_rfl) (by kernel_rfl)
    ⟨fun _ _ _ h => h,
    trivial⟩
    (cast (by kernel_rfl) h)
def S_simf_FS_write (x0 x1 x2 : Value) (M : Store) (Q : Value → Store → Prop) : Prop :=
  OP (nilc x0) fun t8 =>
  OP (fad 2 t8) fun t9 =>
  OP (ld 1 false t9 M) fun t10 =>
  OP (binI .add t10 (.int .i64 1)) fun t11 =>
  OP (nilc x0) fun t12 =>
  OP (fad 2 t12) fun t13 =>
  OP (st 1 t13 t11 M) fun M1 =>
  OP (nilc x0) fun t15 =>
  OP (fad 1 t15) fun t16 =>
  OP (ld 1 false t16 M1) fun t17 =>
  OP (lenV x2) fun t19 =>
  OP (nilc x0) fun t21 =>
  OP (fad 5 t21) fun t22 =>
  OP (ld 1 false t22 M1) fun t23 =>
  OP (lku .string (.agg #[(.slice none 0 0), (.int .i64 0)]) t23 x1 false M1) fun t25 =>
  OP (prt 0 1 false t25) fun t26 =>
  OP (lenV t26) fun t27 =>
  OP (binI .sub t19 t27) fun t28 =>
  OP (binI .add t17 t28) fun t29 =>
  OP (nilc x0) fun t30 =>
  OP (fad 1 t30) fun t31 =>
  OP (st 1 t31 t29 M1) fun M2 =>
  TDx [0, 1, 3, 7, 0, 16, 0, 64, 192, 448, 0, 1984, 4032, 8128, 16368, 32767, 65535, 131071, 262143] [M1.n, M1.n, M1.n, M1.n, M1.n, M1.n, M1.n, M1.n, M1.n, M1.n, M1.n, M1.n, M1.n, M1.n, M1.n, M1.n, M1.n, M1.n, M1.n] 18 M1 M2 ∧
  OP (nilc x0) fun t33 =>
  OP (fad 5 t33) fun t34 =>
  OP (ld 1 false t34 M2) fun t35 =>
  OP (nilc x0) fun t39 =>
  OP (fad 2 t39) fun t40 =>
  OP (ld 1 false t40 M2) fun t41 =>
  OP (bldS #[(.slice none 0 0), (.int .i64 0)] [(0, 1), (1, 1)] [(0, x2), (1, t41)]) fun t42 =>
  OP (mup .string t35 x1 t42 M2) fun M3 =>
  TDx [0, 1, 3, 7, 0, 0, 0, 64, 192, 448, 992, 2047] [M2.n, M2.n, M2.n, M2.n, M2.n, M2.n, M2.n, M2.n, M2.n, M2.n, M2.n, M2.n] 11 M2 M3 ∧
  OP (nilc x0) fun t44 =>
  OP (fad 2 t44) fun t45 =>
  OP (ld 1 false t45 M3) fun t46 =>
  NTs [t46] ∧ Q t46 M3
theorem T_simf_FS_write {x0 x1 x2 : Value} {M : Store} {Q : Value → Store → Prop} (h : S_simf_FS_write x0 x1 x2 M Q) : R F.simf_FS_write #[x0, x1, x2] M Q := by
  refine runs_of (c := bodyOf Try.f82) Try.func82 rfl (by kernel_rfl) (by kernel_rfl) ?_
  unfold At
  exact rule (B := 1000) (N := 47) (ct := .no)
    [⟨1, fun a M => kfin Try.prog Try.f82.results.toList Q 1 a M, fun a M => kfin Try.prog Try.f82.results.toList Q 1 a M⟩]
    [] [1] (by kernel_rfl) (by kernel_rfl) (by kernel_rfl) (by kernel_rfl) (by kernel_rfl)
    ⟨fun _ _ _ h => h,
    trivial⟩
    (cast (by kernel_rfl) h)
def S_slices_Clone_sl_string_string (x0 : Value) (M : Store) (Q : Value → Store → Prop) : Prop :=
  OP (abin Try.prog true .eql Ty.sl_string x0 (.slice none 0 0)) fun t4 =>
  BR t4 (
  NTs [(.slice none 0 0)] ∧ Q (.slice none 0 0) M
  ) (
  OP (bldL (.string ⟨#[]⟩) 1 0 []) fun c =>
  LT (.slice (some ⟨M.n, 0, none⟩) 0 0) (M.push (some (.inl (c, Ty.string, true)))) fun t5 M1 =>
  OP2 (appV 1 Ty.string t5 x0 M1) fun t7 M2 =>
  NTs [t7] ∧ Q t7 M2
  )
theorem T_slices_Clone_sl_string_string {x0 : Value} {M : Store} {Q : Value → Store → Prop} (h : S_slices_Clone_sl_string_string x0 M Q) : R F.slices_Clone_sl_string_string #[x0] M Q := by
  refine runs_of (c := bodyOf Try.f84) Try.func84 rfl (by kernel_rfl) (by kernel_rfl) ?_
  unfold At
  exact rule (B := 1000) (N := 8) (ct := .no)
    [⟨1, fun a M => kfin Try.prog Try.f84.results.toList Q 1 a M, fun a M => kfin Try.prog Try.f84.results.toList Q 1 a M⟩]
    [] [1] (by kernel_rfl) (by kernel_rfl) (by kernel_rfl) (by kernel_rfl) (by kernel_rfl)
    ⟨fun _ _ _ h => h,
    trivial⟩
    (cast (by kernel_rfl) h)
def S_sour_Read_end (x0 x1 : Value) (M : Store) (Q : Value → Store → Prop) : Prop :=
  OP (nilc x0) fun t8 =>
  OP (fad 6 t8) fun t9 =>
  OP (st 1 t9 (.bool true) M) fun M1 =>
  OP (nilc x0) fun t10 =>
  OP (fad 7 t10) fun t11 =>
  OP (st 1 t11 x1 M1) fun M2 =>
  NTs [x1] ∧ Q x1 M2
theorem T_sour_Read_end {x0 x1 : Value} {M : Store} {Q : Value → Store → Prop} (h : S_sour_Read_end x0 x1 M Q) : R F.sour_Read_end #[x0, x1] M Q := by
  refine runs_of (c := bodyOf Try.f85) Try.func85 rfl (by kernel_rfl) (by kernel_rfl) ?_
  unfold At
  exact rule (B := 1000) (N := 13) (ct := .no)
    [⟨1, fun a M => kfin Try.prog Try.f85.results.toList Q 1 a M, fun a M => kfin Try.prog Try.f85.results.toList Q 1 a M⟩]
    [] [1] (by kernel_rfl) (by kernel_rfl) (by kernel_rfl) (by kernel_rfl) (by kernel_rfl)
    ⟨fun _ _ _ h => h,
    trivial⟩
    (cast (by kernel_rfl) h)
def S_sour_Read_look (x0 x1 : Value) (M : Store) (Q : Value → Store → Prop) : Prop :=
  OP (nilc x0) fun t7 =>
  OP (fad 0 t7) fun t8 =>
  OP (ld 1 false t8 M) fun t9 =>
  OP (nilc x0) fun t11 =>
  OP (fad 3 t11) fun t12 =>
  OP (ld 1 false t12 M) fun t13 =>
  OP (ixA 1 t9 t13) fun t14 =>
  OP (ld 1 false t14 M) fun t15 =>
  R F.simf_FS_Stamp #[x1, t15] M fun t16 M1 =>
  TDj [0, 1, 2, 3, 4, 5, 6, 7, 8, 9, 10] [M.n, M.n, M.n, M.n, M.n, M.n, M.n, M.n, M.n, M.n, M.n, M.n] M M1 ∧
  OP (nilc x0) fun t18 =>
  OP (fad 5 t18) fun t19 =>
  OP (ld 1 false t19 M1) fun t20 =>
  OP (nilc x0) fun t22 =>
  OP (fad 3 t22) fun t23 =>
  OP (ld 1 false t23 M1) fun t24 =>
  OP (ixA 1 t20 t24) fun t25 =>
  OP (ld 1 false t25 M1) fun t26 =>
  OP (binI .neq t16 t26) fun t27 =>
  BR t27 (
  R F.sour_Read_begin #[x0] M1 fun t29 M2 =>
  NTs [t29] ∧ Q t29 M2
  ) (
  OP (nilc x0) fun t31 =>
  OP (fad 3 t31) fun t32 =>
  OP (ld 1 false t32 M1) fun t33 =>
  OP (binI .add t33 (.int .i64 1)) fun t34 =>
  OP (nilc x0) fun t35 =>
  OP (fad 3 t35) fun t36 =>
  OP (st 1 t36 t34 M1) fun M3 =>
  OP (nilc x0) fun t38 =>
  OP (fad 3 t38) fun t39 =>
  OP (ld 1 false t39 M3) fun t40 =>
  OP (nilc x0) fun t42 =>
  OP (fad 0 t42) fun t43 =>
  OP (ld 1 false t43 M3) fun t44 =>
  OP (lenV t44) fun t45 =>
  OP (binI .eql t40 t45) fun t46 =>
  BR t46 (
  R F.sour_Read_end #[x0, (.int .i64 1)] M3 fun t48 M4 =>
  NTs [t48] ∧ Q t48 M4
  ) (
  NTs [(.int .i64 0)] ∧ Q (.int .i64 0) M3
  )
  )
theorem T_sour_Read_look {x0 x1 : Value} {M : Store} {Q : Value → Store → Prop} (h : S_sour_Read_look x0 x1 M Q) : R F.sour_Read_look #[x0, x1] M Q := by
  refine runs_of (c := bodyOf Try.f86) Try.func86 rfl (by kernel_rfl) (by kernel_rfl) ?_
  unfold At
  exact rule (B := 1000) (N := 49) (ct := .no)
    [⟨1, fun a M => kfin Try.prog Try.f86.results.toList Q 1 a M, fun a M => kfin Try.prog Try.f86.results.toList Q 1 a M⟩]
    [] [1] (by kernel_rfl) (by kernel_rfl) (by kernel_rfl) (by kernel_rfl) (by kernel_rfl)
    ⟨fun _ _ _ h => h,
    trivial⟩
    (cast (by kernel_rfl) h)
def P_sour_Read_read_1 (x0 x5 x6 : Value) (M : Store) (Q : Value → Store → Prop) : Prop :=
  ∀ f : Nat → Value, f 0 = x0 → f 5 = x5 → f 6 = x6 → At Try.prog Ex none Try.f87 [1, 1, 1, 1] ⟨⟨105, f⟩, []⟩ M Q
def S_sour_Read_read (x0 x1 : Value) (M : Store) (Q : Value → Store → Prop) : Prop :=
  OP (nilc x0) fun t14 =>
  OP (fad 0 t14) fun t15 =>
  OP (ld 1 false t15 M) fun t16 =>
  OP (nilc x0) fun t18 =>
  OP (fad 3 t18) fun t19 =>
  OP (ld 1 false t19 M) fun t20 =>
  OP (ixA 1 t16 t20) fun t21 =>
  OP (ld 1 false t21 M) fun t22 =>
  R F.simf_FS_Read #[x1, t22] M fun t23 M1 =>
  TDx [0, 0, 2, 6, 14, 0, 32, 96, 224, 510, 1022, 2047, 4095, 8191, 8191, 8191, 16383, 98303, 262143] [M.n, M.n, M.n, M.n, M.n, M.n, M.n, M.n, M.n, M.n, M.n, M.n] 11 M M1 ∧
  OP (tup t23 0) fun t24 =>
  OP (tup t23 1) fun t25 =>
  OP (tup t23 2) fun t26 =>
  OP (binI .neq t26 (.int .i64 0)) fun t28 =>
  BR t28 (
  R F.sour_Read_end #[x0, (.int .i64 2)] M1 fun t30 M2 =>
  NTs [t30] ∧ Q t30 M2
  ) (
  OP (nilc x0) fun t32 =>
  OP (fad 1 t32) fun t33 =>
  OP (ld 1 false t33 M1) fun t34 =>
  OP (nilc x0) fun t36 =>
  OP (fad 0 t36) fun t37 =>
  OP (ld 1 false t37 M1) fun t38 =>
  OP (nilc x0) fun t40 =>
  OP (fad 3 t40) fun t41 =>
  OP (ld 1 false t41 M1) fun t42 =>
  OP (ixA 1 t38 t42) fun t43 =>
  OP (ld 1 false t43 M1) fun t44 =>
  KC t34 [t44] M1 fun t45 M3 =>
  TDx [0, 1, 3, 7, 0, 16, 48, 112, 0, 256, 768, 1792, 4080, 8176, 16383] [M1.n, M1.n, M1.n, M1.n, M1.n, M1.n, M1.n, M1.n, M1.n, M1.n, M1.n, M1.n, M1.n, M1.n, M1.n] 14 M1 M3 ∧
  BR t45 (
  R F.arti_Open #[t24] M3 fun t48 M4 =>
  OP (tup t48 0) fun t49 =>
  OP (tup t48 1) fun t50 =>
  OP (tup t48 2) fun t51 =>
  OP (aun .not t51) fun t53 =>
  BR t53 (
  R F.sour_Read_end #[x0, (.int .i64 3)] M4 fun t55 M5 =>
  NTs [t55] ∧ Q t55 M5
  ) (
  P_sour_Read_read_1 x0 t50 t25 M4 Q
  )
  ) (
  P_sour_Read_read_1 x0 t24 t25 M3 Q
  )
  )
theorem T_sour_Read_read {x0 x1 : Value} {M : Store} {Q : Value → Store → Prop} (h : S_sour_Read_read x0 x1 M Q) : R F.sour_Read_read #[x0, x1] M Q := by
  refine runs_of (c := bodyOf Try.f87) Try.func87 rfl (by kernel_rfl) (by kernel_rfl) ?_
  unfold At
  exact rule (B := 1000) (N := 105) (ct := (.two .no (.two .no (.two .no (.two .no (.here 1000))))))
    [⟨1002, fun a M => dfr a.defers (P_sour_Read_read_1 (a.get 0) (a.get 5) (a.get 6) M Q), fun a M => At Try.prog Ex none Try.f87 [1, 1, 1, 1] a M Q⟩,
    ⟨1, fun a M => kfin Try.prog Try.f87.results.toList Q 1 a M, fun a M => kfin Try.prog Try.f87.results.toList Q 1 a M⟩]
    [1000] [1] (by kernel_rfl) (by kernel_rfl) (by kernel_rfl) (by kernel_rfl) (by kernel_rfl)
    ⟨fun a M hn h => by obtain ⟨⟨n, f⟩, ds⟩ := a; have hn : n = 105 := hn; subst hn; obtain ⟨hd, h⟩ := dfr_iff h; have hd : ds = [] := hd; subst hd; exact h f rfl rfl rfl,
    fun _ _ _ h => h,
    trivial⟩
    (cast (by kernel_rfl) h)
def S_sour_Read_read_1 (x0 x5 x6 : Value) (M : Store) (Q : Value → Store → Prop) : Prop :=
  OP (lenV x5) fun t58 =>
  OP (binI .gtr t58 (.int .i64 256)) fun t59 =>
  BR t59 (
  R F.sour_Read_end #[x0, (.int .i64 3)] M fun t61 M1 =>
  NTs [t61] ∧ Q t61 M1
  ) (
  OP (nilc x0) fun t65 =>
  OP (fad 4 t65) fun t66 =>
  OP (ld 1 false t66 M) fun t67 =>
  OP (bldL (.slice none 0 0) 1 1 [(0, x5)]) fun c =>
  LT (.slice (some ⟨M.n, 0, none⟩) 1 1) (M.push (some (.inl (c, Ty.sl_uint8, true)))) fun t69 M2 =>
  OP2 (appV 1 Ty.sl_uint8 t67 t69 M2) fun t70 M3 =>
  TDx [0, 0, 0, 4, 12, 28, 0, 64, 252, 0, 512, 1536, 3584, 0, 8192, 32764, 65533, 131069, 262141, 524287, 1048575, 2097151] [M.n, M.n, M.n, M.n, M.n, M.n, M.n, M.n, M2.n] 8 M2 M3 ∧
  OP (nilc x0) fun t72 =>
  OP (fad 5 t72) fun t73 =>
  OP (ld 1 false t73 M3) fun t74 =>
  Dj (tdiff M2 M3) (idsV t73) ∧
  OP (bldL (.int .i64 0) 1 1 [(0, x6)]) fun c_1 =>
  LT (.slice (some ⟨M3.n, 0, none⟩) 1 1) (M3.push (some (.inl (c_1, Ty.int, true)))) fun t76 M4 =>
  OP2 (appV 1 Ty.int t74 t76 M4) fun t77 M5 =>
  TDx [0, 0, 0, 4, 12, 28, 0, 64, 252, 0, 512, 1536, 3584, 0, 8192, 32764, 65533, 131069, 262141, 524287, 1048575, 2097151] [M.n, M.n, M.n, M.n, M.n, M.n, M.n, M.n, M2.n, M3.n, M3.n, M3.n, M3.n, M3.n, M3.n, M4.n] 15 M4 M5 ∧
  OP (nilc x0) fun t78 =>
  OP (fad 4 t78) fun t79 =>
  OP (st 1 t79 t70 M5) fun M6 =>
  TDx [0, 0, 0, 4, 12, 28, 0, 64, 252, 0, 512, 1536, 3584, 0, 8192, 32764, 65533, 131069, 262141, 524287, 1048575, 2097151] [M.n, M.n, M.n, M.n, M.n, M.n, M.n, M.n, M2.n, M3.n, M3.n, M3.n, M3.n, M3.n, M3.n, M4.n, M5.n, M5.n, M5.n] 18 M5 M6 ∧
  OP (nilc x0) fun t80 =>
  OP (fad 5 t80) fun t81 =>
  OP (st 1 t81 t77 M6) fun M7 =>
  TDx [0, 0, 0, 4, 12, 28, 0, 64, 252, 0, 512, 1536, 3584, 0, 8192, 32764, 65533, 131069, 262141, 524287, 1048575, 2097151] [M.n, M.n, M.n, M.n, M.n, M.n, M.n, M.n, M2.n, M3.n, M3.n, M3.n, M3.n, M3.n, M3.n, M4.n, M5.n, M5.n, M5.n, M6.n, M6.n, M6.n] 21 M6 M7 ∧
  OP (nilc x0) fun t83 =>
  OP (fad 3 t83) fun t84 =>
  OP (ld 1 false t84 M7) fun t85 =>
  OP (binI .add t85 (.int .i64 1)) fun t86 =>
  OP (nilc x0) fun t87 =>
  OP (fad 3 t87) fun t88 =>
  OP (st 1 t88 t86 M7) fun M8 =>
  OP (nilc x0) fun t90 =>
  OP (fad 3 t90) fun t91 =>
  OP (ld 1 false t91 M8) fun t92 =>
  OP (nilc x0) fun t94 =>
  OP (fad 0 t94) fun t95 =>
  OP (ld 1 false t95 M8) fun t96 =>
  OP (lenV t96) fun t97 =>
  OP (binI .eql t92 t97) fun t98 =>
  BR t98 (
  OP (nilc x0) fun t101 =>
  OP (fad 2 t101) fun t102 =>
  OP (st 1 t102 (.bool true) M8) fun M9 =>
  OP (nilc x0) fun t103 =>
  OP (fad 3 t103) fun t104 =>
  OP (st 1 t104 (.int .i64 0) M9) fun M10 =>
  NTs [(.int .i64 0)] ∧ Q (.int .i64 0) M10
  ) (
  NTs [(.int .i64 0)] ∧ Q (.int .i64 0) M8
  )
  )
theorem T_sour_Read_read_1 {x0 x5 x6 : Value} {M : Store} {Q : Value → Store → Prop} (h : S_sour_Read_read_1 x0 x5 x6 M Q) : P_sour_Read_read_1 x0 x5 x6 M Q := by
  intro f h0 h5 h6; subst h0; subst h5; subst h6
  unfold At
  exact rule (B := 1000) (N := 105) (ct := .no)
    [⟨1, fun a M => kfin Try.prog Try.f87.results.toList Q 1 a M, fun a M => kfin Try.prog Try.f87.results.toList Q 1 a M⟩]
    [] [1] (by kernel_rfl) (by kernel_rfl) (by kernel_rfl) (by kernel_rfl) (by kernel_rfl)
    ⟨fun _ _ _ h => h,
    trivial⟩
    (cast (by kernel_rfl) h)
def S_sour_Read_all (x0 : Value) (M : Store) (Q : Value → Store → Prop) : Prop :=
  OP (nilc x0) fun t4 =>
  OP (fad 6 t4) fun t5 =>
  OP (ld 1 false t5 M) fun t6 =>
  BR t6 (
  OP (nilc x0) fun t9 =>
  OP (fad 7 t9) fun t10 =>
  OP (ld 1 false t10 M) fun t11 =>
  OP (binI .eql t11 (.int .i64 1)) fun t12 =>
  NTs [t12] ∧ Q t12 M
  ) (
  NTs [(.bool false)] ∧ Q (.bool false) M
  )
theorem T_sour_Read_all {x0 : Value} {M : Store} {Q : Value → Store → Prop} (h : S_sour_Read_all x0 M Q) : R F.sour_Read_all #[x0] M Q := by
  refine runs_of (c := bodyOf Try.f88) Try.func88 rfl (by kernel_rfl) (by kernel_rfl) ?_
  unfold At
  exact rule (B := 1000) (N := 14) (ct := .no)
    [⟨1, fun a M => kfin Try.prog Try.f88.results.toList Q 1 a M, fun a M => kfin Try.prog Try.f88.results.toList Q 1 a M⟩]
    [] [1] (by kernel_rfl) (by kernel_rfl) (by kernel_rfl) (by kernel_rfl) (by kernel_rfl)
    ⟨fun _ _ _ h => h,
    trivial⟩
    (cast (by kernel_rfl) h)
def S_slices_Clone_sl_int_int (x0 : Value) (M : Store) (Q : Value → Store → Prop) : Prop :=
  OP (abin Try.prog true .eql Ty.sl_int x0 (.slice none 0 0)) fun t4 =>
  BR t4 (
  NTs [(.slice none 0 0)] ∧ Q (.slice none 0 0) M
  ) (
  OP (bldL (.int .i64 0) 1 0 []) fun c =>
  LT (.slice (some ⟨M.n, 0, none⟩) 0 0) (M.push (some (.inl (c, Ty.int, true)))) fun t5 M1 =>
  OP2 (appV 1 Ty.int t5 x0 M1) fun t7 M2 =>
  NTs [t7] ∧ Q t7 M2
  )
theorem T_slices_Clone_sl_int_int {x0 : Value} {M : Store} {Q : Value → Store → Prop} (h : S_slices_Clone_sl_int_int x0 M Q) : R F.slices_Clone_sl_int_int #[x0] M Q := by
  refine runs_of (c := bodyOf Try.f90) Try.func90 rfl (by kernel_rfl) (by kernel_rfl) ?_
  unfold At
  exact rule (B := 1000) (N := 8) (ct := .no)
    [⟨1, fun a M => kfin Try.prog Try.f90.results.toList Q 1 a M, fun a M => kfin Try.prog Try.f90.results.toList Q 1 a M⟩]
    [] [1] (by kernel_rfl) (by kernel_rfl) (by kernel_rfl) (by kernel_rfl) (by kernel_rfl)
    ⟨fun _ _ _ h => h,
    trivial⟩
    (cast (by kernel_rfl) h)
def S_simf_FS_Read (x0 x1 : Value) (M : Store) (Q : Value → Store → Prop) : Prop :=
  OP (nilc x0) fun t11 =>
  OP (fad 5 t11) fun t12 =>
  OP (ld 1 false t12 M) fun t13 =>
  OP (lku .string (.agg #[(.slice none 0 0), (.int .i64 0)]) t13 x1 true M) fun t15 =>
  OP (tup t15 0) fun t16 =>
  OP (tup t15 1) fun t17 =>
  LT (.pointer (some ⟨M.n, 0, none⟩)) (M.push (some (.inl ([(.slice none 0 0), (.int .i64 0)], Ty.simf_file, true)))) fun t7 M1 =>
  OP (st 2 t7 t16 M1) fun M2 =>
  R F.name_File #[x1] M2 fun t20 M3 =>
  OP (aun .not t20) fun t21 =>
  BR t21 (
  NTs [(.slice none 0 0), (.int .i64 0), (.int .i64 1)] ∧ Q (.tuple #[(.slice none 0 0), (.int .i64 0), (.int .i64 1)]) M3
  ) (
  OP (aun .not t17) fun t24 =>
  BR t24 (
  NTs [(.slice none 0 0), (.int .i64 0), (.int .i64 4)] ∧ Q (.tuple #[(.slice none 0 0), (.int .i64 0), (.int .i64 4)]) M3
  ) (
  OP (fad 0 t7) fun t25 =>
  OP (ld 1 false t25 M3) fun t26 =>
  R F.slices_Clone_sl_byte_byte #[t26] M3 fun t27 M4 =>
  TDj [0, 1] [M3.n, M3.n, M3.n] M3 M4 ∧
  OP (fad 1 t7) fun t28 =>
  OP (ld 1 false t28 M4) fun t29 =>
  NTs [t27, t29, (.int .i64 0)] ∧ Q (.tuple #[t27, t29, (.int .i64 0)]) M4
  )
  )
theorem T_simf_FS_Read {x0 x1 : Value} {M : Store} {Q : Value → Store → Prop} (h : S_simf_FS_Read x0 x1 M Q) : R F.simf_FS_Read #[x0, x1] M Q := by
  refine runs_of (c := bodyOf Try.f91) Try.func91 rfl (by kernel_rfl) (by kernel_rfl) ?_
  unfold At
  exact rule (B := 1000) (N := 30) (ct := .no)
    [⟨1, fun a M => kfin Try.prog Try.f91.results.toList Q 1 a M, fun a M => kfin Try.prog Try.f91.results.toList Q 1 a M⟩]
    [] [1] (by kernel_rfl) (by kernel_rfl) (by kernel_rfl) (by kernel_rfl) (by kernel_rfl)
    ⟨fun _ _ _ h => h,
    trivial⟩
    (cast (by kernel_rfl) h)
def S_sour_Read_begin (x0 : Value) (M : Store) (Q : Value → Store → Prop) : Prop :=
  OP (nilc x0) fun t7 =>
  OP (fad 2 t7) fun t8 =>
  OP (st 1 t8 (.bool false) M) fun M1 =>
  OP (nilc x0) fun t9 =>
  OP (fad 3 t9) fun t10 =>
  OP (st 1 t10 (.int .i64 0) M1) fun M2 =>
  OP (nilc x0) fun t11 =>
  OP (fad 4 t11) fun t12 =>
  OP (st 1 t12 (.slice none 0 0) M2) fun M3 =>
  OP (nilc x0) fun t13 =>
  OP (fad 5 t13) fun t14 =>
  OP (st 1 t14 (.slice none 0 0) M3) fun M4 =>
  NTs [(.int .i64 0)] ∧ Q (.int .i64 0) M4
theorem T_sour_Read_begin {x0 : Value} {M : Store} {Q : Value → Store → Prop} (h : S_sour_Read_begin x0 M Q) : R F.sour_Read_begin #[x0] M Q := by
  refine runs_of (c := bodyOf Try.f110) Try.func110 rfl (by kernel_rfl) (by kernel_rfl) ?_
  unfold At
  exact rule (B := 1000) (N := 15) (ct := .no)
    [⟨1, fun a M => kfin Try.prog Try.f110.results.toList Q 1 a M, fun a M => kfin Try.prog Try.f110.results.toList Q 1 a M⟩]
    [] [1] (by kernel_rfl) (by kernel_rfl) (by kernel_rfl) (by kernel_rfl) (by kernel_rfl)
    ⟨fun _ _ _ h => h,
    trivial⟩
    (cast (by kernel_rfl) h)
end Go.G
