/-  -/
import Derived.Test.YtpacolplhcfamaaPGN
open Go.RowKit
namespace Go.G
open Go.Ab Go.Proofs
set_option linter.unusedVariables false
set_option maxRecDepth 100000
def P_prnt_Print_1 (x5 x14 x15 x16 : Value) (M : Store) (Q : Value → Store → Prop) : Prop :=
  ∀ f : Nat → Value, f 5 = x5 → f 14 = x14 → f 15 = x15 → f 16 = x16 → At Try.prog Ex none Try.f18 [1, 1, 0, 1, 0] ⟨⟨25, f⟩, []⟩ M Q
def P_prnt_Print_2 (x5 : Value) (M : Store) (Q : Value → Store → Prop) : Prop :=
  ∀ f : Nat → Value, f 5 = x5 → At Try.prog Ex none Try.f18 [1, 1, 1] ⟨⟨25, f⟩, []⟩ M Q
def S_prnt_Print (x0 x1 : Value) (M : Store) (Q : Value → Store → Prop) : Prop :=
  R F.acts_Bytes #[x0] M fun t9 M1 =>
  R F.code_Bytes #[(.slice none 0 0), t9] M1 fun t10 M2 =>
  OP (lenV x1) fun t12 =>
  R F.code_Num #[t10, t12] M2 fun t13 M3 =>
  OP (lenV x1) fun t15 =>
  P_prnt_Print_1 t13 x1 t15 (.int .i64 0) M3 Q
theorem T_prnt_Print {x0 x1 : Value} {M : Store} {Q : Value → Store → Prop} (h : S_prnt_Print x0 x1 M Q) : R F.prnt_Print #[x0, x1] M Q := by
  refine runs_of (c := bodyOf Try.f18) Try.func18 rfl (by kernel_rfl) (by kernel_rfl) ?_
  unfold At
  exact rule (B := 1000) (N := 25) (ct := (.two .no (.two .no (.two (.two .no (.two (.here 1000) .no)) (.here 1001)))))
    [⟨1002, fun a M => dfr a.defers (P_prnt_Print_1 (a.get 5) (a.get 14) (a.get 15) (a.get 16) M Q), fun a M => At Try.prog Ex none Try.f18 [1, 1, 0, 1, 0] a M Q⟩,
    ⟨1003, fun _ _ => False, fun a M => At Try.prog Ex none Try.f18 [1, 1, 1] a M Q⟩]
    [1000, 1001] [] (by kernel_rfl) (by kernel_rfl) (by kernel_rfl) (by kernel_rfl) (by kernel_rfl)
    ⟨fun a M hn h => by obtain ⟨⟨n, f⟩, ds⟩ := a; have hn : n = 25 := hn; subst hn; obtain ⟨hd, h⟩ := dfr_iff h; have hd : ds = [] := hd; subst hd; exact h f rfl rfl rfl rfl,
    fun _ _ _ h => h.elim,
    trivial⟩
    (cast (by kernel_rfl) h)
def S_prnt_Print_1 (x5 x14 x15 x16 : Value) (M : Store) (Q : Value → Store → Prop) : Prop :=
  OP (binI .lss x16 x15) fun t17 =>
  BR t17 (
  OP (ixA 1 x14 x16) fun t18 =>
  OP (ld 1 false t18 M) fun t19 =>
  R F.code_Bytes #[x5, t19] M fun t22 M1 =>
  OP (binI .add x16 (.int .i64 1)) fun t23 =>
  P_prnt_Print_1 t22 x14 x15 t23 M1 Q
  ) (
  P_prnt_Print_2 x5 M Q
  )
theorem T_prnt_Print_1 {x5 x14 x15 x16 : Value} {M : Store} {Q : Value → Store → Prop} (h : S_prnt_Print_1 x5 x14 x15 x16 M Q) : P_prnt_Print_1 x5 x14 x15 x16 M Q := by
  intro f h5 h14 h15 h16; subst h5; subst h14; subst h15; subst h16
  unfold At
  refine cast (by kernel_rfl) (CW.loop (P := Try.prog) (E := Ex) (rd := none) (x := sub (bodyOf Try.f18) [1, 1, 0, 1, 0, 0]) (a := ⟨⟨25, f⟩, []⟩) (M := M) (K := kcont Try.prog Ex none (bodyOf Try.f18) [1, 1, 0, 1, 0] (kfin Try.prog Try.f18.results.toList Q)) ?_)
  exact rule (B := 1000) (N := 25) (ct := .no)
    [⟨0, fun a M => dfr a.defers (P_prnt_Print_1 (a.get 5) (a.get 14) (a.get 15) (a.get 16) M Q), fun a M => At Try.prog Ex none Try.f18 [1, 1, 0, 1, 0] a M Q⟩,
    ⟨2, fun a M => dfr a.defers (P_prnt_Print_2 (a.get 5) M Q), fun a M => At Try.prog Ex none Try.f18 [1, 1, 1] a M Q⟩]
    [] [0, 2] (by kernel_rfl) (by kernel_rfl) (by kernel_rfl) (by kernel_rfl) (by kernel_rfl)
    ⟨fun a M hn h => by obtain ⟨⟨n, f⟩, ds⟩ := a; have hn : n = 25 := hn; subst hn; obtain ⟨hd, h⟩ := dfr_iff h; have hd : ds = [] := hd; subst hd; exact h f rfl rfl rfl rfl,
    fun a M hn h => by obtain ⟨⟨n, f⟩, ds⟩ := a; have hn : n = 25 := hn; subst hn; obtain ⟨hd, h⟩ := dfr_iff h; have hd : ds = [] := hd; subst hd; exact h f rfl,
    trivial⟩
    (cast (by kernel_rfl) h)
def S_prnt_Print_2 (x5 : Value) (M : Store) (Q : Value → Store → Prop) : Prop :=
  NTs [x5] ∧ Q x5 M
theorem T_prnt_Print_2 {x5 : Value} {M : Store} {Q : Value → Store → Prop} (h : S_prnt_Print_2 x5 M Q) : P_prnt_Print_2 x5 M Q := by
  intro f h5; subst h5
  unfold At
  exact rule (B := 1000) (N := 25) (ct := .no)
    [⟨1, fun a M => kfin Try.prog Try.f18.results.toList Q 1 a M, fun a M => kfin Try.prog Try.f18.results.toList Q 1 a M⟩]
    [] [1] (by kernel_rfl) (by kernel_rfl) (by kernel_rfl) (by kernel_rfl) (by kernel_rfl)
    ⟨fun _ _ _ h => h,
    trivial⟩
    (cast (by kernel_rfl) h)
def P_fettleref10_Print_1 (x1 x5 x6 : Value) (M : Store) (Q : Value → Store → Prop) : Prop :=
  ∀ f : Nat → Value, f 1 = x1 → f 5 = x5 → f 6 = x6 → At Try.prog Ex none Try.f24 [1, 1, 0, 1, 0] ⟨⟨26, f⟩, []⟩ M Q
def P_fettleref10_Print_2 (x5 : Value) (M : Store) (Q : Value → Store → Prop) : Prop :=
  ∀ f : Nat → Value, f 5 = x5 → At Try.prog Ex none Try.f24 [1, 1, 1] ⟨⟨26, f⟩, []⟩ M Q
def S_fettleref10_Print (x0 x1 : Value) (M : Store) (Q : Value → Store → Prop) : Prop :=
  R F.fettleref4_ActBytes #[x0] M fun t8 M1 =>
  R F.fettleref1_Bytes #[(.slice none 0 0), t8] M1 fun t9 M2 =>
  OP (lenV x1) fun t11 =>
  R F.fettleref1_Num #[t9, t11] M2 fun t12 M3 =>
  P_fettleref10_Print_1 x1 t12 (.int .i64 0) M3 Q
theorem T_fettleref10_Print {x0 x1 : Value} {M : Store} {Q : Value → Store → Prop} (h : S_fettleref10_Print x0 x1 M Q) : R F.fettleref10_Print #[x0, x1] M Q := by
  refine runs_of (c := bodyOf Try.f24) Try.func24 rfl (by kernel_rfl) (by kernel_rfl) ?_
  unfold At
  exact rule (B := 1000) (N := 26) (ct := (.two .no (.two .no (.two (.two .no (.two (.here 1000) .no)) (.here 1001)))))
    [⟨1002, fun a M => dfr a.defers (P_fettleref10_Print_1 (a.get 1) (a.get 5) (a.get 6) M Q), fun a M => At Try.prog Ex none Try.f24 [1, 1, 0, 1, 0] a M Q⟩,
    ⟨1003, fun _ _ => False, fun a M => At Try.prog Ex none Try.f24 [1, 1, 1] a M Q⟩]
    [1000, 1001] [] (by kernel_rfl) (by kernel_rfl) (by kernel_rfl) (by kernel_rfl) (by kernel_rfl)
    ⟨fun a M hn h => by obtain ⟨⟨n, f⟩, ds⟩ := a; have hn : n = 26 := hn; subst hn; obtain ⟨hd, h⟩ := dfr_iff h; have hd : ds = [] := hd; subst hd; exact h f rfl rfl rfl,
    fun _ _ _ h => h.elim,
    trivial⟩
    (cast (by kernel_rfl) h)
def S_fettleref10_Print_1 (x1 x5 x6 : Value) (M : Store) (Q : Value → Store → Prop) : Prop :=
  OP (lenV x1) fun t15 =>
  OP (binI .lss x6 t15) fun t16 =>
  BR t16 (
  OP (ixA 1 x1 x6) fun t22 =>
  OP (ld 1 false t22 M) fun t23 =>
  R F.fettleref1_Bytes #[x5, t23] M fun t24 M1 =>
  OP (binI .add x6 (.int .i64 1)) fun t18 =>
  P_fettleref10_Print_1 x1 t24 t18 M1 Q
  ) (
  P_fettleref10_Print_2 x5 M Q
  )
theorem T_fettleref10_Print_1 {x1 x5 x6 : Value} {M : Store} {Q : Value → Store → Prop} (h : S_fettleref10_Print_1 x1 x5 x6 M Q) : P_fettleref10_Print_1 x1 x5 x6 M Q := by
  intro f h1 h5 h6; subst h1; subst h5; subst h6
  unfold At
  refine cast (by kernel_rfl) (CW.loop (P := Try.prog) (E := Ex) (rd := none) (x := sub (bodyOf Try.f24) [1, 1, 0, 1, 0, 0]) (a := ⟨⟨26, f⟩, []⟩) (M := M) (K := kcont Try.prog Ex none (bodyOf Try.f24) [1, 1, 0, 1, 0] (kfin Try.prog Try.f24.results.toList Q)) ?_)
  exact rule (B := 1000) (N := 26) (ct := .no)
    [⟨0, fun a M => dfr a.defers (P_fettleref10_Print_1 (a.get 1) (a.get 5) (a.get 6) M Q), fun a M => At Try.prog Ex none Try.f24 [1, 1, 0, 1, 0] a M Q⟩,
    ⟨2, fun a M => dfr a.defers (P_fettleref10_Print_2 (a.get 5) M Q), fun a M => At Try.prog Ex none Try.f24 [1, 1, 1] a M Q⟩]
    [] [0, 2] (by kernel_rfl) (by kernel_rfl) (by kernel_rfl) (by kernel_rfl) (by kernel_rfl)
    ⟨fun a M hn h => by obtain ⟨⟨n, f⟩, ds⟩ := a; have hn : n = 26 := hn; subst hn; obtain ⟨hd, h⟩ := dfr_iff h; have hd : ds = [] := hd; subst hd; exact h f rfl rfl rfl,
    fun a M hn h => by obtain ⟨⟨n, f⟩, ds⟩ := a; have hn : n = 26 := hn; subst hn; obtain ⟨hd, h⟩ := dfr_iff h; have hd : ds = [] := hd; subst hd; exact h f rfl,
    trivial⟩
    (cast (by kernel_rfl) h)
def S_fettleref10_Print_2 (x5 : Value) (M : Store) (Q : Value → Store → Prop) : Prop :=
  NTs [x5] ∧ Q x5 M
theorem T_fettleref10_Print_2 {x5 : Value} {M : Store} {Q : Value → Store → Prop} (h : S_fettleref10_Print_2 x5 M Q) : P_fettleref10_Print_2 x5 M Q := by
  intro f h5; subst h5
  unfold At
  exact rule (B := 1000) (N := 26) (ct := .no)
    [⟨1, fun a M => kfin Try.prog Try.f24.results.toList Q 1 a M, fun a M => kfin Try.prog Try.f24.results.toList Q 1 a M⟩]
    [] [1] (by kernel_rfl) (by kernel_rfl) (by kernel_rfl) (by kernel_rfl) (by kernel_rfl)
    ⟨fun _ _ _ h => h,
    trivial⟩
    (cast (by kernel_rfl) h)
def S_bytes_Equal (x0 x1 : Value) (M : Store) (Q : Value → Store → Prop) : Prop :=
  OP (cvBS x0 M) fun t6 =>
  OP (cvBS x1 M) fun t8 =>
  OP (binS .eql t6 t8) fun t9 =>
  NTs [t9] ∧ Q t9 M
theorem T_bytes_Equal {x0 x1 : Value} {M : Store} {Q : Value → Store → Prop} (h : S_bytes_Equal x0 x1 M Q) : R F.bytes_Equal #[x0, x1] M Q := by
  refine runs_of (c := bodyOf Try.f68) Try.func68 rfl (by kernel_rfl) (by kernel_rfl) ?_
  unfold At
  exact rule (B := 1000) (N := 10) (ct := .no)
    [⟨1, fun a M => kfin Try.prog Try.f68.results.toList Q 1 a M, fun a M => kfin Try.prog Try.f68.results.toList Q 1 a M⟩]
    [] [1] (by kernel_rfl) (by kernel_rfl) (by kernel_rfl) (by kernel_rfl) (by kernel_rfl)
    ⟨fun _ _ _ h => h,
    trivial⟩
    (cast (by kernel_rfl) h)
def P_fettleref4_ActBytes_1 (x0 x3 x4 : Value) (M : Store) (Q : Value → Store → Prop) : Prop :=
  ∀ f : Nat → Value, f 0 = x0 → f 3 = x3 → f 4 = x4 → At Try.prog Ex none Try.f72 [1, 1, 0, 1, 0] ⟨⟨35, f⟩, []⟩ M Q
def P_fettleref4_ActBytes_2 (x0 x3 x4 : Value) (M : Store) (Q : Value → Store → Prop) : Prop :=
  ∀ f : Nat → Value, f 0 = x0 → f 3 = x3 → f 4 = x4 → At Try.prog Ex none Try.f72 [1, 1, 0, 1, 0, 0, 1] ⟨⟨35, f⟩, []⟩ M Q
def P_fettleref4_ActBytes_3 (x3 : Value) (M : Store) (Q : Value → Store → Prop) : Prop :=
  ∀ f : Nat → Value, f 3 = x3 → At Try.prog Ex none Try.f72 [1, 1, 1] ⟨⟨35, f⟩, []⟩ M Q
def S_fettleref4_ActBytes (x0 : Value) (M : Store) (Q : Value → Store → Prop) : Prop :=
  OP (lenV x0) fun t6 =>
  R F.fettleref1_Num #[(.slice none 0 0), t6] M fun t7 M1 =>
  P_fettleref4_ActBytes_1 x0 t7 (.int .i64 0) M1 Q
theorem T_fettleref4_ActBytes {x0 : Value} {M : Store} {Q : Value → Store → Prop} (h : S_fettleref4_ActBytes x0 M Q) : R F.fettleref4_ActBytes #[x0] M Q := by
  refine runs_of (c := bodyOf Try.f72) Try.func72 rfl (by kernel_rfl) (by kernel_rfl) ?_
  unfold At
  exact rule (B := 1000) (N := 35) (ct := (.two .no (.two .no (.two (.two .no (.two (.here 1000) .no)) (.here 1001)))))
    [⟨1002, fun a M => dfr a.defers (P_fettleref4_ActBytes_1 (a.get 0) (a.get 3) (a.get 4) M Q), fun a M => At Try.prog Ex none Try.f72 [1, 1, 0, 1, 0] a M Q⟩,
    ⟨1003, fun _ _ => False, fun a M => At Try.prog Ex none Try.f72 [1, 1, 1] a M Q⟩]
    [1000, 1001] [] (by kernel_rfl) (by kernel_rfl) (by kernel_rfl) (by kernel_rfl) (by kernel_rfl)
    ⟨fun a M hn h => by obtain ⟨⟨n, f⟩, ds⟩ := a; have hn : n = 35 := hn; subst hn; obtain ⟨hd, h⟩ := dfr_iff h; have hd : ds = [] := hd; subst hd; exact h f rfl rfl rfl,
    fun _ _ _ h => h.elim,
    trivial⟩
    (cast (by kernel_rfl) h)
def S_fettleref4_ActBytes_1 (x0 x3 x4 : Value) (M : Store) (Q : Value → Store → Prop) : Prop :=
  OP (lenV x0) fun t10 =>
  OP (binI .lss x4 t10) fun t11 =>
  BR t11 (
  P_fettleref4_ActBytes_2 x0 x3 x4 M Q
  ) (
  P_fettleref4_ActBytes_3 x3 M Q
  )
theorem T_fettleref4_ActBytes_1 {x0 x3 x4 : Value} {M : Store} {Q : Value → Store → Prop} (h : S_fettleref4_ActBytes_1 x0 x3 x4 M Q) : P_fettleref4_ActBytes_1 x0 x3 x4 M Q := by
  intro f h0 h3 h4; subst h0; subst h3; subst h4
  unfold At
  refine cast (by kernel_rfl) (CW.loop (P := Try.prog) (E := Ex) (rd := none) (x := sub (bodyOf Try.f72) [1, 1, 0, 1, 0, 0]) (a := ⟨⟨35, f⟩, []⟩) (M := M) (K := kcont Try.prog Ex none (bodyOf Try.f72) [1, 1, 0, 1, 0] (kfin Try.prog Try.f72.results.toList Q)) ?_)
  exact rule (B := 1000) (N := 35) (ct := (.two .no (.here 1000)))
    [⟨1002, fun a M => dfr a.defers (P_fettleref4_ActBytes_2 (a.get 0) (a.get 3) (a.get 4) M Q), fun a M => At Try.prog Ex none Try.f72 [1, 1, 0, 1, 0, 0, 1] a M Q⟩,
    ⟨2, fun a M => dfr a.defers (P_fettleref4_ActBytes_3 (a.get 3) M Q), fun a M => At Try.prog Ex none Try.f72 [1, 1, 1] a M Q⟩]
    [1000] [2] (by kernel_rfl) (by kernel_rfl) (by kernel_rfl) (by kernel_rfl) (by kernel_rfl)
    ⟨fun a M hn h => by obtain ⟨⟨n, f⟩, ds⟩ := a; have hn : n = 35 := hn; subst hn; obtain ⟨hd, h⟩ := dfr_iff h; have hd : ds = [] := hd; subst hd; exact h f rfl rfl rfl,
    fun a M hn h => by obtain ⟨⟨n, f⟩, ds⟩ := a; have hn : n = 35 := hn; subst hn; obtain ⟨hd, h⟩ := dfr_iff h; have hd : ds = [] := hd; subst hd; exact h f rfl,
    trivial⟩
    (cast (by kernel_rfl) h)
def S_fettleref4_ActBytes_2 (x0 x3 x4 : Value) (M : Store) (Q : Value → Store → Prop) : Prop :=
  OP (ixA 3 x0 x4) fun t17 =>
  OP (fad 0 t17) fun t18 =>
  OP (ld 1 false t18 M) fun t19 =>
  R F.fettleref1_Num #[x3, t19] M fun t20 M1 =>
  TDj [0, 1, 2, 3, 4, 5] [M.n, M.n, M.n, M.n, M.n, M.n, M.n] M M1 ∧
  OP (ixA 3 x0 x4) fun t23 =>
  OP (fad 1 t23) fun t24 =>
  OP (ld 1 false t24 M1) fun t25 =>
  R F.fettleref1_Num #[t20, t25] M1 fun t26 M2 =>
  TDj [0, 1, 2, 3, 4, 5, 6, 7, 8, 9, 10, 11] [M.n, M.n, M.n, M.n, M.n, M.n, M.n, M1.n, M1.n, M1.n, M1.n, M1.n, M1.n] M1 M2 ∧
  OP (ixA 3 x0 x4) fun t29 =>
  OP (fad 2 t29) fun t30 =>
  OP (ld 1 false t30 M2) fun t31 =>
  OP2 (cvSB Ty.uint8 t31 M2) fun t32 M3 =>
  R F.fettleref1_Bytes #[t26, t32] M3 fun t33 M4 =>
  TDx [0, 0, 0, 6, 14, 30, 63, 0, 0, 384, 896, 1920, 4095, 0, 0, 24576, 57344, 122880, 253952, 524287, 1048575] [M.n, M.n, M.n, M.n, M.n, M.n, M.n, M1.n, M1.n, M1.n, M1.n, M1.n, M1.n, M2.n, M2.n, M2.n, M2.n, M2.n, M2.n, M3.n] 19 M3 M4 ∧
  OP (binI .add x4 (.int .i64 1)) fun t13 =>
  P_fettleref4_ActBytes_1 x0 t33 t13 M4 Q
theorem T_fettleref4_ActBytes_2 {x0 x3 x4 : Value} {M : Store} {Q : Value → Store → Prop} (h : S_fettleref4_ActBytes_2 x0 x3 x4 M Q) : P_fettleref4_ActBytes_2 x0 x3 x4 M Q := by
  intro f h0 h3 h4; subst h0; subst h3; subst h4
  unfold At
  exact rule (B := 1000) (N := 35) (ct := .no)
    [⟨0, fun a M => dfr a.defers (P_fettleref4_ActBytes_1 (a.get 0) (a.get 3) (a.get 4) M Q), fun a M => At Try.prog Ex none Try.f72 [1, 1, 0, 1, 0] a M Q⟩]
    [] [0] (by kernel_rfl) (by kernel_rfl) (by kernel_rfl) (by kernel_rfl) (by kernel_rfl)
    ⟨fun a M hn h => by obtain ⟨⟨n, f⟩, ds⟩ := a; have hn : n = 35 := hn; subst hn; obtain ⟨hd, h⟩ := dfr_iff h; have hd : ds = [] := hd; subst hd; exact h f rfl rfl rfl,
    trivial⟩
    (cast (by kernel_rfl) h)
def S_fettleref4_ActBytes_3 (x3 : Value) (M : Store) (Q : Value → Store → Prop) : Prop :=
  NTs [x3] ∧ Q x3 M
theorem T_fettleref4_ActBytes_3 {x3 : Value} {M : Store} {Q : Value → Store → Prop} (h : S_fettleref4_ActBytes_3 x3 M Q) : P_fettleref4_ActBytes_3 x3 M Q := by
  intro f h3; subst h3
  unfold At
  exact rule (B := 1000) (N := 35) (ct := .no)
    [⟨1, fun a M => kfin Try.prog Try.f72.results.toList Q 1 a M, fun a M => kfin Try.prog Try.f72.results.toList Q 1 a M⟩]
    [] [1] (by kernel_rfl) (by kernel_rfl) (by kernel_rfl) (by kernel_rfl) (by kernel_rfl)
    ⟨fun _ _ _ h => h,
    trivial⟩
    (cast (by kernel_rfl) h)
end Go.G
