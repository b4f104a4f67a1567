/-  -/
import Derived.Test.YtpacolplhcfamaaPGN
open Go.RowKit
namespace Go.G
open Go.Ab Go.Proofs
set_option linter.unusedVariables false
set_option maxRecDepth 100000
def P_prnt_Print_1 (x5 x14 x15 x16 : Value) (M : Store) (Q : Value → Store → Prop) : Prop :=
  ∀ f : Nat → Value, f 5 = x5 → f 14 = x14 → f 15 = x15 → f 16 = x16 → At Try.prog Ex none Try.f18 [1, 1, 0, 1, 0] ⟨⟨25, f⟩, []⟩ M Q
def P_prnt_Print_2 (x5 : Value) (M : Store) (Q : Value → Store → Prop) : Prop :=
  ∀ f : Nat → Value, f 5 = x5 → At Try.prog Ex none Try.f18 [1, 1, 1] ⟨⟨25, f⟩, []⟩ M Q
def S_prnt_Print (x0 x1 : Value) (M : Store) (Q : Value → Store → Prop) : Prop :=
  R F.acts_Bytes #[x0] M fun t9 M1 =>
  R F.code_Bytes #[(.slice none 0 0), t9] M1 fun t10 M2 =>
  OP (lenV x1) fun t12 =>
  R F.code_Num #[t10, t12] M2 fun t13 M3 =>
  OP (lenV x1) fun t15 =>
  P_prnt_Print_1 t13 x1 t15 (.int .i64 0) M3 Q
theorem T_prnt_Print {x0 x1 : Value} {M : Store} {Q : Value → Store → Prop} (h : S_prnt_Print x0 x1 M Q) : R F.prnt_Print #[x0, x1] M Q := by
  refine runs_of (c := bodyOf Try.f18) Try.func18 rfl (by kernel_rfl) (by kernel_rfl) ?_
  unfold At
  exact rule (B := 1000) (N := 25) (ct := (.two .no (.two .no (.two (.two .no (.two (.here 1000) .no)) (.here 1001)))))
    [⟨1002, fun a M => dfr a.defers (P_prnt_Print_1 (a.get 5) (a.get 14) (a.get 15) (a.get 16) M Q), fun a M => At Try.prog Ex none Try.f18 [1, 1, 0, 1, 0] a M Q⟩,
    ⟨1003, fun _ _ => False, fun a M => At Try.prog Ex none Try.f18 [1, 1, 1] a M Q⟩]
    [1000, 1001] [] (by kernel_rfl) (by kernel_rfl) (by kernel_rfl) (by kernel_rfl) (by kernel_rfl)
    ⟨fun a M hn h => by obtain ⟨⟨n, f⟩, ds⟩ := a; have hn : n = 25 := hn; subst hn; obtain ⟨hd, h⟩ := dfr_iff h; have hd : ds = [] := hd; subst hd; exact h f rfl rfl rfl rfl,
    fun _ _ _ h => h.elim,
    trivial⟩
    (cast (by kernel_rfl) h)
def S_prnt_Print_1 (x5 x14 x15 x16 : Value) (M : Store) (Q : Value → Store → Prop) : Prop :=
  OP (binI .lss x16 x15) fun t17 =>
  BR t17 (
  OP (ixA 1 x14 x16) fun t18 =>
  OP (ld 1 false t18 M) fun t19 =>
  R F.code_Bytes #[x5, t19] M fun t22 M1 =>
  OP (binI .add x16 (.int .i64 1)) fun t23 =>
  P_prnt_Print_1 t22 x14 x15 t23 M1 Q
  ) (
  P_prnt_Print_2 x5 M Q
  )
theorem T_prnt_Print_1 {x5 x14 x15 x16 : Value} {M : Store} {Q : Value → Store → Prop} (h : S_prnt_Print_1 x5 x14 x15 x16 M Q) : P_prnt_Print_1 x5 x14 x15 x16 M Q := by
  intro f h5 h14 h15 h16; subst h5; subst h14; subst h15; subst h16
  unfold At
  refine cast (by kernel_rfl) (CW.loop (P := Try.prog) (E := Ex) (rd := none) (x := sub (bodyOf Try.f18) [1, 1, 0, 1, 0, 0]) (a := ⟨⟨25, f⟩, []⟩) (M := M) (K := kcont Try.prog Ex none (bodyOf Try.f18) [1, 1, 0, 1, 0] (kfin Try.prog Try.f18.results.toList Q)) ?_)
  exact rule (B := 1000) (N := 25) (ct := .no)
    [⟨0, fun a M => dfr a.defers (P_prnt_Print_1 (a.get 5) (a.get 14) (a.get 15) (a.get 16) M Q), fun a M => At Try.prog Ex none Try.f18 [1, 1, 0, 1, 0] a M Q⟩,
    ⟨2, fun a M => dfr a.defers (P_prnt_Print_2 (a.get 5) M Q), fun a M => At Try.prog Ex none Try.f18 [1, 1, 1] a M Q⟩]
    [] [0, 2] (by kernel_rfl) (by kernel_rfl) (by kernel_rfl) (by kernel_rfl) (by kernel_rfl)
    ⟨fun a M hn h => by obtain ⟨⟨n, f⟩, ds⟩ := a; have hn : n = 25 := hn; subst hn; obtain ⟨hd, h⟩ := dfr_iff h; have hd : ds = [] := hd; subst hd; exact h f rfl rfl rfl rfl,
    fun a M hn h => by obtain ⟨⟨n, f⟩, ds⟩ := a; have hn : n = 25 := hn; subst hn; obtain ⟨hd, h⟩ := dfr_iff h; have hd : ds = [] := hd; subst hd; exact h f rfl,
    trivial⟩
    (cast (by kernel_rfl) h)
def S_prnt_Print_2 (x5 : Value) (M : Store) (Q : Value → Store → Prop) : Prop :=
  NTs [x5] ∧ Q x5 M
theorem T_prnt_Print_2 {x5 : Value} {M : Store} {Q : Value → Store → Prop} (h : S_prnt_Print_2 x5 M Q) : P_prnt_Print_2 x5 M Q := by
  intro f h5; subst h5
  unfold At
  exact rule (B := 1000) (N := 25) (ct := .no)
    [⟨1, fun a M => kfin Try.prog Try.f18.results.toList Q 1 a M, fun a M => kfin Try.prog Try.f18.results.toList Q 1 a M⟩]
    [] [1] (by kernel_rfl) (by kernel_rfl) (by kernel_rfl) (by kernel_rfl) (by kernel_rfl)
    ⟨fun _ _ _ h => h,
    trivial⟩
    (cast (by kernel_rfl) h)
def P_prnt_Parse_1 (x0 x5 x6 x7 x8 x18 x19 : Value) (M : Store) (Q : Value → Store → Prop) : Prop :=
  ∀ f : Nat → Value, f 0 = x0 → f 5 = x5 → f 6 = x6 → f 7 = x7 → f 8 = x8 → f 18 = x18 → f 19 = x19 → At Try.prog Ex none Try.f19 [1, 1, 1, 1, 0, 1, 0] ⟨⟨44, f⟩, []⟩ M Q
def P_prnt_Parse_2 (x0 x5 x6 x7 x8 : Value) (M : Store) (Q : Value → Store → Prop) : Prop :=
  ∀ f : Nat → Value, f 0 = x0 → f 5 = x5 → f 6 = x6 → f 7 = x7 → f 8 = x8 → At Try.prog Ex none Try.f19 [1, 1, 1, 1, 1] ⟨⟨44, f⟩, []⟩ M Q
def S_prnt_Parse (x0 : Value) (M : Store) (Q : Value → Store → Prop) : Prop :=
  R F.code_Read #[x0] M fun t10 M1 =>
  R F.code_Reader_Bytes #[t10, (.int .i64 4000)] M1 fun t13 M2 =>
  R F.prnt_action #[t13] M2 fun t14 M3 =>
  OP (tup t14 0) fun t15 =>
  OP (tup t14 1) fun t16 =>
  R F.code_Reader_Num #[t10, (.int .i64 8)] M3 fun t18 M4 =>
  P_prnt_Parse_1 x0 t10 t15 t16 (.slice none 0 0) t18 (.int .i64 0) M4 Q
theorem T_prnt_Parse {x0 : Value} {M : Store} {Q : Value → Store → Prop} (h : S_prnt_Parse x0 M Q) : R F.prnt_Parse #[x0] M Q := by
  refine runs_of (c := bodyOf Try.f19) Try.func19 rfl (by kernel_rfl) (by kernel_rfl) ?_
  unfold At
  exact rule (B := 1000) (N := 44) (ct := (.two .no (.two .no (.two .no (.two .no (.two (.two .no (.two (.here 1000) .no)) (.here 1001)))))))
    [⟨1002, fun a M => dfr a.defers (P_prnt_Parse_1 (a.get 0) (a.get 5) (a.get 6) (a.get 7) (a.get 8) (a.get 18) (a.get 19) M Q), fun a M => At Try.prog Ex none Try.f19 [1, 1, 1, 1, 0, 1, 0] a M Q⟩,
    ⟨1003, fun _ _ => False, fun a M => At Try.prog Ex none Try.f19 [1, 1, 1, 1, 1] a M Q⟩]
    [1000, 1001] [] (by kernel_rfl) (by kernel_rfl) (by kernel_rfl) (by kernel_rfl) (by kernel_rfl)
    ⟨fun a M hn h => by obtain ⟨⟨n, f⟩, ds⟩ := a; have hn : n = 44 := hn; subst hn; obtain ⟨hd, h⟩ := dfr_iff h; have hd : ds = [] := hd; subst hd; exact h f rfl rfl rfl rfl rfl rfl rfl,
    fun _ _ _ h => h.elim,
    trivial⟩
    (cast (by kernel_rfl) h)
def S_prnt_Parse_1 (x0 x5 x6 x7 x8 x18 x19 : Value) (M : Store) (Q : Value → Store → Prop) : Prop :=
  OP (binI .lss x19 x18) fun t20 =>
  BR t20 (
  R F.code_Reader_Bytes #[x5, (.int .i64 256)] M fun t23 M1 =>
  OP (bldL (.slice none 0 0) 1 1 [(0, t23)]) fun c =>
  LT (.slice (some ⟨M1.n, 0, none⟩) 1 1) (M1.push (some (.inl (c, Ty.sl_uint8, true)))) fun t24 M2 =>
  OP2 (appV 1 Ty.sl_uint8 x8 t24 M2) fun t25 M3 =>
  OP (binI .add x19 (.int .i64 1)) fun t26 =>
  P_prnt_Parse_1 x0 x5 x6 x7 t25 x18 t26 M3 Q
  ) (
  P_prnt_Parse_2 x0 x5 x6 x7 x8 M Q
  )
theorem T_prnt_Parse_1 {x0 x5 x6 x7 x8 x18 x19 : Value} {M : Store} {Q : Value → Store → Prop} (h : S_prnt_Parse_1 x0 x5 x6 x7 x8 x18 x19 M Q) : P_prnt_Parse_1 x0 x5 x6 x7 x8 x18 x19 M Q := by
  intro f h0 h5 h6 h7 h8 h18 h19; subst h0; subst h5; subst h6; subst h7; subst h8; subst h18; subst h19
  unfold At
  refine cast (by kernel_rfl) (CW.loop (P := Try.prog) (E := Ex) (rd := none) (x := sub (bodyOf Try.f19) [1, 1, 1, 1, 0, 1, 0, 0]) (a := ⟨⟨44, f⟩, []⟩) (M := M) (K := kcont Try.prog Ex none (bodyOf Try.f19) [1, 1, 1, 1, 0, 1, 0] (kfin Try.prog Try.f19.results.toList Q)) ?_)
  exact rule (B := 1000) (N := 44) (ct := .no)
    [⟨0, fun a M => dfr a.defers (P_prnt_Parse_1 (a.get 0) (a.get 5) (a.get 6) (a.get 7) (a.get 8) (a.get 18) (a.get 19) M Q), fun a M => At Try.prog Ex none Try.f19 [1, 1, 1, 1, 0, 1, 0] a M Q⟩,
    ⟨2, fun a M => dfr a.defers (P_prnt_Parse_2 (a.get 0) (a.get 5) (a.get 6) (a.get 7) (a.get 8) M Q), fun a M => At Try.prog Ex none Try.f19 [1, 1, 1, 1, 1] a M Q⟩]
    [] [0, 2] (by kernel_rfl) (by kernel_rfl) (by kernel_rfl) (by kernel_rfl) (by kernel_rfl)
    ⟨fun a M hn h => by obtain ⟨⟨n, f⟩, ds⟩ := a; have hn : n = 44 := hn; subst hn; obtain ⟨hd, h⟩ := dfr_iff h; have hd : ds = [] := hd; subst hd; exact h f rfl rfl rfl rfl rfl rfl rfl,
    fun a M hn h => by obtain ⟨⟨n, f⟩, ds⟩ := a; have hn : n = 44 := hn; subst hn; obtain ⟨hd, h⟩ := dfr_iff h; have hd : ds = [] := hd; subst hd; exact h f rfl rfl rfl rfl rfl,
    trivial⟩
    (cast (by kernel_rfl) h)
def S_prnt_Parse_2 (x0 x5 x6 x7 x8 : Value) (M : Store) (Q : Value → Store → Prop) : Prop :=
  OP (aun .not x7) fun t28 =>
  BR t28 (
  NTs [(.slice none 0 0), (.slice none 0 0), (.bool false)] ∧ Q (.tuple #[(.slice none 0 0), (.slice none 0 0), (.bool false)]) M
  ) (
  R F.code_Reader_End #[x5] M fun t31 M1 =>
  OP (aun .not t31) fun t32 =>
  BR t32 (
  NTs [(.slice none 0 0), (.slice none 0 0), (.bool false)] ∧ Q (.tuple #[(.slice none 0 0), (.slice none 0 0), (.bool false)]) M1
  ) (
  R F.prnt_Print #[x6, x8] M1 fun t37 M2 =>
  R F.bytes_Equal #[t37, x0] M2 fun t39 M3 =>
  OP (aun .not t39) fun t40 =>
  BR t40 (
  NTs [(.slice none 0 0), (.slice none 0 0), (.bool false)] ∧ Q (.tuple #[(.slice none 0 0), (.slice none 0 0), (.bool false)]) M3
  ) (
  NTs [x6, x8, (.bool true)] ∧ Q (.tuple #[x6, x8, (.bool true)]) M3
  )
  )
  )
theorem T_prnt_Parse_2 {x0 x5 x6 x7 x8 : Value} {M : Store} {Q : Value → Store → Prop} (h : S_prnt_Parse_2 x0 x5 x6 x7 x8 M Q) : P_prnt_Parse_2 x0 x5 x6 x7 x8 M Q := by
  intro f h0 h5 h6 h7 h8; subst h0; subst h5; subst h6; subst h7; subst h8
  unfold At
  exact rule (B := 1000) (N := 44) (ct := .no)
    [⟨1, fun a M => kfin Try.prog Try.f19.results.toList Q 1 a M, fun a M => kfin Try.prog Try.f19.results.toList Q 1 a M⟩]
    [] [1] (by kernel_rfl) (by kernel_rfl) (by kernel_rfl) (by kernel_rfl) (by kernel_rfl)
    ⟨fun _ _ _ h => h,
    trivial⟩
    (cast (by kernel_rfl) h)
def S_prnt_Value (x0 : Value) (M : Store) (Q : Value → Store → Prop) : Prop :=
  R F.prnt_Parse #[x0] M fun t9 M1 =>
  OP (tup t9 0) fun t10 =>
  OP (tup t9 1) fun t11 =>
  OP (tup t9 2) fun t12 =>
  OP (aun .not t12) fun t14 =>
  BR t14 (
  NTs [(.slice none 0 0), (.bool false)] ∧ Q (.tuple #[(.slice none 0 0), (.bool false)]) M1
  ) (
  R F.acts_Run #[t10, t11] M1 fun t17 M2 =>
  OP (tup t17 0) fun t18 =>
  OP (tup t17 1) fun t19 =>
  NTs [t18, t19] ∧ Q (.tuple #[t18, t19]) M2
  )
theorem T_prnt_Value {x0 : Value} {M : Store} {Q : Value → Store → Prop} (h : S_prnt_Value x0 M Q) : R F.prnt_Value #[x0] M Q := by
  refine runs_of (c := bodyOf Try.f20) Try.func20 rfl (by kernel_rfl) (by kernel_rfl) ?_
  unfold At
  exact rule (B := 1000) (N := 20) (ct := .no)
    [⟨1, fun a M => kfin Try.prog Try.f20.results.toList Q 1 a M, fun a M => kfin Try.prog Try.f20.results.toList Q 1 a M⟩]
    [] [1] (by kernel_rfl) (by kernel_rfl) (by kernel_rfl) (by kernel_rfl) (by kernel_rfl)
    ⟨fun _ _ _ h => h,
    trivial⟩
    (cast (by kernel_rfl) h)
def P_fettlelaw6_Act_1 (x0 x3 x4 x5 : Value) (M : Store) (Q : Value → Store → Prop) : Prop :=
  ∀ f : Nat → Value, f 0 = x0 → f 3 = x3 → f 4 = x4 → f 5 = x5 → At Try.prog Ex none Try.f23 [1, 1, 1, 0, 1, 0] ⟨⟨82, f⟩, []⟩ M Q
def P_fettlelaw6_Act_2 (x0 x3 x4 x5 : Value) (M : Store) (Q : Value → Store → Prop) : Prop :=
  ∀ f : Nat → Value, f 0 = x0 → f 3 = x3 → f 4 = x4 → f 5 = x5 → At Try.prog Ex none Try.f23 [1, 1, 1, 0, 1, 0, 0, 1] ⟨⟨82, f⟩, []⟩ M Q
def P_fettlelaw6_Act_3 (x3 : Value) (M : Store) (Q : Value → Store → Prop) : Prop :=
  ∀ f : Nat → Value, f 3 = x3 → At Try.prog Ex none Try.f23 [1, 1, 1, 1] ⟨⟨82, f⟩, []⟩ M Q
def P_fettlelaw6_Act_4 (x0 x3 x4 x5 x6 x7 : Value) (M : Store) (Q : Value → Store → Prop) : Prop :=
  ∀ f : Nat → Value, f 0 = x0 → f 3 = x3 → f 4 = x4 → f 5 = x5 → f 6 = x6 → f 7 = x7 → At Try.prog Ex none Try.f23 [1, 1, 1, 0, 1, 0, 0, 1, 0, 0, 1, 1, 1] ⟨⟨82, f⟩, []⟩ M Q
def P_fettlelaw6_Act_5 (x0 x3 x4 x5 x6 x7 : Value) (M : Store) (Q : Value → Store → Prop) : Prop :=
  ∀ f : Nat → Value, f 0 = x0 → f 3 = x3 → f 4 = x4 → f 5 = x5 → f 6 = x6 → f 7 = x7 → At Try.prog Ex none Try.f23 [1, 1, 1, 0, 1, 0, 0, 1, 0, 0, 1, 1, 1, 1] ⟨⟨82, f⟩, []⟩ M Q
def P_fettlelaw6_Act_6 (x0 x3 x4 x5 x6 x7 x45 x46 : Value) (M : Store) (Q : Value → Store → Prop) : Prop :=
  ∀ f : Nat → Value, f 0 = x0 → f 3 = x3 → f 4 = x4 → f 5 = x5 → f 6 = x6 → f 7 = x7 → f 45 = x45 → f 46 = x46 → At Try.prog Ex none Try.f23 [1, 1, 1, 0, 1, 0, 0, 1, 0, 0, 1, 1, 1, 1, 0, 1, 0, 1] ⟨⟨82, f⟩, []⟩ M Q
def P_fettlelaw6_Act_7 (x0 x3 x4 x5 x7 : Value) (M : Store) (Q : Value → Store → Prop) : Prop :=
  ∀ f : Nat → Value, f 0 = x0 → f 3 = x3 → f 4 = x4 → f 5 = x5 → f 7 = x7 → At Try.prog Ex none Try.f23 [1, 1, 1, 0, 1, 0, 0, 1, 0, 0, 1, 1, 1, 1, 1] ⟨⟨82, f⟩, []⟩ M Q
def P_fettlelaw6_Act_8 (x0 x3 x4 x5 : Value) (M : Store) (Q : Value → Store → Prop) : Prop :=
  ∀ f : Nat → Value, f 0 = x0 → f 3 = x3 → f 4 = x4 → f 5 = x5 → At Try.prog Ex none Try.f23 [1, 1, 1, 0, 1, 0, 0, 1, 1] ⟨⟨82, f⟩, []⟩ M Q
def S_fettlelaw6_Act (x0 : Value) (M : Store) (Q : Value → Store → Prop) : Prop :=
  OP (bldL (.string ⟨#[]⟩) 1 6 [(0, (.string ⟨#[]⟩)), (1, (.string ⟨#[97]⟩)), (2, (.string ⟨#[104, 105, 32, 116, 104, 101, 114, 101]⟩)), (3, (.string ⟨#[45]⟩)), (4, (.string ⟨#[120, 121, 122]⟩)), (5, (.string ⟨#[48, 49, 50, 51, 52, 53, 54, 55, 56, 57, 48, 49, 50, 51, 52, 53, 54, 55, 56, 57, 48, 49, 50, 51, 52, 53, 54, 55, 56, 57, 48, 49, 50, 51, 52, 53, 54, 55, 56, 57, 48, 49, 50, 51, 52, 53, 54, 55, 56, 57, 48, 49, 50, 51, 52, 53, 54, 55, 56, 57, 48, 49, 50, 51]⟩))]) fun c =>
  LT (.slice (some ⟨M.n, 0, none⟩) 6 6) (M.push (some (.inl (c, Ty.string, true)))) fun t8 M1 =>
  P_fettlelaw6_Act_1 x0 (.slice none 0 0) t8 (.int .i64 0) M1 Q
theorem T_fettlelaw6_Act {x0 : Value} {M : Store} {Q : Value → Store → Prop} (h : S_fettlelaw6_Act x0 M Q) : R F.fettlelaw6_Act #[x0] M Q := by
  refine runs_of (c := bodyOf Try.f23) Try.func23 rfl (by kernel_rfl) (by kernel_rfl) ?_
  unfold At
  exact rule (B := 1000) (N := 82) (ct := (.two .no (.two .no (.two .no (.two (.two .no (.two (.here 1000) .no)) (.here 1001))))))
    [⟨1002, fun a M => dfr a.defers (P_fettlelaw6_Act_1 (a.get 0) (a.get 3) (a.get 4) (a.get 5) M Q), fun a M => At Try.prog Ex none Try.f23 [1, 1, 1, 0, 1, 0] a M Q⟩,
    ⟨1003, fun _ _ => False, fun a M => At Try.prog Ex none Try.f23 [1, 1, 1, 1] a M Q⟩]
    [1000, 1001] [] (by kernel_rfl) (by kernel_rfl) (by kernel_rfl) (by kernel_rfl) (by kernel_rfl)
    ⟨fun a M hn h => by obtain ⟨⟨n, f⟩, ds⟩ := a; have hn : n = 82 := hn; subst hn; obtain ⟨hd, h⟩ := dfr_iff h; have hd : ds = [] := hd; subst hd; exact h f rfl rfl rfl rfl,
    fun _ _ _ h => h.elim,
    trivial⟩
    (cast (by kernel_rfl) h)
def S_fettlelaw6_Act_1 (x0 x3 x4 x5 : Value) (M : Store) (Q : Value → Store → Prop) : Prop :=
  OP (lenV x0) fun t11 =>
  OP (binI .lss x5 t11) fun t12 =>
  BR t12 (
  OP (binI .lss x5 (.int .i64 6)) fun t15 =>
  BR t15 (
  P_fettlelaw6_Act_2 x0 x3 x4 x5 M Q
  ) (
  P_fettlelaw6_Act_3 x3 M Q
  )
  ) (
  P_fettlelaw6_Act_3 x3 M Q
  )
theorem T_fettlelaw6_Act_1 {x0 x3 x4 x5 : Value} {M : Store} {Q : Value → Store → Prop} (h : S_fettlelaw6_Act_1 x0 x3 x4 x5 M Q) : P_fettlelaw6_Act_1 x0 x3 x4 x5 M Q := by
  intro f h0 h3 h4 h5; subst h0; subst h3; subst h4; subst h5
  unfold At
  refine cast (by kernel_rfl) (CW.loop (P := Try.prog) (E := Ex) (rd := none) (x := sub (bodyOf Try.f23) [1, 1, 1, 0, 1, 0, 0]) (a := ⟨⟨82, f⟩, []⟩) (M := M) (K := kcont Try.prog Ex none (bodyOf Try.f23) [1, 1, 1, 0, 1, 0] (kfin Try.prog Try.f23.results.toList Q)) ?_)
  exact rule (B := 1000) (N := 82) (ct := (.two .no (.here 1000)))
    [⟨1002, fun a M => dfr a.defers (P_fettlelaw6_Act_2 (a.get 0) (a.get 3) (a.get 4) (a.get 5) M Q), fun a M => At Try.prog Ex none Try.f23 [1, 1, 1, 0, 1, 0, 0, 1] a M Q⟩,
    ⟨2, fun a M => dfr a.defers (P_fettlelaw6_Act_3 (a.get 3) M Q), fun a M => At Try.prog Ex none Try.f23 [1, 1, 1, 1] a M Q⟩]
    [1000] [2] (by kernel_rfl) (by kernel_rfl) (by kernel_rfl) (by kernel_rfl) (by kernel_rfl)
    ⟨fun a M hn h => by obtain ⟨⟨n, f⟩, ds⟩ := a; have hn : n = 82 := hn; subst hn; obtain ⟨hd, h⟩ := dfr_iff h; have hd : ds = [] := hd; subst hd; exact h f rfl rfl rfl rfl,
    fun a M hn h => by obtain ⟨⟨n, f⟩, ds⟩ := a; have hn : n = 82 := hn; subst hn; obtain ⟨hd, h⟩ := dfr_iff h; have hd : ds = [] := hd; subst hd; exact h f rfl,
    trivial⟩
    (cast (by kernel_rfl) h)
def S_fettlelaw6_Act_2 (x0 x3 x4 x5 : Value) (M : Store) (Q : Value → Store → Prop) : Prop :=
  OP (ixA 1 x0 x5) fun t21 =>
  OP (ld 1 false t21 M) fun t22 =>
  OP (binI .and t22 (.int .i64 7)) fun t24 =>
  OP (binI .add (.int .i64 4) t24) fun t25 =>
  OP (bldS #[(.int .i64 0), (.int .i64 0), (.string ⟨#[]⟩)] [(0, 1), (1, 1), (2, 1)] [(0, t25)]) fun t26 =>
  LT (.pointer (some ⟨M.n, 0, none⟩)) (M.push (some (.inl ([(.int .i64 0), (.int .i64 0), (.string ⟨#[]⟩)], Ty.api_Do, true)))) fun t7 M1 =>
  OP (st 3 t7 t26 M1) fun M2 =>
  OP (binI .eql x5 (.int .i64 0)) fun t28 =>
  BR t28 (
  OP (binI .and t22 (.int .i64 255)) fun t30 =>
  OP (binI .rem t30 (.int .i64 3)) fun t31 =>
  OP (binI .add (.int .i64 1) t31) fun t32 =>
  OP (fad 0 t7) fun t33 =>
  OP (st 1 t33 t32 M2) fun M3 =>
  P_fettlelaw6_Act_4 x0 x3 x4 x5 t22 t7 M3 Q
  ) (
  P_fettlelaw6_Act_4 x0 x3 x4 x5 t22 t7 M2 Q
  )
theorem T_fettlelaw6_Act_2 {x0 x3 x4 x5 : Value} {M : Store} {Q : Value → Store → Prop} (h : S_fettlelaw6_Act_2 x0 x3 x4 x5 M Q) : P_fettlelaw6_Act_2 x0 x3 x4 x5 M Q := by
  intro f h0 h3 h4 h5; subst h0; subst h3; subst h4; subst h5
  unfold At
  exact rule (B := 1000) (N := 82) (ct := (.two (.two (.two .no (.two .no (.two .no (.here 1000)))) .no) (.here 1001)))
    [⟨1002, fun a M => dfr a.defers (P_fettlelaw6_Act_4 (a.get 0) (a.get 3) (a.get 4) (a.get 5) (a.get 6) (a.get 7) M Q), fun a M => At Try.prog Ex none Try.f23 [1, 1, 1, 0, 1, 0, 0, 1, 0, 0, 1, 1, 1] a M Q⟩,
    ⟨1003, fun _ _ => False, fun a M => At Try.prog Ex none Try.f23 [1, 1, 1, 0, 1, 0, 0, 1, 1] a M Q⟩]
    [1000, 1001] [] (by kernel_rfl) (by kernel_rfl) (by kernel_rfl) (by kernel_rfl) (by kernel_rfl)
    ⟨fun a M hn h => by obtain ⟨⟨n, f⟩, ds⟩ := a; have hn : n = 82 := hn; subst hn; obtain ⟨hd, h⟩ := dfr_iff h; have hd : ds = [] := hd; subst hd; exact h f rfl rfl rfl rfl rfl rfl,
    fun _ _ _ h => h.elim,
    trivial⟩
    (cast (by kernel_rfl) h)
def S_fettlelaw6_Act_3 (x3 : Value) (M : Store) (Q : Value → Store → Prop) : Prop :=
  OP (lenV x3) fun t77 =>
  OP (binI .eql t77 (.int .i64 0)) fun t78 =>
  BR t78 (
  OP (bldS #[(.int .i64 0), (.int .i64 0), (.string ⟨#[]⟩)] [(0, 1), (1, 1), (2, 1)] [(0, (.int .i64 3))]) fun t79 =>
  OP (bldL (.agg #[(.int .i64 0), (.int .i64 0), (.string ⟨#[]⟩)]) 3 1 [(0, t79)]) fun c =>
  LT (.slice (some ⟨M.n, 0, none⟩) 1 1) (M.push (some (.inl (c, Ty.api_Do, true)))) fun t80 M1 =>
  NTs [t80] ∧ Q t80 M1
  ) (
  NTs [x3] ∧ Q x3 M
  )
theorem T_fettlelaw6_Act_3 {x3 : Value} {M : Store} {Q : Value → Store → Prop} (h : S_fettlelaw6_Act_3 x3 M Q) : P_fettlelaw6_Act_3 x3 M Q := by
  intro f h3; subst h3
  unfold At
  exact rule (B := 1000) (N := 82) (ct := .no)
    [⟨1, fun a M => kfin Try.prog Try.f23.results.toList Q 1 a M, fun a M => kfin Try.prog Try.f23.results.toList Q 1 a M⟩]
    [] [1] (by kernel_rfl) (by kernel_rfl) (by kernel_rfl) (by kernel_rfl) (by kernel_rfl)
    ⟨fun _ _ _ h => h,
    trivial⟩
    (cast (by kernel_rfl) h)
def S_fettlelaw6_Act_4 (x0 x3 x4 x5 x6 x7 : Value) (M : Store) (Q : Value → Store → Prop) : Prop :=
  OP (fad 0 x7) fun t34 =>
  OP (ld 1 false t34 M) fun t35 =>
  OP (binI .eql t35 (.int .i64 11)) fun t36 =>
  BR t36 (
  OP (binI .shr x6 (.int .u64 8)) fun t39 =>
  OP (binI .and t39 (.int .i64 3)) fun t40 =>
  OP (binI .gtr t40 (.int .i64 0)) fun t41 =>
  BR t41 (
  OP (fad 0 x7) fun t43 =>
  OP (st 1 t43 (.int .i64 6) M) fun M1 =>
  P_fettlelaw6_Act_5 x0 x3 x4 x5 x6 x7 M1 Q
  ) (
  P_fettlelaw6_Act_5 x0 x3 x4 x5 x6 x7 M Q
  )
  ) (
  P_fettlelaw6_Act_5 x0 x3 x4 x5 x6 x7 M Q
  )
theorem T_fettlelaw6_Act_4 {x0 x3 x4 x5 x6 x7 : Value} {M : Store} {Q : Value → Store → Prop} (h : S_fettlelaw6_Act_4 x0 x3 x4 x5 x6 x7 M Q) : P_fettlelaw6_Act_4 x0 x3 x4 x5 x6 x7 M Q := by
  intro f h0 h3 h4 h5 h6 h7; subst h0; subst h3; subst h4; subst h5; subst h6; subst h7
  unfold At
  exact rule (B := 1000) (N := 82) (ct := (.two .no (.here 1000)))
    [⟨1002, fun a M => dfr a.defers (P_fettlelaw6_Act_5 (a.get 0) (a.get 3) (a.get 4) (a.get 5) (a.get 6) (a.get 7) M Q), fun a M => At Try.prog Ex none Try.f23 [1, 1, 1, 0, 1, 0, 0, 1, 0, 0, 1, 1, 1, 1] a M Q⟩]
    [1000] [] (by kernel_rfl) (by kernel_rfl) (by kernel_rfl) (by kernel_rfl) (by kernel_rfl)
    ⟨fun a M hn h => by obtain ⟨⟨n, f⟩, ds⟩ := a; have hn : n = 82 := hn; subst hn; obtain ⟨hd, h⟩ := dfr_iff h; have hd : ds = [] := hd; subst hd; exact h f rfl rfl rfl rfl rfl rfl,
    trivial⟩
    (cast (by kernel_rfl) h)
def S_fettlelaw6_Act_5 (x0 x3 x4 x5 x6 x7 : Value) (M : Store) (Q : Value → Store → Prop) : Prop :=
  OP (fad 0 x7) fun t44 =>
  OP (ld 1 false t44 M) fun t45 =>
  OP (binI .eql t45 (.int .i64 1)) fun t47 =>
  BR t47 (
  P_fettlelaw6_Act_6 x0 x3 x4 x5 x6 x7 t45 t47 M Q
  ) (
  OP (binI .eql t45 (.int .i64 10)) fun t48 =>
  P_fettlelaw6_Act_6 x0 x3 x4 x5 x6 x7 t45 t48 M Q
  )
theorem T_fettlelaw6_Act_5 {x0 x3 x4 x5 x6 x7 : Value} {M : Store} {Q : Value → Store → Prop} (h : S_fettlelaw6_Act_5 x0 x3 x4 x5 x6 x7 M Q) : P_fettlelaw6_Act_5 x0 x3 x4 x5 x6 x7 M Q := by
  intro f h0 h3 h4 h5 h6 h7; subst h0; subst h3; subst h4; subst h5; subst h6; subst h7
  unfold At
  exact rule (B := 1000) (N := 82) (ct := (.two (.two .no (.two (.two .no (.here 1000)) .no)) (.here 1001)))
    [⟨1002, fun a M => dfr a.defers (P_fettlelaw6_Act_6 (a.get 0) (a.get 3) (a.get 4) (a.get 5) (a.get 6) (a.get 7) (a.get 45) (a.get 46) M Q), fun a M => At Try.prog Ex none Try.f23 [1, 1, 1, 0, 1, 0, 0, 1, 0, 0, 1, 1, 1, 1, 0, 1, 0, 1] a M Q⟩,
    ⟨1003, fun _ _ => False, fun a M => At Try.prog Ex none Try.f23 [1, 1, 1, 0, 1, 0, 0, 1, 0, 0, 1, 1, 1, 1, 1] a M Q⟩]
    [1000, 1001] [] (by kernel_rfl) (by kernel_rfl) (by kernel_rfl) (by kernel_rfl) (by kernel_rfl)
    ⟨fun a M hn h => by obtain ⟨⟨n, f⟩, ds⟩ := a; have hn : n = 82 := hn; subst hn; obtain ⟨hd, h⟩ := dfr_iff h; have hd : ds = [] := hd; subst hd; exact h f rfl rfl rfl rfl rfl rfl rfl rfl,
    fun _ _ _ h => h.elim,
    trivial⟩
    (cast (by kernel_rfl) h)
def S_fettlelaw6_Act_6 (x0 x3 x4 x5 x6 x7 x45 x46 : Value) (M : Store) (Q : Value → Store → Prop) : Prop :=
  BR x46 (
  OP (binI .shr x6 (.int .u64 10)) fun t51 =>
  OP (binI .and t51 (.int .i64 255)) fun t52 =>
  OP (lenV x4) fun t54 =>
  OP (binI .rem t52 t54) fun t55 =>
  OP (ixA 1 x4 t55) fun t56 =>
  OP (ld 1 false t56 M) fun t57 =>
  OP (fad 2 x7) fun t58 =>
  OP (st 1 t58 t57 M) fun M1 =>
  P_fettlelaw6_Act_7 x0 x3 x4 x5 x7 M1 Q
  ) (
  OP (binI .eql x45 (.int .i64 2)) fun t60 =>
  BR t60 (
  OP (binI .shr x6 (.int .u64 10)) fun t62 =>
  OP (binI .and t62 (.int .i64 3)) fun t63 =>
  OP (fad 1 x7) fun t64 =>
  OP (st 1 t64 t63 M) fun M2 =>
  P_fettlelaw6_Act_7 x0 x3 x4 x5 x7 M2 Q
  ) (
  OP (binI .eql x45 (.int .i64 7)) fun t66 =>
  BR t66 (
  BR t66 (
  OP (binI .shr x6 (.int .u64 10)) fun t69 =>
  OP (binI .and t69 (.int .i64 31)) fun t70 =>
  OP (fad 1 x7) fun t71 =>
  OP (st 1 t71 t70 M) fun M3 =>
  P_fettlelaw6_Act_7 x0 x3 x4 x5 x7 M3 Q
  ) (
  P_fettlelaw6_Act_7 x0 x3 x4 x5 x7 M Q
  )
  ) (
  OP (binI .eql x45 (.int .i64 8)) fun t67 =>
  BR t67 (
  OP (binI .shr x6 (.int .u64 10)) fun t69_1 =>
  OP (binI .and t69_1 (.int .i64 31)) fun t70_1 =>
  OP (fad 1 x7) fun t71_1 =>
  OP (st 1 t71_1 t70_1 M) fun M4 =>
  P_fettlelaw6_Act_7 x0 x3 x4 x5 x7 M4 Q
  ) (
  P_fettlelaw6_Act_7 x0 x3 x4 x5 x7 M Q
  )
  )
  )
  )
theorem T_fettlelaw6_Act_6 {x0 x3 x4 x5 x6 x7 x45 x46 : Value} {M : Store} {Q : Value → Store → Prop} (h : S_fettlelaw6_Act_6 x0 x3 x4 x5 x6 x7 x45 x46 M Q) : P_fettlelaw6_Act_6 x0 x3 x4 x5 x6 x7 x45 x46 M Q := by
  intro f h0 h3 h4 h5 h6 h7 h45 h46; subst h0; subst h3; subst h4; subst h5; subst h6; subst h7; subst h45; subst h46
  unfold At
  exact rule (B := 1000) (N := 82) (ct := .no)
    [⟨0, fun a M => dfr a.defers (P_fettlelaw6_Act_7 (a.get 0) (a.get 3) (a.get 4) (a.get 5) (a.get 7) M Q), fun a M => At Try.prog Ex none Try.f23 [1, 1, 1, 0, 1, 0, 0, 1, 0, 0, 1, 1, 1, 1, 1] a M Q⟩]
    [] [0] (by kernel_rfl) (by kernel_rfl) (by kernel_rfl) (by kernel_rfl) (by kernel_rfl)
    ⟨fun a M hn h => by obtain ⟨⟨n, f⟩, ds⟩ := a; have hn : n = 82 := hn; subst hn; obtain ⟨hd, h⟩ := dfr_iff h; have hd : ds = [] := hd; subst hd; exact h f rfl rfl rfl rfl rfl,
    trivial⟩
    (cast (by kernel_rfl) h)
def S_fettlelaw6_Act_7 (x0 x3 x4 x5 x7 : Value) (M : Store) (Q : Value → Store → Prop) : Prop :=
  OP (ld 3 true x7 M) fun t73 =>
  OP (bldL (.agg #[(.int .i64 0), (.int .i64 0), (.string ⟨#[]⟩)]) 3 1 [(0, t73)]) fun c =>
  LT (.slice (some ⟨M.n, 0, none⟩) 1 1) (M.push (some (.inl (c, Ty.api_Do, true)))) fun t74 M1 =>
  OP2 (appV 3 Ty.api_Do x3 t74 M1) fun t75 M2 =>
  P_fettlelaw6_Act_8 x0 t75 x4 x5 M2 Q
theorem T_fettlelaw6_Act_7 {x0 x3 x4 x5 x7 : Value} {M : Store} {Q : Value → Store → Prop} (h : S_fettlelaw6_Act_7 x0 x3 x4 x5 x7 M Q) : P_fettlelaw6_Act_7 x0 x3 x4 x5 x7 M Q := by
  intro f h0 h3 h4 h5 h7; subst h0; subst h3; subst h4; subst h5; subst h7
  unfold At
  exact rule (B := 1000) (N := 82) (ct := .no)
    [⟨0, fun a M => dfr a.defers (P_fettlelaw6_Act_8 (a.get 0) (a.get 3) (a.get 4) (a.get 5) M Q), fun a M => At Try.prog Ex none Try.f23 [1, 1, 1, 0, 1, 0, 0, 1, 1] a M Q⟩]
    [] [0] (by kernel_rfl) (by kernel_rfl) (by kernel_rfl) (by kernel_rfl) (by kernel_rfl)
    ⟨fun a M hn h => by obtain ⟨⟨n, f⟩, ds⟩ := a; have hn : n = 82 := hn; subst hn; obtain ⟨hd, h⟩ := dfr_iff h; have hd : ds = [] := hd; subst hd; exact h f rfl rfl rfl rfl,
    trivial⟩
    (cast (by kernel_rfl) h)
def S_fettlelaw6_Act_8 (x0 x3 x4 x5 : Value) (M : Store) (Q : Value → Store → Prop) : Prop :=
  OP (binI .add x5 (.int .i64 1)) fun t18 =>
  P_fettlelaw6_Act_1 x0 x3 x4 t18 M Q
theorem T_fettlelaw6_Act_8 {x0 x3 x4 x5 : Value} {M : Store} {Q : Value → Store → Prop} (h : S_fettlelaw6_Act_8 x0 x3 x4 x5 M Q) : P_fettlelaw6_Act_8 x0 x3 x4 x5 M Q := by
  intro f h0 h3 h4 h5; subst h0; subst h3; subst h4; subst h5
  unfold At
  exact rule (B := 1000) (N := 82) (ct := .no)
    [⟨0, fun a M => dfr a.defers (P_fettlelaw6_Act_1 (a.get 0) (a.get 3) (a.get 4) (a.get 5) M Q), fun a M => At Try.prog Ex none Try.f23 [1, 1, 1, 0, 1, 0] a M Q⟩]
    [] [0] (by kernel_rfl) (by kernel_rfl) (by kernel_rfl) (by kernel_rfl) (by kernel_rfl)
    ⟨fun a M hn h => by obtain ⟨⟨n, f⟩, ds⟩ := a; have hn : n = 82 := hn; subst hn; obtain ⟨hd, h⟩ := dfr_iff h; have hd : ds = [] := hd; subst hd; exact h f rfl rfl rfl rfl,
    trivial⟩
    (cast (by kernel_rfl) h)
def P_fettleref10_Print_1 (x1 x5 x6 : Value) (M : Store) (Q : Value → Store → Prop) : Prop :=
  ∀ f : Nat → Value, f 1 = x1 → f 5 = x5 → f 6 = x6 → At Try.prog Ex none Try.f24 [1, 1, 0, 1, 0] ⟨⟨26, f⟩, []⟩ M Q
def P_fettleref10_Print_2 (x5 : Value) (M : Store) (Q : Value → Store → Prop) : Prop :=
  ∀ f : Nat → Value, f 5 = x5 → At Try.prog Ex none Try.f24 [1, 1, 1] ⟨⟨26, f⟩, []⟩ M Q
def S_fettleref10_Print (x0 x1 : Value) (M : Store) (Q : Value → Store → Prop) : Prop :=
  R F.fettleref4_ActBytes #[x0] M fun t8 M1 =>
  R F.fettleref1_Bytes #[(.slice none 0 0), t8] M1 fun t9 M2 =>
  OP (lenV x1) fun t11 =>
  R F.fettleref1_Num #[t9, t11] M2 fun t12 M3 =>
  P_fettleref10_Print_1 x1 t12 (.int .i64 0) M3 Q
theorem T_fettleref10_Print {x0 x1 : Value} {M : Store} {Q : Value → Store → Prop} (h : S_fettleref10_Print x0 x1 M Q) : R F.fettleref10_Print #[x0, x1] M Q := by
  refine runs_of (c := bodyOf Try.f24) Try.func24 rfl (by kernel_rfl) (by kernel_rfl) ?_
  unfold At
  exact rule (B := 1000) (N := 26) (ct := (.two .no (.two .no (.two (.two .no (.two (.here 1000) .no)) (.here 1001)))))
    [⟨1002, fun a M => dfr a.defers (P_fettleref10_Print_1 (a.get 1) (a.get 5) (a.get 6) M Q), fun a M => At Try.prog Ex none Try.f24 [1, 1, 0, 1, 0] a M Q⟩,
    ⟨1003, fun _ _ => False, fun a M => At Try.prog Ex none Try.f24 [1, 1, 1] a M Q⟩]
    [1000, 1001] [] (by kernel_rfl) (by kernel_rfl) (by kernel_rfl) (by kernel_rfl) (by kernel_rfl)
    ⟨fun a M hn h => by obtain ⟨⟨n, f⟩, ds⟩ := a; have hn : n = 26 := hn; subst hn; obtain ⟨hd, h⟩ := dfr_iff h; have hd : ds = [] := hd; subst hd; exact h f rfl rfl rfl,
    fun _ _ _ h => h.elim,
    trivial⟩
    (cast (by kernel_rfl) h)
def S_fettleref10_Print_1 (x1 x5 x6 : Value) (M : Store) (Q : Value → Store → Prop) : Prop :=
  OP (lenV x1) fun t15 =>
  OP (binI .lss x6 t15) fun t16 =>
  BR t16 (
  OP (ixA 1 x1 x6) fun t22 =>
  OP (ld 1 false t22 M) fun t23 =>
  R F.fettleref1_Bytes #[x5, t23] M fun t24 M1 =>
  OP (binI .add x6 (.int .i64 1)) fun t18 =>
  P_fettleref10_Print_1 x1 t24 t18 M1 Q
  ) (
  P_fettleref10_Print_2 x5 M Q
  )
theorem T_fettleref10_Print_1 {x1 x5 x6 : Value} {M : Store} {Q : Value → Store → Prop} (h : S_fettleref10_Print_1 x1 x5 x6 M Q) : P_fettleref10_Print_1 x1 x5 x6 M Q := by
  intro f h1 h5 h6; subst h1; subst h5; subst h6
  unfold At
  refine cast (by kernel_rfl) (CW.loop (P := Try.prog) (E := Ex) (rd := none) (x := sub (bodyOf Try.f24) [1, 1, 0, 1, 0, 0]) (a := ⟨⟨26, f⟩, []⟩) (M := M) (K := kcont Try.prog Ex none (bodyOf Try.f24) [1, 1, 0, 1, 0] (kfin Try.prog Try.f24.results.toList Q)) ?_)
  exact rule (B := 1000) (N := 26) (ct := .no)
    [⟨0, fun a M => dfr a.defers (P_fettleref10_Print_1 (a.get 1) (a.get 5) (a.get 6) M Q), fun a M => At Try.prog Ex none Try.f24 [1, 1, 0, 1, 0] a M Q⟩,
    ⟨2, fun a M => dfr a.defers (P_fettleref10_Print_2 (a.get 5) M Q), fun a M => At Try.prog Ex none Try.f24 [1, 1, 1] a M Q⟩]
    [] [0, 2] (by kernel_rfl) (by kernel_rfl) (by kernel_rfl) (by kernel_rfl) (by kernel_rfl)
    ⟨fun a M hn h => by obtain ⟨⟨n, f⟩, ds⟩ := a; have hn : n = 26 := hn; subst hn; obtain ⟨hd, h⟩ := dfr_iff h; have hd : ds = [] := hd; subst hd; exact h f rfl rfl rfl,
    fun a M hn h => by obtain ⟨⟨n, f⟩, ds⟩ := a; have hn : n = 26 := hn; subst hn; obtain ⟨hd, h⟩ := dfr_iff h; have hd : ds = [] := hd; subst hd; exact h f rfl,
    trivial⟩
    (cast (by kernel_rfl) h)
def S_fettleref10_Print_2 (x5 : Value) (M : Store) (Q : Value → Store → Prop) : Prop :=
  NTs [x5] ∧ Q x5 M
theorem T_fettleref10_Print_2 {x5 : Value} {M : Store} {Q : Value → Store → Prop} (h : S_fettleref10_Print_2 x5 M Q) : P_fettleref10_Print_2 x5 M Q := by
  intro f h5; subst h5
  unfold At
  exact rule (B := 1000) (N := 26) (ct := .no)
    [⟨1, fun a M => kfin Try.prog Try.f24.results.toList Q 1 a M, fun a M => kfin Try.prog Try.f24.results.toList Q 1 a M⟩]
    [] [1] (by kernel_rfl) (by kernel_rfl) (by kernel_rfl) (by kernel_rfl) (by kernel_rfl)
    ⟨fun _ _ _ h => h,
    trivial⟩
    (cast (by kernel_rfl) h)
def P_fettleref10_Parse_1 (x5 x6 x7 x8 x9 : Value) (M : Store) (Q : Value → Store → Prop) : Prop :=
  ∀ f : Nat → Value, f 5 = x5 → f 6 = x6 → f 7 = x7 → f 8 = x8 → f 9 = x9 → At Try.prog Ex none Try.f25 [1, 1, 1, 1, 0, 1, 0] ⟨⟨39, f⟩, []⟩ M Q
def P_fettleref10_Parse_2 (x5 x6 x7 x8 : Value) (M : Store) (Q : Value → Store → Prop) : Prop :=
  ∀ f : Nat → Value, f 5 = x5 → f 6 = x6 → f 7 = x7 → f 8 = x8 → At Try.prog Ex none Try.f25 [1, 1, 1, 1, 1] ⟨⟨39, f⟩, []⟩ M Q
def S_fettleref10_Parse (x0 : Value) (M : Store) (Q : Value → Store → Prop) : Prop :=
  OP (bldS #[(.slice none 0 0), (.bool false)] [(0, 1), (1, 1)] [(0, x0)]) fun t11 =>
  OP (boxv t11) fun c =>
  LT (.pointer (some ⟨M.n, 0, none⟩)) (M.push (some (.inl (c, Ty.fettleref1_Reader, true)))) fun t12 M1 =>
  R F.fettleref1_Reader_Bytes #[t12, (.int .i64 10000)] M1 fun t15 M2 =>
  R F.fettleref10_act #[t15] M2 fun t16 M3 =>
  OP (tup t16 0) fun t17 =>
  OP (tup t16 1) fun t18 =>
  R F.fettleref1_Reader_Num #[t12, (.int .i64 8)] M3 fun t20 M4 =>
  P_fettleref10_Parse_1 t12 t17 t18 (.slice none 0 0) t20 M4 Q
theorem T_fettleref10_Parse {x0 : Value} {M : Store} {Q : Value → Store → Prop} (h : S_fettleref10_Parse x0 M Q) : R F.fettleref10_Parse #[x0] M Q := by
  refine runs_of (c := bodyOf Try.f25) Try.func25 rfl (by kernel_rfl) (by kernel_rfl) ?_
  unfold At
  exact rule (B := 1000) (N := 39) (ct := (.two .no (.two .no (.two .no (.two .no (.two (.two .no (.two (.here 1000) .no)) (.here 1001)))))))
    [⟨1002, fun a M => dfr a.defers (P_fettleref10_Parse_1 (a.get 5) (a.get 6) (a.get 7) (a.get 8) (a.get 9) M Q), fun a M => At Try.prog Ex none Try.f25 [1, 1, 1, 1, 0, 1, 0] a M Q⟩,
    ⟨1003, fun _ _ => False, fun a M => At Try.prog Ex none Try.f25 [1, 1, 1, 1, 1] a M Q⟩]
    [1000, 1001] [] (by kernel_rfl) (by kernel_rfl) (by kernel_rfl) (by kernel_rfl) (by kernel_rfl)
    ⟨fun a M hn h => by obtain ⟨⟨n, f⟩, ds⟩ := a; have hn : n = 39 := hn; subst hn; obtain ⟨hd, h⟩ := dfr_iff h; have hd : ds = [] := hd; subst hd; exact h f rfl rfl rfl rfl rfl,
    fun _ _ _ h => h.elim,
    trivial⟩
    (cast (by kernel_rfl) h)
def S_fettleref10_Parse_1 (x5 x6 x7 x8 x9 : Value) (M : Store) (Q : Value → Store → Prop) : Prop :=
  OP (binI .gtr x9 (.int .i64 0)) fun t22 =>
  BR t22 (
  R F.fettleref1_Reader_Bytes #[x5, (.int .i64 256)] M fun t27 M1 =>
  OP (bldL (.slice none 0 0) 1 1 [(0, t27)]) fun c =>
  LT (.slice (some ⟨M1.n, 0, none⟩) 1 1) (M1.push (some (.inl (c, Ty.sl_uint8, true)))) fun t28 M2 =>
  OP2 (appV 1 Ty.sl_uint8 x8 t28 M2) fun t29 M3 =>
  OP (binI .sub x9 (.int .i64 1)) fun t24 =>
  P_fettleref10_Parse_1 x5 x6 x7 t29 t24 M3 Q
  ) (
  P_fettleref10_Parse_2 x5 x6 x7 x8 M Q
  )
theorem T_fettleref10_Parse_1 {x5 x6 x7 x8 x9 : Value} {M : Store} {Q : Value → Store → Prop} (h : S_fettleref10_Parse_1 x5 x6 x7 x8 x9 M Q) : P_fettleref10_Parse_1 x5 x6 x7 x8 x9 M Q := by
  intro f h5 h6 h7 h8 h9; subst h5; subst h6; subst h7; subst h8; subst h9
  unfold At
  refine cast (by kernel_rfl) (CW.loop (P := Try.prog) (E := Ex) (rd := none) (x := sub (bodyOf Try.f25) [1, 1, 1, 1, 0, 1, 0, 0]) (a := ⟨⟨39, f⟩, []⟩) (M := M) (K := kcont Try.prog Ex none (bodyOf Try.f25) [1, 1, 1, 1, 0, 1, 0] (kfin Try.prog Try.f25.results.toList Q)) ?_)
  exact rule (B := 1000) (N := 39) (ct := .no)
    [⟨0, fun a M => dfr a.defers (P_fettleref10_Parse_1 (a.get 5) (a.get 6) (a.get 7) (a.get 8) (a.get 9) M Q), fun a M => At Try.prog Ex none Try.f25 [1, 1, 1, 1, 0, 1, 0] a M Q⟩,
    ⟨2, fun a M => dfr a.defers (P_fettleref10_Parse_2 (a.get 5) (a.get 6) (a.get 7) (a.get 8) M Q), fun a M => At Try.prog Ex none Try.f25 [1, 1, 1, 1, 1] a M Q⟩]
    [] [0, 2] (by kernel_rfl) (by kernel_rfl) (by kernel_rfl) (by kernel_rfl) (by kernel_rfl)
    ⟨fun a M hn h => by obtain ⟨⟨n, f⟩, ds⟩ := a; have hn : n = 39 := hn; subst hn; obtain ⟨hd, h⟩ := dfr_iff h; have hd : ds = [] := hd; subst hd; exact h f rfl rfl rfl rfl rfl,
    fun a M hn h => by obtain ⟨⟨n, f⟩, ds⟩ := a; have hn : n = 39 := hn; subst hn; obtain ⟨hd, h⟩ := dfr_iff h; have hd : ds = [] := hd; subst hd; exact h f rfl rfl rfl rfl,
    trivial⟩
    (cast (by kernel_rfl) h)
def S_fettleref10_Parse_2 (x5 x6 x7 x8 : Value) (M : Store) (Q : Value → Store → Prop) : Prop :=
  OP (aun .not x7) fun t31 =>
  BR t31 (
  NTs [(.slice none 0 0), (.slice none 0 0), (.bool false)] ∧ Q (.tuple #[(.slice none 0 0), (.slice none 0 0), (.bool false)]) M
  ) (
  R F.fettleref1_Reader_End #[x5] M fun t34 M1 =>
  OP (aun .not t34) fun t35 =>
  BR t35 (
  NTs [(.slice none 0 0), (.slice none 0 0), (.bool false)] ∧ Q (.tuple #[(.slice none 0 0), (.slice none 0 0), (.bool false)]) M1
  ) (
  NTs [x6, x8, (.bool true)] ∧ Q (.tuple #[x6, x8, (.bool true)]) M1
  )
  )
theorem T_fettleref10_Parse_2 {x5 x6 x7 x8 : Value} {M : Store} {Q : Value → Store → Prop} (h : S_fettleref10_Parse_2 x5 x6 x7 x8 M Q) : P_fettleref10_Parse_2 x5 x6 x7 x8 M Q := by
  intro f h5 h6 h7 h8; subst h5; subst h6; subst h7; subst h8
  unfold At
  exact rule (B := 1000) (N := 39) (ct := .no)
    [⟨1, fun a M => kfin Try.prog Try.f25.results.toList Q 1 a M, fun a M => kfin Try.prog Try.f25.results.toList Q 1 a M⟩]
    [] [1] (by kernel_rfl) (by kernel_rfl) (by kernel_rfl) (by kernel_rfl) (by kernel_rfl)
    ⟨fun _ _ _ h => h,
    trivial⟩
    (cast (by kernel_rfl) h)
def S_fettleref10_Value (x0 : Value) (M : Store) (Q : Value → Store → Prop) : Prop :=
  R F.fettleref10_Parse #[x0] M fun t9 M1 =>
  OP (tup t9 0) fun t10 =>
  OP (tup t9 1) fun t11 =>
  OP (tup t9 2) fun t12 =>
  OP (aun .not t12) fun t14 =>
  BR t14 (
  NTs [(.slice none 0 0), (.bool false)] ∧ Q (.tuple #[(.slice none 0 0), (.bool false)]) M1
  ) (
  R F.fettleref4_Run #[t10, t11] M1 fun t17 M2 =>
  OP (tup t17 0) fun t18 =>
  OP (tup t17 1) fun t19 =>
  NTs [t18, t19] ∧ Q (.tuple #[t18, t19]) M2
  )
theorem T_fettleref10_Value {x0 : Value} {M : Store} {Q : Value → Store → Prop} (h : S_fettleref10_Value x0 M Q) : R F.fettleref10_Value #[x0] M Q := by
  refine runs_of (c := bodyOf Try.f26) Try.func26 rfl (by kernel_rfl) (by kernel_rfl) ?_
  unfold At
  exact rule (B := 1000) (N := 20) (ct := .no)
    [⟨1, fun a M => kfin Try.prog Try.f26.results.toList Q 1 a M, fun a M => kfin Try.prog Try.f26.results.toList Q 1 a M⟩]
    [] [1] (by kernel_rfl) (by kernel_rfl) (by kernel_rfl) (by kernel_rfl) (by kernel_rfl)
    ⟨fun _ _ _ h => h,
    trivial⟩
    (cast (by kernel_rfl) h)
def P_fettleref4_SameAct_1 (x0 x1 x5 : Value) (M : Store) (Q : Value → Store → Prop) : Prop :=
  ∀ f : Nat → Value, f 0 = x0 → f 1 = x1 → f 5 = x5 → At Try.prog Ex none Try.f27 [1, 1, 0, 1, 0] ⟨⟨26, f⟩, []⟩ M Q
def P_fettleref4_SameAct_2 (x0 x1 x5 : Value) (M : Store) (Q : Value → Store → Prop) : Prop :=
  ∀ f : Nat → Value, f 0 = x0 → f 1 = x1 → f 5 = x5 → At Try.prog Ex none Try.f27 [1, 1, 0, 1, 0, 0, 1] ⟨⟨26, f⟩, []⟩ M Q
def P_fettleref4_SameAct_3 (M : Store) (Q : Value → Store → Prop) : Prop :=
  ∀ f : Nat → Value, At Try.prog Ex none Try.f27 [1, 1, 1] ⟨⟨26, f⟩, []⟩ M Q
def S_fettleref4_SameAct (x0 x1 : Value) (M : Store) (Q : Value → Store → Prop) : Prop :=
  OP (lenV x0) fun t7 =>
  OP (lenV x1) fun t9 =>
  OP (binI .neq t7 t9) fun t10 =>
  BR t10 (
  NTs [(.bool false)] ∧ Q (.bool false) M
  ) (
  P_fettleref4_SameAct_1 x0 x1 (.int .i64 0) M Q
  )
theorem T_fettleref4_SameAct {x0 x1 : Value} {M : Store} {Q : Value → Store → Prop} (h : S_fettleref4_SameAct x0 x1 M Q) : R F.fettleref4_SameAct #[x0, x1] M Q := by
  refine runs_of (c := bodyOf Try.f27) Try.func27 rfl (by kernel_rfl) (by kernel_rfl) ?_
  unfold At
  exact rule (B := 1000) (N := 26) (ct := (.two .no (.two .no (.two (.two .no (.two (.here 1000) .no)) (.here 1001)))))
    [⟨1002, fun a M => dfr a.defers (P_fettleref4_SameAct_1 (a.get 0) (a.get 1) (a.get 5) M Q), fun a M => At Try.prog Ex none Try.f27 [1, 1, 0, 1, 0] a M Q⟩,
    ⟨1003, fun _ _ => False, fun a M => At Try.prog Ex none Try.f27 [1, 1, 1] a M Q⟩,
    ⟨1, fun a M => kfin Try.prog Try.f27.results.toList Q 1 a M, fun a M => kfin Try.prog Try.f27.results.toList Q 1 a M⟩]
    [1000, 1001] [1] (by kernel_rfl) (by kernel_rfl) (by kernel_rfl) (by kernel_rfl) (by kernel_rfl)
    ⟨fun a M hn h => by obtain ⟨⟨n, f⟩, ds⟩ := a; have hn : n = 26 := hn; subst hn; obtain ⟨hd, h⟩ := dfr_iff h; have hd : ds = [] := hd; subst hd; exact h f rfl rfl rfl,
    fun _ _ _ h => h.elim,
    fun _ _ _ h => h,
    trivial⟩
    (cast (by kernel_rfl) h)
def S_fettleref4_SameAct_1 (x0 x1 x5 : Value) (M : Store) (Q : Value → Store → Prop) : Prop :=
  OP (lenV x0) fun t13 =>
  OP (binI .lss x5 t13) fun t14 =>
  BR t14 (
  P_fettleref4_SameAct_2 x0 x1 x5 M Q
  ) (
  P_fettleref4_SameAct_3 M Q
  )
theorem T_fettleref4_SameAct_1 {x0 x1 x5 : Value} {M : Store} {Q : Value → Store → Prop} (h : S_fettleref4_SameAct_1 x0 x1 x5 M Q) : P_fettleref4_SameAct_1 x0 x1 x5 M Q := by
  intro f h0 h1 h5; subst h0; subst h1; subst h5
  unfold At
  refine cast (by kernel_rfl) (CW.loop (P := Try.prog) (E := Ex) (rd := none) (x := sub (bodyOf Try.f27) [1, 1, 0, 1, 0, 0]) (a := ⟨⟨26, f⟩, []⟩) (M := M) (K := kcont Try.prog Ex none (bodyOf Try.f27) [1, 1, 0, 1, 0] (kfin Try.prog Try.f27.results.toList Q)) ?_)
  exact rule (B := 1000) (N := 26) (ct := (.two .no (.here 1000)))
    [⟨1002, fun a M => dfr a.defers (P_fettleref4_SameAct_2 (a.get 0) (a.get 1) (a.get 5) M Q), fun a M => At Try.prog Ex none Try.f27 [1, 1, 0, 1, 0, 0, 1] a M Q⟩,
    ⟨2, fun a M => dfr a.defers (P_fettleref4_SameAct_3 M Q), fun a M => At Try.prog Ex none Try.f27 [1, 1, 1] a M Q⟩]
    [1000] [2] (by kernel_rfl) (by kernel_rfl) (by kernel_rfl) (by kernel_rfl) (by kernel_rfl)
    ⟨fun a M hn h => by obtain ⟨⟨n, f⟩, ds⟩ := a; have hn : n = 26 := hn; subst hn; obtain ⟨hd, h⟩ := dfr_iff h; have hd : ds = [] := hd; subst hd; exact h f rfl rfl rfl,
    fun a M hn h => by obtain ⟨⟨n, f⟩, ds⟩ := a; have hn : n = 26 := hn; subst hn; obtain ⟨hd, h⟩ := dfr_iff h; have hd : ds = [] := hd; subst hd; exact h f,
    trivial⟩
    (cast (by kernel_rfl) h)
def S_fettleref4_SameAct_2 (x0 x1 x5 : Value) (M : Store) (Q : Value → Store → Prop) : Prop :=
  OP (ixA 3 x0 x5) fun t19 =>
  OP (ld 3 true t19 M) fun t20 =>
  OP (ixA 3 x1 x5) fun t23 =>
  OP (ld 3 true t23 M) fun t24 =>
  OP (abin Try.prog false .neq Ty.api_Do t20 t24) fun t25 =>
  BR t25 (
  NTs [(.bool false)] ∧ Q (.bool false) M
  ) (
  OP (binI .add x5 (.int .i64 1)) fun t16 =>
  P_fettleref4_SameAct_1 x0 x1 t16 M Q
  )
theorem T_fettleref4_SameAct_2 {x0 x1 x5 : Value} {M : Store} {Q : Value → Store → Prop} (h : S_fettleref4_SameAct_2 x0 x1 x5 M Q) : P_fettleref4_SameAct_2 x0 x1 x5 M Q := by
  intro f h0 h1 h5; subst h0; subst h1; subst h5
  unfold At
  exact rule (B := 1000) (N := 26) (ct := .no)
    [⟨0, fun a M => dfr a.defers (P_fettleref4_SameAct_1 (a.get 0) (a.get 1) (a.get 5) M Q), fun a M => At Try.prog Ex none Try.f27 [1, 1, 0, 1, 0] a M Q⟩,
    ⟨1, fun a M => kfin Try.prog Try.f27.results.toList Q 1 a M, fun a M => kfin Try.prog Try.f27.results.toList Q 1 a M⟩]
    [] [0, 1] (by kernel_rfl) (by kernel_rfl) (by kernel_rfl) (by kernel_rfl) (by kernel_rfl)
    ⟨fun a M hn h => by obtain ⟨⟨n, f⟩, ds⟩ := a; have hn : n = 26 := hn; subst hn; obtain ⟨hd, h⟩ := dfr_iff h; have hd : ds = [] := hd; subst hd; exact h f rfl rfl rfl,
    fun _ _ _ h => h,
    trivial⟩
    (cast (by kernel_rfl) h)
def S_fettleref4_SameAct_3 (M : Store) (Q : Value → Store → Prop) : Prop :=
  NTs [(.bool true)] ∧ Q (.bool true) M
theorem T_fettleref4_SameAct_3 {M : Store} {Q : Value → Store → Prop} (h : S_fettleref4_SameAct_3 M Q) : P_fettleref4_SameAct_3 M Q := by
  intro f 
  unfold At
  exact rule (B := 1000) (N := 26) (ct := .no)
    [⟨1, fun a M => kfin Try.prog Try.f27.results.toList Q 1 a M, fun a M => kfin Try.prog Try.f27.results.toList Q 1 a M⟩]
    [] [1] (by kernel_rfl) (by kernel_rfl) (by kernel_rfl) (by kernel_rfl) (by kernel_rfl)
    ⟨fun _ _ _ h => h,
    trivial⟩
    (cast (by kernel_rfl) h)
def P_fettleref4_Run_1 (x0 x1 x6 x7 : Value) (M : Store) (Q : Value → Store → Prop) : Prop :=
  ∀ f : Nat → Value, f 0 = x0 → f 1 = x1 → f 6 = x6 → f 7 = x7 → At Try.prog Ex none Try.f28 [1, 1, 1, 0, 1, 0] ⟨⟨38, f⟩, []⟩ M Q
def P_fettleref4_Run_2 (x0 x1 x6 x7 : Value) (M : Store) (Q : Value → Store → Prop) : Prop :=
  ∀ f : Nat → Value, f 0 = x0 → f 1 = x1 → f 6 = x6 → f 7 = x7 → At Try.prog Ex none Try.f28 [1, 1, 1, 0, 1, 0, 0, 1] ⟨⟨38, f⟩, []⟩ M Q
def P_fettleref4_Run_3 (x6 : Value) (M : Store) (Q : Value → Store → Prop) : Prop :=
  ∀ f : Nat → Value, f 6 = x6 → At Try.prog Ex none Try.f28 [1, 1, 1, 1] ⟨⟨38, f⟩, []⟩ M Q
def S_fettleref4_Run (x0 x1 : Value) (M : Store) (Q : Value → Store → Prop) : Prop :=
  R F.fettleref4_OkAct #[x0] M fun t11 M1 =>
  OP (aun .not t11) fun t12 =>
  BR t12 (
  NTs [(.slice none 0 0), (.bool false)] ∧ Q (.tuple #[(.slice none 0 0), (.bool false)]) M1
  ) (
  P_fettleref4_Run_1 x0 x1 (.slice none 0 0) (.int .i64 0) M1 Q
  )
theorem T_fettleref4_Run {x0 x1 : Value} {M : Store} {Q : Value → Store → Prop} (h : S_fettleref4_Run x0 x1 M Q) : R F.fettleref4_Run #[x0, x1] M Q := by
  refine runs_of (c := bodyOf Try.f28) Try.func28 rfl (by kernel_rfl) (by kernel_rfl) ?_
  unfold At
  exact rule (B := 1000) (N := 38) (ct := (.two .no (.two .no (.two .no (.two (.two .no (.two (.here 1000) .no)) (.here 1001))))))
    [⟨1002, fun a M => dfr a.defers (P_fettleref4_Run_1 (a.get 0) (a.get 1) (a.get 6) (a.get 7) M Q), fun a M => At Try.prog Ex none Try.f28 [1, 1, 1, 0, 1, 0] a M Q⟩,
    ⟨1003, fun _ _ => False, fun a M => At Try.prog Ex none Try.f28 [1, 1, 1, 1] a M Q⟩,
    ⟨1, fun a M => kfin Try.prog Try.f28.results.toList Q 1 a M, fun a M => kfin Try.prog Try.f28.results.toList Q 1 a M⟩]
    [1000, 1001] [1] (by kernel_rfl) (by kernel_rfl) (by kernel_rfl) (by kernel_rfl) (by kernel_rfl)
    ⟨fun a M hn h => by obtain ⟨⟨n, f⟩, ds⟩ := a; have hn : n = 38 := hn; subst hn; obtain ⟨hd, h⟩ := dfr_iff h; have hd : ds = [] := hd; subst hd; exact h f rfl rfl rfl rfl,
    fun _ _ _ h => h.elim,
    fun _ _ _ h => h,
    trivial⟩
    (cast (by kernel_rfl) h)
def S_fettleref4_Run_1 (x0 x1 x6 x7 : Value) (M : Store) (Q : Value → Store → Prop) : Prop :=
  OP (lenV x0) fun t15 =>
  OP (binI .lss x7 t15) fun t16 =>
  BR t16 (
  P_fettleref4_Run_2 x0 x1 x6 x7 M Q
  ) (
  P_fettleref4_Run_3 x6 M Q
  )
theorem T_fettleref4_Run_1 {x0 x1 x6 x7 : Value} {M : Store} {Q : Value → Store → Prop} (h : S_fettleref4_Run_1 x0 x1 x6 x7 M Q) : P_fettleref4_Run_1 x0 x1 x6 x7 M Q := by
  intro f h0 h1 h6 h7; subst h0; subst h1; subst h6; subst h7
  unfold At
  refine cast (by kernel_rfl) (CW.loop (P := Try.prog) (E := Ex) (rd := none) (x := sub (bodyOf Try.f28) [1, 1, 1, 0, 1, 0, 0]) (a := ⟨⟨38, f⟩, []⟩) (M := M) (K := kcont Try.prog Ex none (bodyOf Try.f28) [1, 1, 1, 0, 1, 0] (kfin Try.prog Try.f28.results.toList Q)) ?_)
  exact rule (B := 1000) (N := 38) (ct := (.two .no (.here 1000)))
    [⟨1002, fun a M => dfr a.defers (P_fettleref4_Run_2 (a.get 0) (a.get 1) (a.get 6) (a.get 7) M Q), fun a M => At Try.prog Ex none Try.f28 [1, 1, 1, 0, 1, 0, 0, 1] a M Q⟩,
    ⟨2, fun a M => dfr a.defers (P_fettleref4_Run_3 (a.get 6) M Q), fun a M => At Try.prog Ex none Try.f28 [1, 1, 1, 1] a M Q⟩]
    [1000] [2] (by kernel_rfl) (by kernel_rfl) (by kernel_rfl) (by kernel_rfl) (by kernel_rfl)
    ⟨fun a M hn h => by obtain ⟨⟨n, f⟩, ds⟩ := a; have hn : n = 38 := hn; subst hn; obtain ⟨hd, h⟩ := dfr_iff h; have hd : ds = [] := hd; subst hd; exact h f rfl rfl rfl rfl,
    fun a M hn h => by obtain ⟨⟨n, f⟩, ds⟩ := a; have hn : n = 38 := hn; subst hn; obtain ⟨hd, h⟩ := dfr_iff h; have hd : ds = [] := hd; subst hd; exact h f rfl,
    trivial⟩
    (cast (by kernel_rfl) h)
def S_fettleref4_Run_2 (x0 x1 x6 x7 : Value) (M : Store) (Q : Value → Store → Prop) : Prop :=
  OP (ixA 3 x0 x7) fun t22 =>
  OP (ld 3 true t22 M) fun t23 =>
  R F.fettleref4_changed #[t23, x6, x1] M fun t26 M1 =>
  OP (tup t26 0) fun t27 =>
  OP (tup t26 1) fun t28 =>
  OP (aun .not t28) fun t30 =>
  BR t30 (
  NTs [(.slice none 0 0), (.bool false)] ∧ Q (.tuple #[(.slice none 0 0), (.bool false)]) M1
  ) (
  OP (lenV t27) fun t33 =>
  OP (binI .gtr t33 (.int .i64 256)) fun t34 =>
  BR t34 (
  NTs [(.slice none 0 0), (.bool false)] ∧ Q (.tuple #[(.slice none 0 0), (.bool false)]) M1
  ) (
  OP (binI .add x7 (.int .i64 1)) fun t18 =>
  P_fettleref4_Run_1 x0 x1 t27 t18 M1 Q
  )
  )
theorem T_fettleref4_Run_2 {x0 x1 x6 x7 : Value} {M : Store} {Q : Value → Store → Prop} (h : S_fettleref4_Run_2 x0 x1 x6 x7 M Q) : P_fettleref4_Run_2 x0 x1 x6 x7 M Q := by
  intro f h0 h1 h6 h7; subst h0; subst h1; subst h6; subst h7
  unfold At
  exact rule (B := 1000) (N := 38) (ct := .no)
    [⟨0, fun a M => dfr a.defers (P_fettleref4_Run_1 (a.get 0) (a.get 1) (a.get 6) (a.get 7) M Q), fun a M => At Try.prog Ex none Try.f28 [1, 1, 1, 0, 1, 0] a M Q⟩,
    ⟨1, fun a M => kfin Try.prog Try.f28.results.toList Q 1 a M, fun a M => kfin Try.prog Try.f28.results.toList Q 1 a M⟩]
    [] [0, 1] (by kernel_rfl) (by kernel_rfl) (by kernel_rfl) (by kernel_rfl) (by kernel_rfl)
    ⟨fun a M hn h => by obtain ⟨⟨n, f⟩, ds⟩ := a; have hn : n = 38 := hn; subst hn; obtain ⟨hd, h⟩ := dfr_iff h; have hd : ds = [] := hd; subst hd; exact h f rfl rfl rfl rfl,
    fun _ _ _ h => h,
    trivial⟩
    (cast (by kernel_rfl) h)
def S_fettleref4_Run_3 (x6 : Value) (M : Store) (Q : Value → Store → Prop) : Prop :=
  NTs [x6, (.bool true)] ∧ Q (.tuple #[x6, (.bool true)]) M
theorem T_fettleref4_Run_3 {x6 : Value} {M : Store} {Q : Value → Store → Prop} (h : S_fettleref4_Run_3 x6 M Q) : P_fettleref4_Run_3 x6 M Q := by
  intro f h6; subst h6
  unfold At
  exact rule (B := 1000) (N := 38) (ct := .no)
    [⟨1, fun a M => kfin Try.prog Try.f28.results.toList Q 1 a M, fun a M => kfin Try.prog Try.f28.results.toList Q 1 a M⟩]
    [] [1] (by kernel_rfl) (by kernel_rfl) (by kernel_rfl) (by kernel_rfl) (by kernel_rfl)
    ⟨fun _ _ _ h => h,
    trivial⟩
    (cast (by kernel_rfl) h)
def P_acts_Bytes_1 (x3 x9 x10 x11 : Value) (M : Store) (Q : Value → Store → Prop) : Prop :=
  ∀ f : Nat → Value, f 3 = x3 → f 9 = x9 → f 10 = x10 → f 11 = x11 → At Try.prog Ex none Try.f62 [1, 1, 0, 1, 0] ⟨⟨28, f⟩, []⟩ M Q
def P_acts_Bytes_2 (x3 x9 x10 x11 : Value) (M : Store) (Q : Value → Store → Prop) : Prop :=
  ∀ f : Nat → Value, f 3 = x3 → f 9 = x9 → f 10 = x10 → f 11 = x11 → At Try.prog Ex none Try.f62 [1, 1, 0, 1, 0, 0, 1, 1] ⟨⟨28, f⟩, []⟩ M Q
def P_acts_Bytes_3 (x3 : Value) (M : Store) (Q : Value → Store → Prop) : Prop :=
  ∀ f : Nat → Value, f 3 = x3 → At Try.prog Ex none Try.f62 [1, 1, 1] ⟨⟨28, f⟩, []⟩ M Q
def S_acts_Bytes (x0 : Value) (M : Store) (Q : Value → Store → Prop) : Prop :=
  OP (lenV x0) fun t7 =>
  R F.code_Num #[(.slice none 0 0), t7] M fun t8 M1 =>
  OP (lenV x0) fun t10 =>
  P_acts_Bytes_1 t8 x0 t10 (.int .i64 0) M1 Q
theorem T_acts_Bytes {x0 : Value} {M : Store} {Q : Value → Store → Prop} (h : S_acts_Bytes x0 M Q) : R F.acts_Bytes #[x0] M Q := by
  refine runs_of (c := bodyOf Try.f62) Try.func62 rfl (by kernel_rfl) (by kernel_rfl) ?_
  unfold At
  exact rule (B := 1000) (N := 28) (ct := (.two .no (.two .no (.two (.two .no (.two (.here 1000) .no)) (.here 1001)))))
    [⟨1002, fun a M => dfr a.defers (P_acts_Bytes_1 (a.get 3) (a.get 9) (a.get 10) (a.get 11) M Q), fun a M => At Try.prog Ex none Try.f62 [1, 1, 0, 1, 0] a M Q⟩,
    ⟨1003, fun _ _ => False, fun a M => At Try.prog Ex none Try.f62 [1, 1, 1] a M Q⟩]
    [1000, 1001] [] (by kernel_rfl) (by kernel_rfl) (by kernel_rfl) (by kernel_rfl) (by kernel_rfl)
    ⟨fun a M hn h => by obtain ⟨⟨n, f⟩, ds⟩ := a; have hn : n = 28 := hn; subst hn; obtain ⟨hd, h⟩ := dfr_iff h; have hd : ds = [] := hd; subst hd; exact h f rfl rfl rfl rfl,
    fun _ _ _ h => h.elim,
    trivial⟩
    (cast (by kernel_rfl) h)
def S_acts_Bytes_1 (x3 x9 x10 x11 : Value) (M : Store) (Q : Value → Store → Prop) : Prop :=
  OP (binI .lss x11 x10) fun t12 =>
  BR t12 (
  P_acts_Bytes_2 x3 x9 x10 x11 M Q
  ) (
  P_acts_Bytes_3 x3 M Q
  )
theorem T_acts_Bytes_1 {x3 x9 x10 x11 : Value} {M : Store} {Q : Value → Store → Prop} (h : S_acts_Bytes_1 x3 x9 x10 x11 M Q) : P_acts_Bytes_1 x3 x9 x10 x11 M Q := by
  intro f h3 h9 h10 h11; subst h3; subst h9; subst h10; subst h11
  unfold At
  refine cast (by kernel_rfl) (CW.loop (P := Try.prog) (E := Ex) (rd := none) (x := sub (bodyOf Try.f62) [1, 1, 0, 1, 0, 0]) (a := ⟨⟨28, f⟩, []⟩) (M := M) (K := kcont Try.prog Ex none (bodyOf Try.f62) [1, 1, 0, 1, 0] (kfin Try.prog Try.f62.results.toList Q)) ?_)
  exact rule (B := 1000) (N := 28) (ct := (.two .no (.two .no (.here 1000))))
    [⟨1002, fun a M => dfr a.defers (P_acts_Bytes_2 (a.get 3) (a.get 9) (a.get 10) (a.get 11) M Q), fun a M => At Try.prog Ex none Try.f62 [1, 1, 0, 1, 0, 0, 1, 1] a M Q⟩,
    ⟨2, fun a M => dfr a.defers (P_acts_Bytes_3 (a.get 3) M Q), fun a M => At Try.prog Ex none Try.f62 [1, 1, 1] a M Q⟩]
    [1000] [2] (by kernel_rfl) (by kernel_rfl) (by kernel_rfl) (by kernel_rfl) (by kernel_rfl)
    ⟨fun a M hn h => by obtain ⟨⟨n, f⟩, ds⟩ := a; have hn : n = 28 := hn; subst hn; obtain ⟨hd, h⟩ := dfr_iff h; have hd : ds = [] := hd; subst hd; exact h f rfl rfl rfl rfl,
    fun a M hn h => by obtain ⟨⟨n, f⟩, ds⟩ := a; have hn : n = 28 := hn; subst hn; obtain ⟨hd, h⟩ := dfr_iff h; have hd : ds = [] := hd; subst hd; exact h f rfl,
    trivial⟩
    (cast (by kernel_rfl) h)
def S_acts_Bytes_2 (x3 x9 x10 x11 : Value) (M : Store) (Q : Value → Store → Prop) : Prop :=
  OP (ixA 3 x9 x11) fun t13 =>
  OP (ld 3 true t13 M) fun t14 =>
  LT (.pointer (some ⟨M.n, 0, none⟩)) (M.push (some (.inl ([(.int .i64 0), (.int .i64 0), (.string ⟨#[]⟩)], Ty.api_Do, true)))) fun t5 M1 =>
  OP (st 3 t5 t14 M1) fun M2 =>
  OP (fad 0 t5) fun t16 =>
  OP (ld 1 false t16 M2) fun t17 =>
  R F.code_Num #[x3, t17] M2 fun t18 M3 =>
  TDj [0, 1, 2] [M2.n, M2.n, M2.n, M2.n] M2 M3 ∧
  OP (fad 1 t5) fun t19 =>
  OP (ld 1 false t19 M3) fun t20 =>
  R F.code_Num #[t18, t20] M3 fun t21 M4 =>
  TDj [0, 1, 2, 3, 4, 5] [M2.n, M2.n, M2.n, M2.n, M3.n, M3.n, M3.n] M3 M4 ∧
  OP (fad 2 t5) fun t22 =>
  OP (ld 1 false t22 M4) fun t23 =>
  OP2 (cvSB Ty.uint8 t23 M4) fun t24 M5 =>
  R F.code_Bytes #[t21, t24] M5 fun t25 M6 =>
  TDx [0, 0, 2, 7, 0, 16, 63, 0, 128, 384, 1023, 2047] [M2.n, M2.n, M2.n, M2.n, M3.n, M3.n, M3.n, M4.n, M4.n, M4.n, M5.n] 10 M5 M6 ∧
  OP (binI .add x11 (.int .i64 1)) fun t26 =>
  P_acts_Bytes_1 t25 x9 x10 t26 M6 Q
theorem T_acts_Bytes_2 {x3 x9 x10 x11 : Value} {M : Store} {Q : Value → Store → Prop} (h : S_acts_Bytes_2 x3 x9 x10 x11 M Q) : P_acts_Bytes_2 x3 x9 x10 x11 M Q := by
  intro f h3 h9 h10 h11; subst h3; subst h9; subst h10; subst h11
  unfold At
  exact rule (B := 1000) (N := 28) (ct := .no)
    [⟨0, fun a M => dfr a.defers (P_acts_Bytes_1 (a.get 3) (a.get 9) (a.get 10) (a.get 11) M Q), fun a M => At Try.prog Ex none Try.f62 [1, 1, 0, 1, 0] a M Q⟩]
    [] [0] (by kernel_rfl) (by kernel_rfl) (by kernel_rfl) (by kernel_rfl) (by kernel_rfl)
    ⟨fun a M hn h => by obtain ⟨⟨n, f⟩, ds⟩ := a; have hn : n = 28 := hn; subst hn; obtain ⟨hd, h⟩ := dfr_iff h; have hd : ds = [] := hd; subst hd; exact h f rfl rfl rfl rfl,
    trivial⟩
    (cast (by kernel_rfl) h)
def S_acts_Bytes_3 (x3 : Value) (M : Store) (Q : Value → Store → Prop) : Prop :=
  NTs [x3] ∧ Q x3 M
theorem T_acts_Bytes_3 {x3 : Value} {M : Store} {Q : Value → Store → Prop} (h : S_acts_Bytes_3 x3 M Q) : P_acts_Bytes_3 x3 M Q := by
  intro f h3; subst h3
  unfold At
  exact rule (B := 1000) (N := 28) (ct := .no)
    [⟨1, fun a M => kfin Try.prog Try.f62.results.toList Q 1 a M, fun a M => kfin Try.prog Try.f62.results.toList Q 1 a M⟩]
    [] [1] (by kernel_rfl) (by kernel_rfl) (by kernel_rfl) (by kernel_rfl) (by kernel_rfl)
    ⟨fun _ _ _ h => h,
    trivial⟩
    (cast (by kernel_rfl) h)
def P_prnt_action_1 (x4 x5 x10 x11 : Value) (M : Store) (Q : Value → Store → Prop) : Prop :=
  ∀ f : Nat → Value, f 4 = x4 → f 5 = x5 → f 10 = x10 → f 11 = x11 → At Try.prog Ex none Try.f64 [1, 1, 1, 0, 1, 0] ⟨⟨34, f⟩, []⟩ M Q
def P_prnt_action_2 (x4 x5 x10 x11 : Value) (M : Store) (Q : Value → Store → Prop) : Prop :=
  ∀ f : Nat → Value, f 4 = x4 → f 5 = x5 → f 10 = x10 → f 11 = x11 → At Try.prog Ex none Try.f64 [1, 1, 1, 0, 1, 0, 0, 1, 1] ⟨⟨34, f⟩, []⟩ M Q
def P_prnt_action_3 (x4 x5 : Value) (M : Store) (Q : Value → Store → Prop) : Prop :=
  ∀ f : Nat → Value, f 4 = x4 → f 5 = x5 → At Try.prog Ex none Try.f64 [1, 1, 1, 1] ⟨⟨34, f⟩, []⟩ M Q
def S_prnt_action (x0 : Value) (M : Store) (Q : Value → Store → Prop) : Prop :=
  R F.code_Read #[x0] M fun t8 M1 =>
  R F.code_Reader_Num #[t8, (.int .i64 8)] M1 fun t10 M2 =>
  P_prnt_action_1 t8 (.slice none 0 0) t10 (.int .i64 0) M2 Q
theorem T_prnt_action {x0 : Value} {M : Store} {Q : Value → Store → Prop} (h : S_prnt_action x0 M Q) : R F.prnt_action #[x0] M Q := by
  refine runs_of (c := bodyOf Try.f64) Try.func64 rfl (by kernel_rfl) (by kernel_rfl) ?_
  unfold At
  exact rule (B := 1000) (N := 34) (ct := (.two .no (.two .no (.two .no (.two (.two .no (.two (.here 1000) .no)) (.here 1001))))))
    [⟨1002, fun a M => dfr a.defers (P_prnt_action_1 (a.get 4) (a.get 5) (a.get 10) (a.get 11) M Q), fun a M => At Try.prog Ex none Try.f64 [1, 1, 1, 0, 1, 0] a M Q⟩,
    ⟨1003, fun _ _ => False, fun a M => At Try.prog Ex none Try.f64 [1, 1, 1, 1] a M Q⟩]
    [1000, 1001] [] (by kernel_rfl) (by kernel_rfl) (by kernel_rfl) (by kernel_rfl) (by kernel_rfl)
    ⟨fun a M hn h => by obtain ⟨⟨n, f⟩, ds⟩ := a; have hn : n = 34 := hn; subst hn; obtain ⟨hd, h⟩ := dfr_iff h; have hd : ds = [] := hd; subst hd; exact h f rfl rfl rfl rfl,
    fun _ _ _ h => h.elim,
    trivial⟩
    (cast (by kernel_rfl) h)
def S_prnt_action_1 (x4 x5 x10 x11 : Value) (M : Store) (Q : Value → Store → Prop) : Prop :=
  OP (binI .lss x11 x10) fun t12 =>
  BR t12 (
  P_prnt_action_2 x4 x5 x10 x11 M Q
  ) (
  P_prnt_action_3 x4 x5 M Q
  )
theorem T_prnt_action_1 {x4 x5 x10 x11 : Value} {M : Store} {Q : Value → Store → Prop} (h : S_prnt_action_1 x4 x5 x10 x11 M Q) : P_prnt_action_1 x4 x5 x10 x11 M Q := by
  intro f h4 h5 h10 h11; subst h4; subst h5; subst h10; subst h11
  unfold At
  refine cast (by kernel_rfl) (CW.loop (P := Try.prog) (E := Ex) (rd := none) (x := sub (bodyOf Try.f64) [1, 1, 1, 0, 1, 0, 0]) (a := ⟨⟨34, f⟩, []⟩) (M := M) (K := kcont Try.prog Ex none (bodyOf Try.f64) [1, 1, 1, 0, 1, 0] (kfin Try.prog Try.f64.results.toList Q)) ?_)
  exact rule (B := 1000) (N := 34) (ct := (.two .no (.two .no (.here 1000))))
    [⟨1002, fun a M => dfr a.defers (P_prnt_action_2 (a.get 4) (a.get 5) (a.get 10) (a.get 11) M Q), fun a M => At Try.prog Ex none Try.f64 [1, 1, 1, 0, 1, 0, 0, 1, 1] a M Q⟩,
    ⟨2, fun a M => dfr a.defers (P_prnt_action_3 (a.get 4) (a.get 5) M Q), fun a M => At Try.prog Ex none Try.f64 [1, 1, 1, 1] a M Q⟩]
    [1000] [2] (by kernel_rfl) (by kernel_rfl) (by kernel_rfl) (by kernel_rfl) (by kernel_rfl)
    ⟨fun a M hn h => by obtain ⟨⟨n, f⟩, ds⟩ := a; have hn : n = 34 := hn; subst hn; obtain ⟨hd, h⟩ := dfr_iff h; have hd : ds = [] := hd; subst hd; exact h f rfl rfl rfl rfl,
    fun a M hn h => by obtain ⟨⟨n, f⟩, ds⟩ := a; have hn : n = 34 := hn; subst hn; obtain ⟨hd, h⟩ := dfr_iff h; have hd : ds = [] := hd; subst hd; exact h f rfl rfl,
    trivial⟩
    (cast (by kernel_rfl) h)
def S_prnt_action_2 (x4 x5 x10 x11 : Value) (M : Store) (Q : Value → Store → Prop) : Prop :=
  R F.code_Reader_Num #[x4, (.int .i64 11)] M fun t14 M1 =>
  R F.code_Reader_Num #[x4, (.int .i64 999)] M1 fun t16 M2 =>
  OP (bldS #[(.int .i64 0), (.int .i64 0), (.string ⟨#[]⟩)] [(0, 1), (1, 1), (2, 1)] [(0, t14), (1, t16)]) fun t17 =>
  LT (.pointer (some ⟨M2.n, 0, none⟩)) (M2.push (some (.inl ([(.int .i64 0), (.int .i64 0), (.string ⟨#[]⟩)], Ty.api_Do, true)))) fun t6 M3 =>
  OP (st 3 t6 t17 M3) fun M4 =>
  R F.code_Reader_Bytes #[x4, (.int .i64 256)] M4 fun t19 M5 =>
  OP (cvBS t19 M5) fun t20 =>
  OP (fad 2 t6) fun t21 =>
  OP (st 1 t21 t20 M5) fun M6 =>
  OP (ld 3 true t6 M6) fun t23 =>
  OP (bldL (.agg #[(.int .i64 0), (.int .i64 0), (.string ⟨#[]⟩)]) 3 1 [(0, t23)]) fun c =>
  LT (.slice (some ⟨M6.n, 0, none⟩) 1 1) (M6.push (some (.inl (c, Ty.api_Do, true)))) fun t24 M7 =>
  OP2 (appV 3 Ty.api_Do x5 t24 M7) fun t25 M8 =>
  OP (binI .add x11 (.int .i64 1)) fun t26 =>
  P_prnt_action_1 x4 t25 x10 t26 M8 Q
theorem T_prnt_action_2 {x4 x5 x10 x11 : Value} {M : Store} {Q : Value → Store → Prop} (h : S_prnt_action_2 x4 x5 x10 x11 M Q) : P_prnt_action_2 x4 x5 x10 x11 M Q := by
  intro f h4 h5 h10 h11; subst h4; subst h5; subst h10; subst h11
  unfold At
  exact rule (B := 1000) (N := 34) (ct := .no)
    [⟨0, fun a M => dfr a.defers (P_prnt_action_1 (a.get 4) (a.get 5) (a.get 10) (a.get 11) M Q), fun a M => At Try.prog Ex none Try.f64 [1, 1, 1, 0, 1, 0] a M Q⟩]
    [] [0] (by kernel_rfl) (by kernel_rfl) (by kernel_rfl) (by kernel_rfl) (by kernel_rfl)
    ⟨fun a M hn h => by obtain ⟨⟨n, f⟩, ds⟩ := a; have hn : n = 34 := hn; subst hn; obtain ⟨hd, h⟩ := dfr_iff h; have hd : ds = [] := hd; subst hd; exact h f rfl rfl rfl rfl,
    trivial⟩
    (cast (by kernel_rfl) h)
def S_prnt_action_3 (x4 x5 : Value) (M : Store) (Q : Value → Store → Prop) : Prop :=
  R F.code_Reader_End #[x4] M fun t29 M1 =>
  BR t29 (
  R F.acts_Ok #[x5] M1 fun t32 M2 =>
  NTs [x5, t32] ∧ Q (.tuple #[x5, t32]) M2
  ) (
  NTs [x5, (.bool false)] ∧ Q (.tuple #[x5, (.bool false)]) M1
  )
theorem T_prnt_action_3 {x4 x5 : Value} {M : Store} {Q : Value → Store → Prop} (h : S_prnt_action_3 x4 x5 M Q) : P_prnt_action_3 x4 x5 M Q := by
  intro f h4 h5; subst h4; subst h5
  unfold At
  exact rule (B := 1000) (N := 34) (ct := .no)
    [⟨1, fun a M => kfin Try.prog Try.f64.results.toList Q 1 a M, fun a M => kfin Try.prog Try.f64.results.toList Q 1 a M⟩]
    [] [1] (by kernel_rfl) (by kernel_rfl) (by kernel_rfl) (by kernel_rfl) (by kernel_rfl)
    ⟨fun _ _ _ h => h,
    trivial⟩
    (cast (by kernel_rfl) h)
def S_bytes_Equal (x0 x1 : Value) (M : Store) (Q : Value → Store → Prop) : Prop :=
  OP (cvBS x0 M) fun t6 =>
  OP (cvBS x1 M) fun t8 =>
  OP (binS .eql t6 t8) fun t9 =>
  NTs [t9] ∧ Q t9 M
theorem T_bytes_Equal {x0 x1 : Value} {M : Store} {Q : Value → Store → Prop} (h : S_bytes_Equal x0 x1 M Q) : R F.bytes_Equal #[x0, x1] M Q := by
  refine runs_of (c := bodyOf Try.f68) Try.func68 rfl (by kernel_rfl) (by kernel_rfl) ?_
  unfold At
  exact rule (B := 1000) (N := 10) (ct := .no)
    [⟨1, fun a M => kfin Try.prog Try.f68.results.toList Q 1 a M, fun a M => kfin Try.prog Try.f68.results.toList Q 1 a M⟩]
    [] [1] (by kernel_rfl) (by kernel_rfl) (by kernel_rfl) (by kernel_rfl) (by kernel_rfl)
    ⟨fun _ _ _ h => h,
    trivial⟩
    (cast (by kernel_rfl) h)
def P_acts_Run_1 (x1 x6 x14 x15 x16 : Value) (M : Store) (Q : Value → Store → Prop) : Prop :=
  ∀ f : Nat → Value, f 1 = x1 → f 6 = x6 → f 14 = x14 → f 15 = x15 → f 16 = x16 → At Try.prog Ex none Try.f69 [1, 1, 1, 0, 1, 0] ⟨⟨39, f⟩, []⟩ M Q
def P_acts_Run_2 (x1 x6 x14 x15 x16 : Value) (M : Store) (Q : Value → Store → Prop) : Prop :=
  ∀ f : Nat → Value, f 1 = x1 → f 6 = x6 → f 14 = x14 → f 15 = x15 → f 16 = x16 → At Try.prog Ex none Try.f69 [1, 1, 1, 0, 1, 0, 0, 1, 1] ⟨⟨39, f⟩, []⟩ M Q
def P_acts_Run_3 (x6 : Value) (M : Store) (Q : Value → Store → Prop) : Prop :=
  ∀ f : Nat → Value, f 6 = x6 → At Try.prog Ex none Try.f69 [1, 1, 1, 1] ⟨⟨39, f⟩, []⟩ M Q
def S_acts_Run (x0 x1 : Value) (M : Store) (Q : Value → Store → Prop) : Prop :=
  R F.acts_Ok #[x0] M fun t12 M1 =>
  OP (aun .not t12) fun t13 =>
  BR t13 (
  NTs [(.slice none 0 0), (.bool false)] ∧ Q (.tuple #[(.slice none 0 0), (.bool false)]) M1
  ) (
  OP (lenV x0) fun t15 =>
  P_acts_Run_1 x1 (.slice none 0 0) x0 t15 (.int .i64 0) M1 Q
  )
theorem T_acts_Run {x0 x1 : Value} {M : Store} {Q : Value → Store → Prop} (h : S_acts_Run x0 x1 M Q) : R F.acts_Run #[x0, x1] M Q := by
  refine runs_of (c := bodyOf Try.f69) Try.func69 rfl (by kernel_rfl) (by kernel_rfl) ?_
  unfold At
  exact rule (B := 1000) (N := 39) (ct := (.two .no (.two .no (.two .no (.two (.two .no (.two (.here 1000) .no)) (.here 1001))))))
    [⟨1002, fun a M => dfr a.defers (P_acts_Run_1 (a.get 1) (a.get 6) (a.get 14) (a.get 15) (a.get 16) M Q), fun a M => At Try.prog Ex none Try.f69 [1, 1, 1, 0, 1, 0] a M Q⟩,
    ⟨1003, fun _ _ => False, fun a M => At Try.prog Ex none Try.f69 [1, 1, 1, 1] a M Q⟩,
    ⟨1, fun a M => kfin Try.prog Try.f69.results.toList Q 1 a M, fun a M => kfin Try.prog Try.f69.results.toList Q 1 a M⟩]
    [1000, 1001] [1] (by kernel_rfl) (by kernel_rfl) (by kernel_rfl) (by kernel_rfl) (by kernel_rfl)
    ⟨fun a M hn h => by obtain ⟨⟨n, f⟩, ds⟩ := a; have hn : n = 39 := hn; subst hn; obtain ⟨hd, h⟩ := dfr_iff h; have hd : ds = [] := hd; subst hd; exact h f rfl rfl rfl rfl rfl,
    fun _ _ _ h => h.elim,
    fun _ _ _ h => h,
    trivial⟩
    (cast (by kernel_rfl) h)
def S_acts_Run_1 (x1 x6 x14 x15 x16 : Value) (M : Store) (Q : Value → Store → Prop) : Prop :=
  OP (binI .lss x16 x15) fun t17 =>
  BR t17 (
  P_acts_Run_2 x1 x6 x14 x15 x16 M Q
  ) (
  P_acts_Run_3 x6 M Q
  )
theorem T_acts_Run_1 {x1 x6 x14 x15 x16 : Value} {M : Store} {Q : Value → Store → Prop} (h : S_acts_Run_1 x1 x6 x14 x15 x16 M Q) : P_acts_Run_1 x1 x6 x14 x15 x16 M Q := by
  intro f h1 h6 h14 h15 h16; subst h1; subst h6; subst h14; subst h15; subst h16
  unfold At
  refine cast (by kernel_rfl) (CW.loop (P := Try.prog) (E := Ex) (rd := none) (x := sub (bodyOf Try.f69) [1, 1, 1, 0, 1, 0, 0]) (a := ⟨⟨39, f⟩, []⟩) (M := M) (K := kcont Try.prog Ex none (bodyOf Try.f69) [1, 1, 1, 0, 1, 0] (kfin Try.prog Try.f69.results.toList Q)) ?_)
  exact rule (B := 1000) (N := 39) (ct := (.two .no (.two .no (.here 1000))))
    [⟨1002, fun a M => dfr a.defers (P_acts_Run_2 (a.get 1) (a.get 6) (a.get 14) (a.get 15) (a.get 16) M Q), fun a M => At Try.prog Ex none Try.f69 [1, 1, 1, 0, 1, 0, 0, 1, 1] a M Q⟩,
    ⟨2, fun a M => dfr a.defers (P_acts_Run_3 (a.get 6) M Q), fun a M => At Try.prog Ex none Try.f69 [1, 1, 1, 1] a M Q⟩]
    [1000] [2] (by kernel_rfl) (by kernel_rfl) (by kernel_rfl) (by kernel_rfl) (by kernel_rfl)
    ⟨fun a M hn h => by obtain ⟨⟨n, f⟩, ds⟩ := a; have hn : n = 39 := hn; subst hn; obtain ⟨hd, h⟩ := dfr_iff h; have hd : ds = [] := hd; subst hd; exact h f rfl rfl rfl rfl rfl,
    fun a M hn h => by obtain ⟨⟨n, f⟩, ds⟩ := a; have hn : n = 39 := hn; subst hn; obtain ⟨hd, h⟩ := dfr_iff h; have hd : ds = [] := hd; subst hd; exact h f rfl,
    trivial⟩
    (cast (by kernel_rfl) h)
def S_acts_Run_2 (x1 x6 x14 x15 x16 : Value) (M : Store) (Q : Value → Store → Prop) : Prop :=
  OP (ixA 3 x14 x16) fun t18 =>
  OP (ld 3 true t18 M) fun t19 =>
  LT (.pointer (some ⟨M.n, 0, none⟩)) (M.push (some (.inl ([(.int .i64 0), (.int .i64 0), (.string ⟨#[]⟩)], Ty.api_Do, true)))) fun t8 M1 =>
  OP (st 3 t8 t19 M1) fun M2 =>
  OP (ld 3 true t8 M2) fun t21 =>
  R F.acts_step #[t21, x1, x6] M2 fun t24 M3 =>
  OP (tup t24 0) fun t25 =>
  OP (tup t24 1) fun t26 =>
  OP (aun .not t26) fun t28 =>
  BR t28 (
  NTs [(.slice none 0 0), (.bool false)] ∧ Q (.tuple #[(.slice none 0 0), (.bool false)]) M3
  ) (
  OP (lenV t25) fun t31 =>
  OP (binI .gtr t31 (.int .i64 256)) fun t32 =>
  BR t32 (
  NTs [(.slice none 0 0), (.bool false)] ∧ Q (.tuple #[(.slice none 0 0), (.bool false)]) M3
  ) (
  OP (binI .add x16 (.int .i64 1)) fun t35 =>
  P_acts_Run_1 x1 t25 x14 x15 t35 M3 Q
  )
  )
theorem T_acts_Run_2 {x1 x6 x14 x15 x16 : Value} {M : Store} {Q : Value → Store → Prop} (h : S_acts_Run_2 x1 x6 x14 x15 x16 M Q) : P_acts_Run_2 x1 x6 x14 x15 x16 M Q := by
  intro f h1 h6 h14 h15 h16; subst h1; subst h6; subst h14; subst h15; subst h16
  unfold At
  exact rule (B := 1000) (N := 39) (ct := .no)
    [⟨0, fun a M => dfr a.defers (P_acts_Run_1 (a.get 1) (a.get 6) (a.get 14) (a.get 15) (a.get 16) M Q), fun a M => At Try.prog Ex none Try.f69 [1, 1, 1, 0, 1, 0] a M Q⟩,
    ⟨1, fun a M => kfin Try.prog Try.f69.results.toList Q 1 a M, fun a M => kfin Try.prog Try.f69.results.toList Q 1 a M⟩]
    [] [0, 1] (by kernel_rfl) (by kernel_rfl) (by kernel_rfl) (by kernel_rfl) (by kernel_rfl)
    ⟨fun a M hn h => by obtain ⟨⟨n, f⟩, ds⟩ := a; have hn : n = 39 := hn; subst hn; obtain ⟨hd, h⟩ := dfr_iff h; have hd : ds = [] := hd; subst hd; exact h f rfl rfl rfl rfl rfl,
    fun _ _ _ h => h,
    trivial⟩
    (cast (by kernel_rfl) h)
def S_acts_Run_3 (x6 : Value) (M : Store) (Q : Value → Store → Prop) : Prop :=
  R F.slices_Clone_sl_byte_byte #[x6] M fun t37 M1 =>
  R F.slices_Clip_sl_byte_byte #[t37] M1 fun t38 M2 =>
  NTs [t38, (.bool true)] ∧ Q (.tuple #[t38, (.bool true)]) M2
theorem T_acts_Run_3 {x6 : Value} {M : Store} {Q : Value → Store → Prop} (h : S_acts_Run_3 x6 M Q) : P_acts_Run_3 x6 M Q := by
  intro f h6; subst h6
  unfold At
  exact rule (B := 1000) (N := 39) (ct := .no)
    [⟨1, fun a M => kfin Try.prog Try.f69.results.toList Q 1 a M, fun a M => kfin Try.prog Try.f69.results.toList Q 1 a M⟩]
    [] [1] (by kernel_rfl) (by kernel_rfl) (by kernel_rfl) (by kernel_rfl) (by kernel_rfl)
    ⟨fun _ _ _ h => h,
    trivial⟩
    (cast (by kernel_rfl) h)
def P_fettleref4_ActBytes_1 (x0 x3 x4 : Value) (M : Store) (Q : Value → Store → Prop) : Prop :=
  ∀ f : Nat → Value, f 0 = x0 → f 3 = x3 → f 4 = x4 → At Try.prog Ex none Try.f72 [1, 1, 0, 1, 0] ⟨⟨35, f⟩, []⟩ M Q
def P_fettleref4_ActBytes_2 (x0 x3 x4 : Value) (M : Store) (Q : Value → Store → Prop) : Prop :=
  ∀ f : Nat → Value, f 0 = x0 → f 3 = x3 → f 4 = x4 → At Try.prog Ex none Try.f72 [1, 1, 0, 1, 0, 0, 1] ⟨⟨35, f⟩, []⟩ M Q
def P_fettleref4_ActBytes_3 (x3 : Value) (M : Store) (Q : Value → Store → Prop) : Prop :=
  ∀ f : Nat → Value, f 3 = x3 → At Try.prog Ex none Try.f72 [1, 1, 1] ⟨⟨35, f⟩, []⟩ M Q
def S_fettleref4_ActBytes (x0 : Value) (M : Store) (Q : Value → Store → Prop) : Prop :=
  OP (lenV x0) fun t6 =>
  R F.fettleref1_Num #[(.slice none 0 0), t6] M fun t7 M1 =>
  P_fettleref4_ActBytes_1 x0 t7 (.int .i64 0) M1 Q
theorem T_fettleref4_ActBytes {x0 : Value} {M : Store} {Q : Value → Store → Prop} (h : S_fettleref4_ActBytes x0 M Q) : R F.fettleref4_ActBytes #[x0] M Q := by
  refine runs_of (c := bodyOf Try.f72) Try.func72 rfl (by kernel_rfl) (by kernel_rfl) ?_
  unfold At
  exact rule (B := 1000) (N := 35) (ct := (.two .no (.two .no (.two (.two .no (.two (.here 1000) .no)) (.here 1001)))))
    [⟨1002, fun a M => dfr a.defers (P_fettleref4_ActBytes_1 (a.get 0) (a.get 3) (a.get 4) M Q), fun a M => At Try.prog Ex none Try.f72 [1, 1, 0, 1, 0] a M Q⟩,
    ⟨1003, fun _ _ => False, fun a M => At Try.prog Ex none Try.f72 [1, 1, 1] a M Q⟩]
    [1000, 1001] [] (by kernel_rfl) (by kernel_rfl) (by kernel_rfl) (by kernel_rfl) (by kernel_rfl)
    ⟨fun a M hn h => by obtain ⟨⟨n, f⟩, ds⟩ := a; have hn : n = 35 := hn; subst hn; obtain ⟨hd, h⟩ := dfr_iff h; have hd : ds = [] := hd; subst hd; exact h f rfl rfl rfl,
    fun _ _ _ h => h.elim,
    trivial⟩
    (cast (by kernel_rfl) h)
def S_fettleref4_ActBytes_1 (x0 x3 x4 : Value) (M : Store) (Q : Value → Store → Prop) : Prop :=
  OP (lenV x0) fun t10 =>
  OP (binI .lss x4 t10) fun t11 =>
  BR t11 (
  P_fettleref4_ActBytes_2 x0 x3 x4 M Q
  ) (
  P_fettleref4_ActBytes_3 x3 M Q
  )
theorem T_fettleref4_ActBytes_1 {x0 x3 x4 : Value} {M : Store} {Q : Value → Store → Prop} (h : S_fettleref4_ActBytes_1 x0 x3 x4 M Q) : P_fettleref4_ActBytes_1 x0 x3 x4 M Q := by
  intro f h0 h3 h4; subst h0; subst h3; subst h4
  unfold At
  refine cast (by kernel_rfl) (CW.loop (P := Try.prog) (E := Ex) (rd := none) (x := sub (bodyOf Try.f72) [1, 1, 0, 1, 0, 0]) (a := ⟨⟨35, f⟩, []⟩) (M := M) (K := kcont Try.prog Ex none (bodyOf Try.f72) [1, 1, 0, 1, 0] (kfin Try.prog Try.f72.results.toList Q)) ?_)
  exact rule (B := 1000) (N := 35) (ct := (.two .no (.here 1000)))
    [⟨1002, fun a M => dfr a.defers (P_fettleref4_ActBytes_2 (a.get 0) (a.get 3) (a.get 4) M Q), fun a M => At Try.prog Ex none Try.f72 [1, 1, 0, 1, 0, 0, 1] a M Q⟩,
    ⟨2, fun a M => dfr a.defers (P_fettleref4_ActBytes_3 (a.get 3) M Q), fun a M => At Try.prog Ex none Try.f72 [1, 1, 1] a M Q⟩]
    [1000] [2] (by kernel_rfl) (by kernel_rfl) (by kernel_rfl) (by kernel_rfl) (by kernel_rfl)
    ⟨fun a M hn h => by obtain ⟨⟨n, f⟩, ds⟩ := a; have hn : n = 35 := hn; subst hn; obtain ⟨hd, h⟩ := dfr_iff h; have hd : ds = [] := hd; subst hd; exact h f rfl rfl rfl,
    fun a M hn h => by obtain ⟨⟨n, f⟩, ds⟩ := a; have hn : n = 35 := hn; subst hn; obtain ⟨hd, h⟩ := dfr_iff h; have hd : ds = [] := hd; subst hd; exact h f rfl,
    trivial⟩
    (cast (by kernel_rfl) h)
def S_fettleref4_ActBytes_2 (x0 x3 x4 : Value) (M : Store) (Q : Value → Store → Prop) : Prop :=
  OP (ixA 3 x0 x4) fun t17 =>
  OP (fad 0 t17) fun t18 =>
  OP (ld 1 false t18 M) fun t19 =>
  R F.fettleref1_Num #[x3, t19] M fun t20 M1 =>
  TDj [0, 1, 2, 3, 4, 5] [M.n, M.n, M.n, M.n, M.n, M.n, M.n] M M1 ∧
  OP (ixA 3 x0 x4) fun t23 =>
  OP (fad 1 t23) fun t24 =>
  OP (ld 1 false t24 M1) fun t25 =>
  R F.fettleref1_Num #[t20, t25] M1 fun t26 M2 =>
  TDj [0, 1, 2, 3, 4, 5, 6, 7, 8, 9, 10, 11] [M.n, M.n, M.n, M.n, M.n, M.n, M.n, M1.n, M1.n, M1.n, M1.n, M1.n, M1.n] M1 M2 ∧
  OP (ixA 3 x0 x4) fun t29 =>
  OP (fad 2 t29) fun t30 =>
  OP (ld 1 false t30 M2) fun t31 =>
  OP2 (cvSB Ty.uint8 t31 M2) fun t32 M3 =>
  R F.fettleref1_Bytes #[t26, t32] M3 fun t33 M4 =>
  TDx [0, 0, 0, 6, 14, 30, 63, 0, 0, 384, 896, 1920, 4095, 0, 0, 24576, 57344, 122880, 253952, 524287, 1048575] [M.n, M.n, M.n, M.n, M.n, M.n, M.n, M1.n, M1.n, M1.n, M1.n, M1.n, M1.n, M2.n, M2.n, M2.n, M2.n, M2.n, M2.n, M3.n] 19 M3 M4 ∧
  OP (binI .add x4 (.int .i64 1)) fun t13 =>
  P_fettleref4_ActBytes_1 x0 t33 t13 M4 Q
theorem T_fettleref4_ActBytes_2 {x0 x3 x4 : Value} {M : Store} {Q : Value → Store → Prop} (h : S_fettleref4_ActBytes_2 x0 x3 x4 M Q) : P_fettleref4_ActBytes_2 x0 x3 x4 M Q := by
  intro f h0 h3 h4; subst h0; subst h3; subst h4
  unfold At
  exact rule (B := 1000) (N := 35) (ct := .no)
    [⟨0, fun a M => dfr a.defers (P_fettleref4_ActBytes_1 (a.get 0) (a.get 3) (a.get 4) M Q), fun a M => At Try.prog Ex none Try.f72 [1, 1, 0, 1, 0] a M Q⟩]
    [] [0] (by kernel_rfl) (by kernel_rfl) (by kernel_rfl) (by kernel_rfl) (by kernel_rfl)
    ⟨fun a M hn h => by obtain ⟨⟨n, f⟩, ds⟩ := a; have hn : n = 35 := hn; subst hn; obtain ⟨hd, h⟩ := dfr_iff h; have hd : ds = [] := hd; subst hd; exact h f rfl rfl rfl,
    trivial⟩
    (cast (by kernel_rfl) h)
def S_fettleref4_ActBytes_3 (x3 : Value) (M : Store) (Q : Value → Store → Prop) : Prop :=
  NTs [x3] ∧ Q x3 M
theorem T_fettleref4_ActBytes_3 {x3 : Value} {M : Store} {Q : Value → Store → Prop} (h : S_fettleref4_ActBytes_3 x3 M Q) : P_fettleref4_ActBytes_3 x3 M Q := by
  intro f h3; subst h3
  unfold At
  exact rule (B := 1000) (N := 35) (ct := .no)
    [⟨1, fun a M => kfin Try.prog Try.f72.results.toList Q 1 a M, fun a M => kfin Try.prog Try.f72.results.toList Q 1 a M⟩]
    [] [1] (by kernel_rfl) (by kernel_rfl) (by kernel_rfl) (by kernel_rfl) (by kernel_rfl)
    ⟨fun _ _ _ h => h,
    trivial⟩
    (cast (by kernel_rfl) h)
def P_fettleref10_act_1 (x4 x5 x6 : Value) (M : Store) (Q : Value → Store → Prop) : Prop :=
  ∀ f : Nat → Value, f 4 = x4 → f 5 = x5 → f 6 = x6 → At Try.prog Ex none Try.f73 [1, 1, 1, 0, 1, 0] ⟨⟨37, f⟩, []⟩ M Q
def P_fettleref10_act_2 (x4 x5 x6 : Value) (M : Store) (Q : Value → Store → Prop) : Prop :=
  ∀ f : Nat → Value, f 4 = x4 → f 5 = x5 → f 6 = x6 → At Try.prog Ex none Try.f73 [1, 1, 1, 0, 1, 0, 0, 1] ⟨⟨37, f⟩, []⟩ M Q
def P_fettleref10_act_3 (x4 x5 : Value) (M : Store) (Q : Value → Store → Prop) : Prop :=
  ∀ f : Nat → Value, f 4 = x4 → f 5 = x5 → At Try.prog Ex none Try.f73 [1, 1, 1, 1] ⟨⟨37, f⟩, []⟩ M Q
def S_fettleref10_act (x0 : Value) (M : Store) (Q : Value → Store → Prop) : Prop :=
  OP (bldS #[(.slice none 0 0), (.bool false)] [(0, 1), (1, 1)] [(0, x0)]) fun t9 =>
  OP (boxv t9) fun c =>
  LT (.pointer (some ⟨M.n, 0, none⟩)) (M.push (some (.inl (c, Ty.fettleref1_Reader, true)))) fun t10 M1 =>
  R F.fettleref1_Reader_Num #[t10, (.int .i64 8)] M1 fun t12 M2 =>
  P_fettleref10_act_1 t10 (.slice none 0 0) t12 M2 Q
theorem T_fettleref10_act {x0 : Value} {M : Store} {Q : Value → Store → Prop} (h : S_fettleref10_act x0 M Q) : R F.fettleref10_act #[x0] M Q := by
  refine runs_of (c := bodyOf Try.f73) Try.func73 rfl (by kernel_rfl) (by kernel_rfl) ?_
  unfold At
  exact rule (B := 1000) (N := 37) (ct := (.two .no (.two .no (.two .no (.two (.two .no (.two (.here 1000) .no)) (.here 1001))))))
    [⟨1002, fun a M => dfr a.defers (P_fettleref10_act_1 (a.get 4) (a.get 5) (a.get 6) M Q), fun a M => At Try.prog Ex none Try.f73 [1, 1, 1, 0, 1, 0] a M Q⟩,
    ⟨1003, fun _ _ => False, fun a M => At Try.prog Ex none Try.f73 [1, 1, 1, 1] a M Q⟩]
    [1000, 1001] [] (by kernel_rfl) (by kernel_rfl) (by kernel_rfl) (by kernel_rfl) (by kernel_rfl)
    ⟨fun a M hn h => by obtain ⟨⟨n, f⟩, ds⟩ := a; have hn : n = 37 := hn; subst hn; obtain ⟨hd, h⟩ := dfr_iff h; have hd : ds = [] := hd; subst hd; exact h f rfl rfl rfl,
    fun _ _ _ h => h.elim,
    trivial⟩
    (cast (by kernel_rfl) h)
def S_fettleref10_act_1 (x4 x5 x6 : Value) (M : Store) (Q : Value → Store → Prop) : Prop :=
  OP (binI .gtr x6 (.int .i64 0)) fun t14 =>
  BR t14 (
  P_fettleref10_act_2 x4 x5 x6 M Q
  ) (
  P_fettleref10_act_3 x4 x5 M Q
  )
theorem T_fettleref10_act_1 {x4 x5 x6 : Value} {M : Store} {Q : Value → Store → Prop} (h : S_fettleref10_act_1 x4 x5 x6 M Q) : P_fettleref10_act_1 x4 x5 x6 M Q := by
  intro f h4 h5 h6; subst h4; subst h5; subst h6
  unfold At
  refine cast (by kernel_rfl) (CW.loop (P := Try.prog) (E := Ex) (rd := none) (x := sub (bodyOf Try.f73) [1, 1, 1, 0, 1, 0, 0]) (a := ⟨⟨37, f⟩, []⟩) (M := M) (K := kcont Try.prog Ex none (bodyOf Try.f73) [1, 1, 1, 0, 1, 0] (kfin Try.prog Try.f73.results.toList Q)) ?_)
  exact rule (B := 1000) (N := 37) (ct := (.two .no (.here 1000)))
    [⟨1002, fun a M => dfr a.defers (P_fettleref10_act_2 (a.get 4) (a.get 5) (a.get 6) M Q), fun a M => At Try.prog Ex none Try.f73 [1, 1, 1, 0, 1, 0, 0, 1] a M Q⟩,
    ⟨2, fun a M => dfr a.defers (P_fettleref10_act_3 (a.get 4) (a.get 5) M Q), fun a M => At Try.prog Ex none Try.f73 [1, 1, 1, 1] a M Q⟩]
    [1000] [2] (by kernel_rfl) (by kernel_rfl) (by kernel_rfl) (by kernel_rfl) (by kernel_rfl)
    ⟨fun a M hn h => by obtain ⟨⟨n, f⟩, ds⟩ := a; have hn : n = 37 := hn; subst hn; obtain ⟨hd, h⟩ := dfr_iff h; have hd : ds = [] := hd; subst hd; exact h f rfl rfl rfl,
    fun a M hn h => by obtain ⟨⟨n, f⟩, ds⟩ := a; have hn : n = 37 := hn; subst hn; obtain ⟨hd, h⟩ := dfr_iff h; have hd : ds = [] := hd; subst hd; exact h f rfl rfl,
    trivial⟩
    (cast (by kernel_rfl) h)
def S_fettleref10_act_2 (x4 x5 x6 : Value) (M : Store) (Q : Value → Store → Prop) : Prop :=
  R F.fettleref1_Reader_Num #[x4, (.int .i64 11)] M fun t18 M1 =>
  R F.fettleref1_Reader_Num #[x4, (.int .i64 999)] M1 fun t20 M2 =>
  OP (bldS #[(.int .i64 0), (.int .i64 0), (.string ⟨#[]⟩)] [(0, 1), (1, 1), (2, 1)] [(0, t18), (1, t20)]) fun t21 =>
  LT (.pointer (some ⟨M2.n, 0, none⟩)) (M2.push (some (.inl ([(.int .i64 0), (.int .i64 0), (.string ⟨#[]⟩)], Ty.api_Do, true)))) fun t7 M3 =>
  OP (st 3 t7 t21 M3) fun M4 =>
  R F.fettleref1_Reader_Bytes #[x4, (.int .i64 64)] M4 fun t23 M5 =>
  OP (cvBS t23 M5) fun t24 =>
  OP (fad 2 t7) fun t25 =>
  OP (st 1 t25 t24 M5) fun M6 =>
  OP (ld 3 true t7 M6) fun t27 =>
  OP (bldL (.agg #[(.int .i64 0), (.int .i64 0), (.string ⟨#[]⟩)]) 3 1 [(0, t27)]) fun c =>
  LT (.slice (some ⟨M6.n, 0, none⟩) 1 1) (M6.push (some (.inl (c, Ty.api_Do, true)))) fun t28 M7 =>
  OP2 (appV 3 Ty.api_Do x5 t28 M7) fun t29 M8 =>
  OP (binI .sub x6 (.int .i64 1)) fun t16 =>
  P_fettleref10_act_1 x4 t29 t16 M8 Q
theorem T_fettleref10_act_2 {x4 x5 x6 : Value} {M : Store} {Q : Value → Store → Prop} (h : S_fettleref10_act_2 x4 x5 x6 M Q) : P_fettleref10_act_2 x4 x5 x6 M Q := by
  intro f h4 h5 h6; subst h4; subst h5; subst h6
  unfold At
  exact rule (B := 1000) (N := 37) (ct := .no)
    [⟨0, fun a M => dfr a.defers (P_fettleref10_act_1 (a.get 4) (a.get 5) (a.get 6) M Q), fun a M => At Try.prog Ex none Try.f73 [1, 1, 1, 0, 1, 0] a M Q⟩]
    [] [0] (by kernel_rfl) (by kernel_rfl) (by kernel_rfl) (by kernel_rfl) (by kernel_rfl)
    ⟨fun a M hn h => by obtain ⟨⟨n, f⟩, ds⟩ := a; have hn : n = 37 := hn; subst hn; obtain ⟨hd, h⟩ := dfr_iff h; have hd : ds = [] := hd; subst hd; exact h f rfl rfl rfl,
    trivial⟩
    (cast (by kernel_rfl) h)
def S_fettleref10_act_3 (x4 x5 : Value) (M : Store) (Q : Value → Store → Prop) : Prop :=
  R F.fettleref1_Reader_End #[x4] M fun t32 M1 =>
  BR t32 (
  R F.fettleref4_OkAct #[x5] M1 fun t35 M2 =>
  NTs [x5, t35] ∧ Q (.tuple #[x5, t35]) M2
  ) (
  NTs [x5, (.bool false)] ∧ Q (.tuple #[x5, (.bool false)]) M1
  )
theorem T_fettleref10_act_3 {x4 x5 : Value} {M : Store} {Q : Value → Store → Prop} (h : S_fettleref10_act_3 x4 x5 M Q) : P_fettleref10_act_3 x4 x5 M Q := by
  intro f h4 h5; subst h4; subst h5
  unfold At
  exact rule (B := 1000) (N := 37) (ct := .no)
    [⟨1, fun a M => kfin Try.prog Try.f73.results.toList Q 1 a M, fun a M => kfin Try.prog Try.f73.results.toList Q 1 a M⟩]
    [] [1] (by kernel_rfl) (by kernel_rfl) (by kernel_rfl) (by kernel_rfl) (by kernel_rfl)
    ⟨fun _ _ _ h => h,
    trivial⟩
    (cast (by kernel_rfl) h)
def P_fettleref4_OkAct_1 (x0 x3 : Value) (M : Store) (Q : Value → Store → Prop) : Prop :=
  ∀ f : Nat → Value, f 0 = x0 → f 3 = x3 → At Try.prog Ex none Try.f77 [1, 0, 1, 0] ⟨⟨98, f⟩, []⟩ M Q
def P_fettleref4_OkAct_2 (x0 x3 : Value) (M : Store) (Q : Value → Store → Prop) : Prop :=
  ∀ f : Nat → Value, f 0 = x0 → f 3 = x3 → At Try.prog Ex none Try.f77 [1, 0, 1, 0, 0, 1] ⟨⟨98, f⟩, []⟩ M Q
def P_fettleref4_OkAct_3 (x0 : Value) (M : Store) (Q : Value → Store → Prop) : Prop :=
  ∀ f : Nat → Value, f 0 = x0 → At Try.prog Ex none Try.f77 [1, 1] ⟨⟨98, f⟩, []⟩ M Q
def P_fettleref4_OkAct_4 (x0 x3 x4 x5 x6 x7 : Value) (M : Store) (Q : Value → Store → Prop) : Prop :=
  ∀ f : Nat → Value, f 0 = x0 → f 3 = x3 → f 4 = x4 → f 5 = x5 → f 6 = x6 → f 7 = x7 → At Try.prog Ex none Try.f77 [1, 0, 1, 0, 0, 1, 0, 0, 1, 1, 1, 1, 1] ⟨⟨98, f⟩, []⟩ M Q
def P_fettleref4_OkAct_5 (x0 x3 x4 x5 x6 x7 : Value) (M : Store) (Q : Value → Store → Prop) : Prop :=
  ∀ f : Nat → Value, f 0 = x0 → f 3 = x3 → f 4 = x4 → f 5 = x5 → f 6 = x6 → f 7 = x7 → At Try.prog Ex none Try.f77 [1, 0, 1, 0, 0, 1, 0, 0, 1, 1, 1, 1, 1, 1] ⟨⟨98, f⟩, []⟩ M Q
def P_fettleref4_OkAct_6 (x0 x3 : Value) (M : Store) (Q : Value → Store → Prop) : Prop :=
  ∀ f : Nat → Value, f 0 = x0 → f 3 = x3 → At Try.prog Ex none Try.f77 [1, 0, 1, 0, 0, 1, 1] ⟨⟨98, f⟩, []⟩ M Q
def S_fettleref4_OkAct (x0 : Value) (M : Store) (Q : Value → Store → Prop) : Prop :=
  P_fettleref4_OkAct_1 x0 (.int .i64 0) M Q
theorem T_fettleref4_OkAct {x0 : Value} {M : Store} {Q : Value → Store → Prop} (h : S_fettleref4_OkAct x0 M Q) : R F.fettleref4_OkAct #[x0] M Q := by
  refine runs_of (c := bodyOf Try.f77) Try.func77 rfl (by kernel_rfl) (by kernel_rfl) ?_
  unfold At
  exact rule (B := 1000) (N := 98) (ct := (.two .no (.two (.two .no (.two (.here 1000) .no)) (.here 1001))))
    [⟨1002, fun a M => dfr a.defers (P_fettleref4_OkAct_1 (a.get 0) (a.get 3) M Q), fun a M => At Try.prog Ex none Try.f77 [1, 0, 1, 0] a M Q⟩,
    ⟨1003, fun _ _ => False, fun a M => At Try.prog Ex none Try.f77 [1, 1] a M Q⟩]
    [1000, 1001] [] (by kernel_rfl) (by kernel_rfl) (by kernel_rfl) (by kernel_rfl) (by kernel_rfl)
    ⟨fun a M hn h => by obtain ⟨⟨n, f⟩, ds⟩ := a; have hn : n = 98 := hn; subst hn; obtain ⟨hd, h⟩ := dfr_iff h; have hd : ds = [] := hd; subst hd; exact h f rfl rfl,
    fun _ _ _ h => h.elim,
    trivial⟩
    (cast (by kernel_rfl) h)
def S_fettleref4_OkAct_1 (x0 x3 : Value) (M : Store) (Q : Value → Store → Prop) : Prop :=
  OP (lenV x0) fun t10 =>
  OP (binI .lss x3 t10) fun t11 =>
  BR t11 (
  P_fettleref4_OkAct_2 x0 x3 M Q
  ) (
  P_fettleref4_OkAct_3 x0 M Q
  )
theorem T_fettleref4_OkAct_1 {x0 x3 : Value} {M : Store} {Q : Value → Store → Prop} (h : S_fettleref4_OkAct_1 x0 x3 M Q) : P_fettleref4_OkAct_1 x0 x3 M Q := by
  intro f h0 h3; subst h0; subst h3
  unfold At
  refine cast (by kernel_rfl) (CW.loop (P := Try.prog) (E := Ex) (rd := none) (x := sub (bodyOf Try.f77) [1, 0, 1, 0, 0]) (a := ⟨⟨98, f⟩, []⟩) (M := M) (K := kcont Try.prog Ex none (bodyOf Try.f77) [1, 0, 1, 0] (kfin Try.prog Try.f77.results.toList Q)) ?_)
  exact rule (B := 1000) (N := 98) (ct := (.two .no (.here 1000)))
    [⟨1002, fun a M => dfr a.defers (P_fettleref4_OkAct_2 (a.get 0) (a.get 3) M Q), fun a M => At Try.prog Ex none Try.f77 [1, 0, 1, 0, 0, 1] a M Q⟩,
    ⟨2, fun a M => dfr a.defers (P_fettleref4_OkAct_3 (a.get 0) M Q), fun a M => At Try.prog Ex none Try.f77 [1, 1] a M Q⟩]
    [1000] [2] (by kernel_rfl) (by kernel_rfl) (by kernel_rfl) (by kernel_rfl) (by kernel_rfl)
    ⟨fun a M hn h => by obtain ⟨⟨n, f⟩, ds⟩ := a; have hn : n = 98 := hn; subst hn; obtain ⟨hd, h⟩ := dfr_iff h; have hd : ds = [] := hd; subst hd; exact h f rfl rfl,
    fun a M hn h => by obtain ⟨⟨n, f⟩, ds⟩ := a; have hn : n = 98 := hn; subst hn; obtain ⟨hd, h⟩ := dfr_iff h; have hd : ds = [] := hd; subst hd; exact h f rfl,
    trivial⟩
    (cast (by kernel_rfl) h)
def S_fettleref4_OkAct_2 (x0 x3 : Value) (M : Store) (Q : Value → Store → Prop) : Prop :=
  OP (ixA 3 x0 x3) fun t16 =>
  OP (ld 3 true t16 M) fun t17 =>
  LT (.pointer (some ⟨M.n, 0, none⟩)) (M.push (some (.inl ([(.int .i64 0), (.int .i64 0), (.string ⟨#[]⟩)], Ty.api_Do, true)))) fun t4 M1 =>
  OP (st 3 t4 t17 M1) fun M2 =>
  OP (fad 0 t4) fun t18 =>
  OP (ld 1 false t18 M2) fun t19 =>
  OP (binI .eql t19 (.int .i64 1)) fun t20 =>
  BR t20 (
  OP (fad 0 t4) fun t31 =>
  OP (ld 1 false t31 M2) fun t32 =>
  OP (binI .eql t32 (.int .i64 1)) fun t33 =>
  BR t33 (
  OP (fad 0 t4) fun t39 =>
  OP (ld 1 false t39 M2) fun t40 =>
  OP (binI .eql t40 (.int .i64 2)) fun t41 =>
  BR t41 (
  P_fettleref4_OkAct_4 x0 x3 t4 (.bool true) (.bool true) (.int .i64 15) M2 Q
  ) (
  P_fettleref4_OkAct_4 x0 x3 t4 (.bool true) (.bool true) (.int .i64 0) M2 Q
  )
  ) (
  OP (fad 0 t4) fun t35 =>
  OP (ld 1 false t35 M2) fun t36 =>
  OP (binI .eql t36 (.int .i64 10)) fun t37 =>
  OP (fad 0 t4) fun t39_1 =>
  OP (ld 1 false t39_1 M2) fun t40_1 =>
  OP (binI .eql t40_1 (.int .i64 2)) fun t41_1 =>
  BR t41_1 (
  P_fettleref4_OkAct_4 x0 x3 t4 (.bool true) t37 (.int .i64 15) M2 Q
  ) (
  P_fettleref4_OkAct_4 x0 x3 t4 (.bool true) t37 (.int .i64 0) M2 Q
  )
  )
  ) (
  OP (fad 0 t4) fun t22 =>
  OP (ld 1 false t22 M2) fun t23 =>
  OP (binI .eql t23 (.int .i64 2)) fun t24 =>
  BR t24 (
  OP (fad 0 t4) fun t31_1 =>
  OP (ld 1 false t31_1 M2) fun t32_1 =>
  OP (binI .eql t32_1 (.int .i64 1)) fun t33_1 =>
  BR t33_1 (
  OP (fad 0 t4) fun t39_2 =>
  OP (ld 1 false t39_2 M2) fun t40_2 =>
  OP (binI .eql t40_2 (.int .i64 2)) fun t41_2 =>
  BR t41_2 (
  P_fettleref4_OkAct_4 x0 x3 t4 (.bool true) (.bool true) (.int .i64 15) M2 Q
  ) (
  P_fettleref4_OkAct_4 x0 x3 t4 (.bool true) (.bool true) (.int .i64 0) M2 Q
  )
  ) (
  OP (fad 0 t4) fun t35_1 =>
  OP (ld 1 false t35_1 M2) fun t36_1 =>
  OP (binI .eql t36_1 (.int .i64 10)) fun t37_1 =>
  OP (fad 0 t4) fun t39_3 =>
  OP (ld 1 false t39_3 M2) fun t40_3 =>
  OP (binI .eql t40_3 (.int .i64 2)) fun t41_3 =>
  BR t41_3 (
  P_fettleref4_OkAct_4 x0 x3 t4 (.bool true) t37_1 (.int .i64 15) M2 Q
  ) (
  P_fettleref4_OkAct_4 x0 x3 t4 (.bool true) t37_1 (.int .i64 0) M2 Q
  )
  )
  ) (
  OP (fad 0 t4) fun t27 =>
  OP (ld 1 false t27 M2) fun t28 =>
  OP (binI .eql t28 (.int .i64 3)) fun t29 =>
  OP (fad 0 t4) fun t31_2 =>
  OP (ld 1 false t31_2 M2) fun t32_2 =>
  OP (binI .eql t32_2 (.int .i64 1)) fun t33_2 =>
  BR t33_2 (
  OP (fad 0 t4) fun t39_4 =>
  OP (ld 1 false t39_4 M2) fun t40_4 =>
  OP (binI .eql t40_4 (.int .i64 2)) fun t41_4 =>
  BR t41_4 (
  P_fettleref4_OkAct_4 x0 x3 t4 t29 (.bool true) (.int .i64 15) M2 Q
  ) (
  P_fettleref4_OkAct_4 x0 x3 t4 t29 (.bool true) (.int .i64 0) M2 Q
  )
  ) (
  OP (fad 0 t4) fun t35_2 =>
  OP (ld 1 false t35_2 M2) fun t36_2 =>
  OP (binI .eql t36_2 (.int .i64 10)) fun t37_2 =>
  OP (fad 0 t4) fun t39_5 =>
  OP (ld 1 false t39_5 M2) fun t40_5 =>
  OP (binI .eql t40_5 (.int .i64 2)) fun t41_5 =>
  BR t41_5 (
  P_fettleref4_OkAct_4 x0 x3 t4 t29 t37_2 (.int .i64 15) M2 Q
  ) (
  P_fettleref4_OkAct_4 x0 x3 t4 t29 t37_2 (.int .i64 0) M2 Q
  )
  )
  )
  )
theorem T_fettleref4_OkAct_2 {x0 x3 : Value} {M : Store} {Q : Value → Store → Prop} (h : S_fettleref4_OkAct_2 x0 x3 M Q) : P_fettleref4_OkAct_2 x0 x3 M Q := by
  intro f h0 h3; subst h0; subst h3
  unfold At
  exact rule (B := 1000) (N := 98) (ct := (.two (.two (.two .no (.two .no (.two .no (.two .no (.two .no (.here 1000)))))) .no) (.here 1001)))
    [⟨1002, fun a M => dfr a.defers (P_fettleref4_OkAct_4 (a.get 0) (a.get 3) (a.get 4) (a.get 5) (a.get 6) (a.get 7) M Q), fun a M => At Try.prog Ex none Try.f77 [1, 0, 1, 0, 0, 1, 0, 0, 1, 1, 1, 1, 1] a M Q⟩,
    ⟨1003, fun _ _ => False, fun a M => At Try.prog Ex none Try.f77 [1, 0, 1, 0, 0, 1, 1] a M Q⟩]
    [1000, 1001] [] (by kernel_rfl) (by kernel_rfl) (by kernel_rfl) (by kernel_rfl) (by kernel_rfl)
    ⟨fun a M hn h => by obtain ⟨⟨n, f⟩, ds⟩ := a; have hn : n = 98 := hn; subst hn; obtain ⟨hd, h⟩ := dfr_iff h; have hd : ds = [] := hd; subst hd; exact h f rfl rfl rfl rfl rfl rfl,
    fun _ _ _ h => h.elim,
    trivial⟩
    (cast (by kernel_rfl) h)
def S_fettleref4_OkAct_3 (x0 : Value) (M : Store) (Q : Value → Store → Prop) : Prop :=
  OP (lenV x0) fun t91 =>
  OP (binI .geq t91 (.int .i64 1)) fun t92 =>
  BR t92 (
  OP (lenV x0) fun t95 =>
  OP (binI .leq t95 (.int .i64 8)) fun t96 =>
  NTs [t96] ∧ Q t96 M
  ) (
  NTs [(.bool false)] ∧ Q (.bool false) M
  )
theorem T_fettleref4_OkAct_3 {x0 : Value} {M : Store} {Q : Value → Store → Prop} (h : S_fettleref4_OkAct_3 x0 M Q) : P_fettleref4_OkAct_3 x0 M Q := by
  intro f h0; subst h0
  unfold At
  exact rule (B := 1000) (N := 98) (ct := .no)
    [⟨1, fun a M => kfin Try.prog Try.f77.results.toList Q 1 a M, fun a M => kfin Try.prog Try.f77.results.toList Q 1 a M⟩]
    [] [1] (by kernel_rfl) (by kernel_rfl) (by kernel_rfl) (by kernel_rfl) (by kernel_rfl)
    ⟨fun _ _ _ h => h,
    trivial⟩
    (cast (by kernel_rfl) h)
def S_fettleref4_OkAct_4 (x0 x3 x4 x5 x6 x7 : Value) (M : Store) (Q : Value → Store → Prop) : Prop :=
  OP (fad 0 x4) fun t42 =>
  OP (ld 1 false t42 M) fun t43 =>
  OP (binI .eql t43 (.int .i64 7)) fun t44 =>
  BR t44 (
  P_fettleref4_OkAct_5 x0 x3 x4 x5 x6 (.int .i64 999) M Q
  ) (
  OP (fad 0 x4) fun t46 =>
  OP (ld 1 false t46 M) fun t47 =>
  OP (binI .eql t47 (.int .i64 8)) fun t48 =>
  BR t48 (
  P_fettleref4_OkAct_5 x0 x3 x4 x5 x6 (.int .i64 999) M Q
  ) (
  P_fettleref4_OkAct_5 x0 x3 x4 x5 x6 x7 M Q
  )
  )
theorem T_fettleref4_OkAct_4 {x0 x3 x4 x5 x6 x7 : Value} {M : Store} {Q : Value → Store → Prop} (h : S_fettleref4_OkAct_4 x0 x3 x4 x5 x6 x7 M Q) : P_fettleref4_OkAct_4 x0 x3 x4 x5 x6 x7 M Q := by
  intro f h0 h3 h4 h5 h6 h7; subst h0; subst h3; subst h4; subst h5; subst h6; subst h7
  unfold At
  exact rule (B := 1000) (N := 98) (ct := (.two .no (.here 1000)))
    [⟨1002, fun a M => dfr a.defers (P_fettleref4_OkAct_5 (a.get 0) (a.get 3) (a.get 4) (a.get 5) (a.get 6) (a.get 7) M Q), fun a M => At Try.prog Ex none Try.f77 [1, 0, 1, 0, 0, 1, 0, 0, 1, 1, 1, 1, 1, 1] a M Q⟩]
    [1000] [] (by kernel_rfl) (by kernel_rfl) (by kernel_rfl) (by kernel_rfl) (by kernel_rfl)
    ⟨fun a M hn h => by obtain ⟨⟨n, f⟩, ds⟩ := a; have hn : n = 98 := hn; subst hn; obtain ⟨hd, h⟩ := dfr_iff h; have hd : ds = [] := hd; subst hd; exact h f rfl rfl rfl rfl rfl rfl,
    trivial⟩
    (cast (by kernel_rfl) h)
def S_fettleref4_OkAct_5 (x0 x3 x4 x5 x6 x7 : Value) (M : Store) (Q : Value → Store → Prop) : Prop :=
  OP (fad 0 x4) fun t50 =>
  OP (ld 1 false t50 M) fun t51 =>
  OP (binI .lss t51 (.int .i64 1)) fun t52 =>
  BR t52 (
  NTs [(.bool false)] ∧ Q (.bool false) M
  ) (
  OP (fad 0 x4) fun t54 =>
  OP (ld 1 false t54 M) fun t55 =>
  OP (binI .gtr t55 (.int .i64 11)) fun t56 =>
  BR t56 (
  NTs [(.bool false)] ∧ Q (.bool false) M
  ) (
  OP (binI .eql x3 (.int .i64 0)) fun t61 =>
  OP (abin Try.prog false .neq Ty.bool x5 t61) fun t62 =>
  BR t62 (
  NTs [(.bool false)] ∧ Q (.bool false) M
  ) (
  OP (fad 1 x4) fun t65 =>
  OP (ld 1 false t65 M) fun t66 =>
  OP (binI .lss t66 (.int .i64 0)) fun t67 =>
  BR t67 (
  NTs [(.bool false)] ∧ Q (.bool false) M
  ) (
  OP (fad 1 x4) fun t70 =>
  OP (ld 1 false t70 M) fun t71 =>
  OP (binI .gtr t71 x7) fun t73 =>
  BR t73 (
  NTs [(.bool false)] ∧ Q (.bool false) M
  ) (
  OP (fad 2 x4) fun t76 =>
  OP (ld 1 false t76 M) fun t77 =>
  R F.fettleref4_plain #[t77] M fun t78 M1 =>
  OP (aun .not t78) fun t79 =>
  BR t79 (
  NTs [(.bool false)] ∧ Q (.bool false) M1
  ) (
  OP (aun .not x6) fun t83 =>
  BR3 t83 (
  OP (fad 2 x4) fun t85 =>
  OP (ld 1 false t85 M1) fun t86 =>
  OP (binS .neq t86 (.string ⟨#[]⟩)) fun t87 =>
  BR t87 (
  NTs [(.bool false)] ∧ Q (.bool false) M1
  ) (
  P_fettleref4_OkAct_6 x0 x3 M1 Q
  )
  ) (
  P_fettleref4_OkAct_6 x0 x3 M1 Q
  ) (
  BR t83 (
  BR undef (
  NTs [(.bool false)] ∧ Q (.bool false) M1
  ) (
  P_fettleref4_OkAct_6 x0 x3 M1 Q
  )
  ) (
  P_fettleref4_OkAct_6 x0 x3 M1 Q
  )
  )
  )
  )
  )
  )
  )
  )
theorem T_fettleref4_OkAct_5 {x0 x3 x4 x5 x6 x7 : Value} {M : Store} {Q : Value → Store → Prop} (h : S_fettleref4_OkAct_5 x0 x3 x4 x5 x6 x7 M Q) : P_fettleref4_OkAct_5 x0 x3 x4 x5 x6 x7 M Q := by
  intro f h0 h3 h4 h5 h6 h7; subst h0; subst h3; subst h4; subst h5; subst h6; subst h7
  unfold At
  exact rule (B := 1000) (N := 98) (ct := .no)
    [⟨0, fun a M => dfr a.defers (P_fettleref4_OkAct_6 (a.get 0) (a.get 3) M Q), fun a M => At Try.prog Ex none Try.f77 [1, 0, 1, 0, 0, 1, 1] a M Q⟩,
    ⟨1, fun a M => kfin Try.prog Try.f77.results.toList Q 1 a M, fun a M => kfin Try.prog Try.f77.results.toList Q 1 a M⟩]
    [] [0, 1] (by kernel_rfl) (by kernel_rfl) (by kernel_rfl) (by kernel_rfl) (by kernel_rfl)
    ⟨fun a M hn h => by obtain ⟨⟨n, f⟩, ds⟩ := a; have hn : n = 98 := hn; subst hn; obtain ⟨hd, h⟩ := dfr_iff h; have hd : ds = [] := hd; subst hd; exact h f rfl rfl,
    fun _ _ _ h => h,
    trivial⟩
    (cast (by kernel_rfl) h)
def S_fettleref4_OkAct_6 (x0 x3 : Value) (M : Store) (Q : Value → Store → Prop) : Prop :=
  OP (binI .add x3 (.int .i64 1)) fun t13 =>
  P_fettleref4_OkAct_1 x0 t13 M Q
theorem T_fettleref4_OkAct_6 {x0 x3 : Value} {M : Store} {Q : Value → Store → Prop} (h : S_fettleref4_OkAct_6 x0 x3 M Q) : P_fettleref4_OkAct_6 x0 x3 M Q := by
  intro f h0 h3; subst h0; subst h3
  unfold At
  exact rule (B := 1000) (N := 98) (ct := .no)
    [⟨0, fun a M => dfr a.defers (P_fettleref4_OkAct_1 (a.get 0) (a.get 3) M Q), fun a M => At Try.prog Ex none Try.f77 [1, 0, 1, 0] a M Q⟩]
    [] [0] (by kernel_rfl) (by kernel_rfl) (by kernel_rfl) (by kernel_rfl) (by kernel_rfl)
    ⟨fun a M hn h => by obtain ⟨⟨n, f⟩, ds⟩ := a; have hn : n = 98 := hn; subst hn; obtain ⟨hd, h⟩ := dfr_iff h; have hd : ds = [] := hd; subst hd; exact h f rfl rfl,
    trivial⟩
    (cast (by kernel_rfl) h)
def P_fettleref4_changed_1 (x2 x8 x9 : Value) (M : Store) (Q : Value → Store → Prop) : Prop :=
  ∀ f : Nat → Value, f 2 = x2 → f 8 = x8 → f 9 = x9 → At Try.prog Ex none Try.f78 [1, 1, 0, 1, 0, 1, 1, 1, 1, 1, 0, 1, 0] ⟨⟨161, f⟩, []⟩ M Q
def P_fettleref4_changed_2 (x1 x3 x8 x15 x49 : Value) (M : Store) (Q : Value → Store → Prop) : Prop :=
  ∀ f : Nat → Value, f 1 = x1 → f 3 = x3 → f 8 = x8 → f 15 = x15 → f 49 = x49 → At Try.prog Ex none Try.f78 [1, 1, 0, 1, 0, 1, 1, 1, 1, 1, 1, 1] ⟨⟨161, f⟩, []⟩ M Q
def P_fettleref4_changed_3 (x8 : Value) (M : Store) (Q : Value → Store → Prop) : Prop :=
  ∀ f : Nat → Value, f 8 = x8 → At Try.prog Ex none Try.f78 [1, 1, 1] ⟨⟨161, f⟩, []⟩ M Q
def P_fettleref4_changed_4 (x1 x3 x8 x10 : Value) (M : Store) (Q : Value → Store → Prop) : Prop :=
  ∀ f : Nat → Value, f 1 = x1 → f 3 = x3 → f 8 = x8 → f 10 = x10 → At Try.prog Ex none Try.f78 [1, 1, 0, 1, 0, 1, 1, 1, 1, 1, 1, 1, 0, 1, 0] ⟨⟨161, f⟩, []⟩ M Q
def P_fettleref4_changed_5 (x1 x8 x12 : Value) (M : Store) (Q : Value → Store → Prop) : Prop :=
  ∀ f : Nat → Value, f 1 = x1 → f 8 = x8 → f 12 = x12 → At Try.prog Ex none Try.f78 [1, 1, 0, 1, 0, 1, 1, 1, 1, 1, 1, 1, 1, 1, 0, 1, 0] ⟨⟨161, f⟩, []⟩ M Q
def P_fettleref4_changed_6 (x1 x3 x8 x13 : Value) (M : Store) (Q : Value → Store → Prop) : Prop :=
  ∀ f : Nat → Value, f 1 = x1 → f 3 = x3 → f 8 = x8 → f 13 = x13 → At Try.prog Ex none Try.f78 [1, 1, 0, 1, 0, 1, 1, 1, 1, 1, 1, 1, 1, 1, 1, 1, 1, 1, 1, 1, 1, 1, 0, 1, 0] ⟨⟨161, f⟩, []⟩ M Q
def P_fettleref4_changed_7 (x1 x3 x8 x10 : Value) (M : Store) (Q : Value → Store → Prop) : Prop :=
  ∀ f : Nat → Value, f 1 = x1 → f 3 = x3 → f 8 = x8 → f 10 = x10 → At Try.prog Ex none Try.f78 [1, 1, 0, 1, 0, 1, 1, 1, 1, 1, 1, 1, 0, 1, 0, 0, 1] ⟨⟨161, f⟩, []⟩ M Q
def P_fettleref4_changed_8 (x1 x3 x8 x13 : Value) (M : Store) (Q : Value → Store → Prop) : Prop :=
  ∀ f : Nat → Value, f 1 = x1 → f 3 = x3 → f 8 = x8 → f 13 = x13 → At Try.prog Ex none Try.f78 [1, 1, 0, 1, 0, 1, 1, 1, 1, 1, 1, 1, 1, 1, 1, 1, 1, 1, 1, 1, 1, 1, 0, 1, 0, 0, 1] ⟨⟨161, f⟩, []⟩ M Q
def P_fettleref4_changed_9 (x1 x3 x8 x10 x11 : Value) (M : Store) (Q : Value → Store → Prop) : Prop :=
  ∀ f : Nat → Value, f 1 = x1 → f 3 = x3 → f 8 = x8 → f 10 = x10 → f 11 = x11 → At Try.prog Ex none Try.f78 [1, 1, 0, 1, 0, 1, 1, 1, 1, 1, 1, 1, 0, 1, 0, 0, 1, 0, 0, 1, 1] ⟨⟨161, f⟩, []⟩ M Q
def P_fettleref4_changed_10 (x1 x3 x8 x10 : Value) (M : Store) (Q : Value → Store → Prop) : Prop :=
  ∀ f : Nat → Value, f 1 = x1 → f 3 = x3 → f 8 = x8 → f 10 = x10 → At Try.prog Ex none Try.f78 [1, 1, 0, 1, 0, 1, 1, 1, 1, 1, 1, 1, 0, 1, 0, 0, 1, 1] ⟨⟨161, f⟩, []⟩ M Q
def S_fettleref4_changed (x0 x1 x2 : Value) (M : Store) (Q : Value → Store → Prop) : Prop :=
  OP (boxv x0) fun c =>
  LT (.pointer (some ⟨M.n, 0, none⟩)) (M.push (some (.inl (c, Ty.api_Do, true)))) fun t3 M1 =>
  OP (fad 0 t3) fun t14 =>
  OP (ld 1 false t14 M1) fun t15 =>
  OP (binI .eql t15 (.int .i64 1)) fun t17 =>
  BR t17 (
  OP (fad 2 t3) fun t18 =>
  OP (ld 1 false t18 M1) fun t19 =>
  OP2 (cvSB Ty.uint8 t19 M1) fun t20 M2 =>
  NTs [t20, (.bool true)] ∧ Q (.tuple #[t20, (.bool true)]) M2
  ) (
  OP (binI .eql t15 (.int .i64 2)) fun t22 =>
  BR t22 (
  OP (fad 1 t3) fun t23 =>
  OP (ld 1 false t23 M1) fun t24 =>
  OP (lenV x2) fun t26 =>
  OP (binI .geq t24 t26) fun t27 =>
  BR t27 (
  NTs [(.slice none 0 0), (.bool false)] ∧ Q (.tuple #[(.slice none 0 0), (.bool false)]) M1
  ) (
  OP (bldL (.int .u8 0) 1 0 []) fun c_1 =>
  LT (.slice (some ⟨M1.n, 0, none⟩) 0 0) (M1.push (some (.inl (c_1, Ty.uint8, true)))) fun t28 M3 =>
  OP (fad 1 t3) fun t30 =>
  OP (ld 1 false t30 M3) fun t31 =>
  OP (ixA 1 x2 t31) fun t32 =>
  OP (ld 1 false t32 M3) fun t33 =>
  OP2 (appV 1 Ty.uint8 t28 t33 M3) fun t34 M4 =>
  NTs [t34, (.bool true)] ∧ Q (.tuple #[t34, (.bool true)]) M4
  )
  ) (
  OP (binI .eql t15 (.int .i64 3)) fun t36 =>
  BR t36 (
  P_fettleref4_changed_1 x2 (.slice none 0 0) (.int .i64 0) M1 Q
  ) (
  OP (binI .eql t15 (.int .i64 4)) fun t50 =>
  BR t50 (
  P_fettleref4_changed_2 x1 t3 (.slice none 0 0) t15 t50 M1 Q
  ) (
  OP (binI .eql t15 (.int .i64 5)) fun t51 =>
  P_fettleref4_changed_2 x1 t3 (.slice none 0 0) t15 t51 M1 Q
  )
  )
  )
  )
theorem T_fettleref4_changed {x0 x1 x2 : Value} {M : Store} {Q : Value → Store → Prop} (h : S_fettleref4_changed x0 x1 x2 M Q) : R F.fettleref4_changed #[x0, x1, x2] M Q := by
  refine runs_of (c := bodyOf Try.f78) Try.func78 rfl (by kernel_rfl) (by kernel_rfl) ?_
  unfold At
  exact rule (B := 1000) (N := 161) (ct := (.two .no (.two .no (.two (.two .no (.two (.two .no (.two .no (.two .no (.two .no (.two .no (.two (.two .no (.two (.here 1000) .no)) (.two .no (.here 1001)))))))) .no)) (.here 1002)))))
    [⟨1002, fun a M => dfr a.defers (P_fettleref4_changed_1 (a.get 2) (a.get 8) (a.get 9) M Q), fun a M => At Try.prog Ex none Try.f78 [1, 1, 0, 1, 0, 1, 1, 1, 1, 1, 0, 1, 0] a M Q⟩,
    ⟨1003, fun a M => dfr a.defers (P_fettleref4_changed_2 (a.get 1) (a.get 3) (a.get 8) (a.get 15) (a.get 49) M Q), fun a M => At Try.prog Ex none Try.f78 [1, 1, 0, 1, 0, 1, 1, 1, 1, 1, 1, 1] a M Q⟩,
    ⟨1004, fun _ _ => False, fun a M => At Try.prog Ex none Try.f78 [1, 1, 1] a M Q⟩,
    ⟨1, fun a M => kfin Try.prog Try.f78.results.toList Q 1 a M, fun a M => kfin Try.prog Try.f78.results.toList Q 1 a M⟩]
    [1000, 1001, 1002] [1] (by kernel_rfl) (by kernel_rfl) (by kernel_rfl) (by kernel_rfl) (by kernel_rfl)
    ⟨fun a M hn h => by obtain ⟨⟨n, f⟩, ds⟩ := a; have hn : n = 161 := hn; subst hn; obtain ⟨hd, h⟩ := dfr_iff h; have hd : ds = [] := hd; subst hd; exact h f rfl rfl rfl,
    fun a M hn h => by obtain ⟨⟨n, f⟩, ds⟩ := a; have hn : n = 161 := hn; subst hn; obtain ⟨hd, h⟩ := dfr_iff h; have hd : ds = [] := hd; subst hd; exact h f rfl rfl rfl rfl rfl,
    fun _ _ _ h => h.elim,
    fun _ _ _ h => h,
    trivial⟩
    (cast (by kernel_rfl) h)
def S_fettleref4_changed_1 (x2 x8 x9 : Value) (M : Store) (Q : Value → Store → Prop) : Prop :=
  OP (lenV x2) fun t39 =>
  OP (binI .lss x9 t39) fun t40 =>
  BR t40 (
  OP (ixA 1 x2 x9) fun t46 =>
  OP (ld 1 false t46 M) fun t47 =>
  OP2 (appV 1 Ty.uint8 x8 t47 M) fun t48 M1 =>
  OP (binI .add x9 (.int .i64 1)) fun t42 =>
  P_fettleref4_changed_1 x2 t48 t42 M1 Q
  ) (
  P_fettleref4_changed_3 x8 M Q
  )
theorem T_fettleref4_changed_1 {x2 x8 x9 : Value} {M : Store} {Q : Value → Store → Prop} (h : S_fettleref4_changed_1 x2 x8 x9 M Q) : P_fettleref4_changed_1 x2 x8 x9 M Q := by
  intro f h2 h8 h9; subst h2; subst h8; subst h9
  unfold At
  refine cast (by kernel_rfl) (CW.loop (P := Try.prog) (E := Ex) (rd := none) (x := sub (bodyOf Try.f78) [1, 1, 0, 1, 0, 1, 1, 1, 1, 1, 0, 1, 0, 0]) (a := ⟨⟨161, f⟩, []⟩) (M := M) (K := kcont Try.prog Ex none (bodyOf Try.f78) [1, 1, 0, 1, 0, 1, 1, 1, 1, 1, 0, 1, 0] (kfin Try.prog Try.f78.results.toList Q)) ?_)
  exact rule (B := 1000) (N := 161) (ct := .no)
    [⟨0, fun a M => dfr a.defers (P_fettleref4_changed_1 (a.get 2) (a.get 8) (a.get 9) M Q), fun a M => At Try.prog Ex none Try.f78 [1, 1, 0, 1, 0, 1, 1, 1, 1, 1, 0, 1, 0] a M Q⟩,
    ⟨3, fun a M => dfr a.defers (P_fettleref4_changed_3 (a.get 8) M Q), fun a M => At Try.prog Ex none Try.f78 [1, 1, 1] a M Q⟩]
    [] [0, 3] (by kernel_rfl) (by kernel_rfl) (by kernel_rfl) (by kernel_rfl) (by kernel_rfl)
    ⟨fun a M hn h => by obtain ⟨⟨n, f⟩, ds⟩ := a; have hn : n = 161 := hn; subst hn; obtain ⟨hd, h⟩ := dfr_iff h; have hd : ds = [] := hd; subst hd; exact h f rfl rfl rfl,
    fun a M hn h => by obtain ⟨⟨n, f⟩, ds⟩ := a; have hn : n = 161 := hn; subst hn; obtain ⟨hd, h⟩ := dfr_iff h; have hd : ds = [] := hd; subst hd; exact h f rfl,
    trivial⟩
    (cast (by kernel_rfl) h)
def S_fettleref4_changed_2 (x1 x3 x8 x15 x49 : Value) (M : Store) (Q : Value → Store → Prop) : Prop :=
  BR x49 (
  P_fettleref4_changed_4 x1 x3 x8 (.int .i64 0) M Q
  ) (
  OP (binI .eql x15 (.int .i64 6)) fun t93 =>
  BR t93 (
  OP (lenV x1) fun t95 =>
  OP (binI .sub t95 (.int .i64 1)) fun t96 =>
  P_fettleref4_changed_5 x1 x8 t96 M Q
  ) (
  OP (binI .eql x15 (.int .i64 7)) fun t109 =>
  BR t109 (
  OP (fad 1 x3) fun t112 =>
  OP (ld 1 false t112 M) fun t113 =>
  OP (lenV x1) fun t115 =>
  OP (amin2 t113 t115) fun t116 =>
  OP (slV 1 Ty.uint8 x1 none (some t116) M) fun t117 =>
  OP2 (appV 1 Ty.uint8 x8 t117 M) fun t118 M1 =>
  P_fettleref4_changed_3 t118 M1 Q
  ) (
  OP (binI .eql x15 (.int .i64 8)) fun t120 =>
  BR t120 (
  OP (fad 1 x3) fun t123 =>
  OP (ld 1 false t123 M) fun t124 =>
  OP (lenV x1) fun t126 =>
  OP (amin2 t124 t126) fun t127 =>
  OP (slV 1 Ty.uint8 x1 (some t127) none M) fun t128 =>
  OP2 (appV 1 Ty.uint8 x8 t128 M) fun t129 M2 =>
  P_fettleref4_changed_3 t129 M2 Q
  ) (
  OP (binI .eql x15 (.int .i64 9)) fun t131 =>
  BR t131 (
  OP2 (appV 1 Ty.uint8 x8 x1 M) fun t134 M3 =>
  OP2 (appV 1 Ty.uint8 t134 x1 M3) fun t136 M4 =>
  P_fettleref4_changed_3 t136 M4 Q
  ) (
  OP (binI .eql x15 (.int .i64 10)) fun t138 =>
  BR t138 (
  P_fettleref4_changed_6 x1 x3 x8 (.int .i64 0) M Q
  ) (
  OP (binI .eql x15 (.int .i64 11)) fun t159 =>
  BR t159 (
  NTs [(.slice none 0 0), (.bool false)] ∧ Q (.tuple #[(.slice none 0 0), (.bool false)]) M
  ) (
  P_fettleref4_changed_3 x8 M Q
  )
  )
  )
  )
  )
  )
  )
theorem T_fettleref4_changed_2 {x1 x3 x8 x15 x49 : Value} {M : Store} {Q : Value → Store → Prop} (h : S_fettleref4_changed_2 x1 x3 x8 x15 x49 M Q) : P_fettleref4_changed_2 x1 x3 x8 x15 x49 M Q := by
  intro f h1 h3 h8 h15 h49; subst h1; subst h3; subst h8; subst h15; subst h49
  unfold At
  exact rule (B := 1000) (N := 161) (ct := (.two (.two .no (.two (.here 1000) .no)) (.two .no (.two (.two .no (.two (.here 1001) .no)) (.two .no (.two .no (.two .no (.two .no (.two .no (.two .no (.two .no (.two (.two .no (.two (.here 1002) .no)) .no))))))))))))
    [⟨1002, fun a M => dfr a.defers (P_fettleref4_changed_4 (a.get 1) (a.get 3) (a.get 8) (a.get 10) M Q), fun a M => At Try.prog Ex none Try.f78 [1, 1, 0, 1, 0, 1, 1, 1, 1, 1, 1, 1, 0, 1, 0] a M Q⟩,
    ⟨1003, fun a M => dfr a.defers (P_fettleref4_changed_5 (a.get 1) (a.get 8) (a.get 12) M Q), fun a M => At Try.prog Ex none Try.f78 [1, 1, 0, 1, 0, 1, 1, 1, 1, 1, 1, 1, 1, 1, 0, 1, 0] a M Q⟩,
    ⟨1004, fun a M => dfr a.defers (P_fettleref4_changed_6 (a.get 1) (a.get 3) (a.get 8) (a.get 13) M Q), fun a M => At Try.prog Ex none Try.f78 [1, 1, 0, 1, 0, 1, 1, 1, 1, 1, 1, 1, 1, 1, 1, 1, 1, 1, 1, 1, 1, 1, 0, 1, 0] a M Q⟩,
    ⟨0, fun a M => dfr a.defers (P_fettleref4_changed_3 (a.get 8) M Q), fun a M => At Try.prog Ex none Try.f78 [1, 1, 1] a M Q⟩,
    ⟨1, fun a M => kfin Try.prog Try.f78.results.toList Q 1 a M, fun a M => kfin Try.prog Try.f78.results.toList Q 1 a M⟩]
    [1000, 1001, 1002] [0, 1] (by kernel_rfl) (by kernel_rfl) (by kernel_rfl) (by kernel_rfl) (by kernel_rfl)
    ⟨fun a M hn h => by obtain ⟨⟨n, f⟩, ds⟩ := a; have hn : n = 161 := hn; subst hn; obtain ⟨hd, h⟩ := dfr_iff h; have hd : ds = [] := hd; subst hd; exact h f rfl rfl rfl rfl,
    fun a M hn h => by obtain ⟨⟨n, f⟩, ds⟩ := a; have hn : n = 161 := hn; subst hn; obtain ⟨hd, h⟩ := dfr_iff h; have hd : ds = [] := hd; subst hd; exact h f rfl rfl rfl,
    fun a M hn h => by obtain ⟨⟨n, f⟩, ds⟩ := a; have hn : n = 161 := hn; subst hn; obtain ⟨hd, h⟩ := dfr_iff h; have hd : ds = [] := hd; subst hd; exact h f rfl rfl rfl rfl,
    fun a M hn h => by obtain ⟨⟨n, f⟩, ds⟩ := a; have hn : n = 161 := hn; subst hn; obtain ⟨hd, h⟩ := dfr_iff h; have hd : ds = [] := hd; subst hd; exact h f rfl,
    fun _ _ _ h => h,
    trivial⟩
    (cast (by kernel_rfl) h)
def S_fettleref4_changed_3 (x8 : Value) (M : Store) (Q : Value → Store → Prop) : Prop :=
  NTs [x8, (.bool true)] ∧ Q (.tuple #[x8, (.bool true)]) M
theorem T_fettleref4_changed_3 {x8 : Value} {M : Store} {Q : Value → Store → Prop} (h : S_fettleref4_changed_3 x8 M Q) : P_fettleref4_changed_3 x8 M Q := by
  intro f h8; subst h8
  unfold At
  exact rule (B := 1000) (N := 161) (ct := .no)
    [⟨1, fun a M => kfin Try.prog Try.f78.results.toList Q 1 a M, fun a M => kfin Try.prog Try.f78.results.toList Q 1 a M⟩]
    [] [1] (by kernel_rfl) (by kernel_rfl) (by kernel_rfl) (by kernel_rfl) (by kernel_rfl)
    ⟨fun _ _ _ h => h,
    trivial⟩
    (cast (by kernel_rfl) h)
def S_fettleref4_changed_4 (x1 x3 x8 x10 : Value) (M : Store) (Q : Value → Store → Prop) : Prop :=
  OP (lenV x1) fun t54 =>
  OP (binI .lss x10 t54) fun t55 =>
  BR t55 (
  P_fettleref4_changed_7 x1 x3 x8 x10 M Q
  ) (
  P_fettleref4_changed_3 x8 M Q
  )
theorem T_fettleref4_changed_4 {x1 x3 x8 x10 : Value} {M : Store} {Q : Value → Store → Prop} (h : S_fettleref4_changed_4 x1 x3 x8 x10 M Q) : P_fettleref4_changed_4 x1 x3 x8 x10 M Q := by
  intro f h1 h3 h8 h10; subst h1; subst h3; subst h8; subst h10
  unfold At
  refine cast (by kernel_rfl) (CW.loop (P := Try.prog) (E := Ex) (rd := none) (x := sub (bodyOf Try.f78) [1, 1, 0, 1, 0, 1, 1, 1, 1, 1, 1, 1, 0, 1, 0, 0]) (a := ⟨⟨161, f⟩, []⟩) (M := M) (K := kcont Try.prog Ex none (bodyOf Try.f78) [1, 1, 0, 1, 0, 1, 1, 1, 1, 1, 1, 1, 0, 1, 0] (kfin Try.prog Try.f78.results.toList Q)) ?_)
  exact rule (B := 1000) (N := 161) (ct := (.two .no (.here 1000)))
    [⟨1002, fun a M => dfr a.defers (P_fettleref4_changed_7 (a.get 1) (a.get 3) (a.get 8) (a.get 10) M Q), fun a M => At Try.prog Ex none Try.f78 [1, 1, 0, 1, 0, 1, 1, 1, 1, 1, 1, 1, 0, 1, 0, 0, 1] a M Q⟩,
    ⟨5, fun a M => dfr a.defers (P_fettleref4_changed_3 (a.get 8) M Q), fun a M => At Try.prog Ex none Try.f78 [1, 1, 1] a M Q⟩]
    [1000] [5] (by kernel_rfl) (by kernel_rfl) (by kernel_rfl) (by kernel_rfl) (by kernel_rfl)
    ⟨fun a M hn h => by obtain ⟨⟨n, f⟩, ds⟩ := a; have hn : n = 161 := hn; subst hn; obtain ⟨hd, h⟩ := dfr_iff h; have hd : ds = [] := hd; subst hd; exact h f rfl rfl rfl rfl,
    fun a M hn h => by obtain ⟨⟨n, f⟩, ds⟩ := a; have hn : n = 161 := hn; subst hn; obtain ⟨hd, h⟩ := dfr_iff h; have hd : ds = [] := hd; subst hd; exact h f rfl,
    trivial⟩
    (cast (by kernel_rfl) h)
def S_fettleref4_changed_5 (x1 x8 x12 : Value) (M : Store) (Q : Value → Store → Prop) : Prop :=
  OP (binI .geq x12 (.int .i64 0)) fun t98 =>
  BR t98 (
  OP (ixA 1 x1 x12) fun t104 =>
  OP (ld 1 false t104 M) fun t105 =>
  OP (bldL (.int .u8 0) 1 1 [(0, t105)]) fun c =>
  LT (.slice (some ⟨M.n, 0, none⟩) 1 1) (M.push (some (.inl (c, Ty.uint8, true)))) fun t106 M1 =>
  OP2 (appV 1 Ty.uint8 x8 t106 M1) fun t107 M2 =>
  OP (binI .sub x12 (.int .i64 1)) fun t100 =>
  P_fettleref4_changed_5 x1 t107 t100 M2 Q
  ) (
  P_fettleref4_changed_3 x8 M Q
  )
theorem T_fettleref4_changed_5 {x1 x8 x12 : Value} {M : Store} {Q : Value → Store → Prop} (h : S_fettleref4_changed_5 x1 x8 x12 M Q) : P_fettleref4_changed_5 x1 x8 x12 M Q := by
  intro f h1 h8 h12; subst h1; subst h8; subst h12
  unfold At
  refine cast (by kernel_rfl) (CW.loop (P := Try.prog) (E := Ex) (rd := none) (x := sub (bodyOf Try.f78) [1, 1, 0, 1, 0, 1, 1, 1, 1, 1, 1, 1, 1, 1, 0, 1, 0, 0]) (a := ⟨⟨161, f⟩, []⟩) (M := M) (K := kcont Try.prog Ex none (bodyOf Try.f78) [1, 1, 0, 1, 0, 1, 1, 1, 1, 1, 1, 1, 1, 1, 0, 1, 0] (kfin Try.prog Try.f78.results.toList Q)) ?_)
  exact rule (B := 1000) (N := 161) (ct := .no)
    [⟨0, fun a M => dfr a.defers (P_fettleref4_changed_5 (a.get 1) (a.get 8) (a.get 12) M Q), fun a M => At Try.prog Ex none Try.f78 [1, 1, 0, 1, 0, 1, 1, 1, 1, 1, 1, 1, 1, 1, 0, 1, 0] a M Q⟩,
    ⟨7, fun a M => dfr a.defers (P_fettleref4_changed_3 (a.get 8) M Q), fun a M => At Try.prog Ex none Try.f78 [1, 1, 1] a M Q⟩]
    [] [0, 7] (by kernel_rfl) (by kernel_rfl) (by kernel_rfl) (by kernel_rfl) (by kernel_rfl)
    ⟨fun a M hn h => by obtain ⟨⟨n, f⟩, ds⟩ := a; have hn : n = 161 := hn; subst hn; obtain ⟨hd, h⟩ := dfr_iff h; have hd : ds = [] := hd; subst hd; exact h f rfl rfl rfl,
    fun a M hn h => by obtain ⟨⟨n, f⟩, ds⟩ := a; have hn : n = 161 := hn; subst hn; obtain ⟨hd, h⟩ := dfr_iff h; have hd : ds = [] := hd; subst hd; exact h f rfl,
    trivial⟩
    (cast (by kernel_rfl) h)
def S_fettleref4_changed_6 (x1 x3 x8 x13 : Value) (M : Store) (Q : Value → Store → Prop) : Prop :=
  OP (lenV x1) fun t141 =>
  OP (binI .lss x13 t141) fun t142 =>
  BR t142 (
  P_fettleref4_changed_8 x1 x3 x8 x13 M Q
  ) (
  P_fettleref4_changed_3 x8 M Q
  )
theorem T_fettleref4_changed_6 {x1 x3 x8 x13 : Value} {M : Store} {Q : Value → Store → Prop} (h : S_fettleref4_changed_6 x1 x3 x8 x13 M Q) : P_fettleref4_changed_6 x1 x3 x8 x13 M Q := by
  intro f h1 h3 h8 h13; subst h1; subst h3; subst h8; subst h13
  unfold At
  refine cast (by kernel_rfl) (CW.loop (P := Try.prog) (E := Ex) (rd := none) (x := sub (bodyOf Try.f78) [1, 1, 0, 1, 0, 1, 1, 1, 1, 1, 1, 1, 1, 1, 1, 1, 1, 1, 1, 1, 1, 1, 0, 1, 0, 0]) (a := ⟨⟨161, f⟩, []⟩) (M := M) (K := kcont Try.prog Ex none (bodyOf Try.f78) [1, 1, 0, 1, 0, 1, 1, 1, 1, 1, 1, 1, 1, 1, 1, 1, 1, 1, 1, 1, 1, 1, 0, 1, 0] (kfin Try.prog Try.f78.results.toList Q)) ?_)
  exact rule (B := 1000) (N := 161) (ct := (.two .no (.here 1000)))
    [⟨1002, fun a M => dfr a.defers (P_fettleref4_changed_8 (a.get 1) (a.get 3) (a.get 8) (a.get 13) M Q), fun a M => At Try.prog Ex none Try.f78 [1, 1, 0, 1, 0, 1, 1, 1, 1, 1, 1, 1, 1, 1, 1, 1, 1, 1, 1, 1, 1, 1, 0, 1, 0, 0, 1] a M Q⟩,
    ⟨9, fun a M => dfr a.defers (P_fettleref4_changed_3 (a.get 8) M Q), fun a M => At Try.prog Ex none Try.f78 [1, 1, 1] a M Q⟩]
    [1000] [9] (by kernel_rfl) (by kernel_rfl) (by kernel_rfl) (by kernel_rfl) (by kernel_rfl)
    ⟨fun a M hn h => by obtain ⟨⟨n, f⟩, ds⟩ := a; have hn : n = 161 := hn; subst hn; obtain ⟨hd, h⟩ := dfr_iff h; have hd : ds = [] := hd; subst hd; exact h f rfl rfl rfl rfl,
    fun a M hn h => by obtain ⟨⟨n, f⟩, ds⟩ := a; have hn : n = 161 := hn; subst hn; obtain ⟨hd, h⟩ := dfr_iff h; have hd : ds = [] := hd; subst hd; exact h f rfl,
    trivial⟩
    (cast (by kernel_rfl) h)
def S_fettleref4_changed_7 (x1 x3 x8 x10 : Value) (M : Store) (Q : Value → Store → Prop) : Prop :=
  OP (ixA 1 x1 x10) fun t60 =>
  OP (ld 1 false t60 M) fun t61 =>
  OP (fad 0 x3) fun t62 =>
  OP (ld 1 false t62 M) fun t63 =>
  OP (binI .eql t63 (.int .i64 4)) fun t64 =>
  BR t64 (
  OP (binI .geq t61 (.int .u8 97)) fun t67 =>
  BR t67 (
  OP (binI .leq t61 (.int .u8 122)) fun t71 =>
  BR t71 (
  OP (binI .sub t61 (.int .u8 32)) fun t74 =>
  P_fettleref4_changed_9 x1 x3 x8 x10 t74 M Q
  ) (
  P_fettleref4_changed_9 x1 x3 x8 x10 t61 M Q
  )
  ) (
  P_fettleref4_changed_9 x1 x3 x8 x10 t61 M Q
  )
  ) (
  P_fettleref4_changed_9 x1 x3 x8 x10 t61 M Q
  )
theorem T_fettleref4_changed_7 {x1 x3 x8 x10 : Value} {M : Store} {Q : Value → Store → Prop} (h : S_fettleref4_changed_7 x1 x3 x8 x10 M Q) : P_fettleref4_changed_7 x1 x3 x8 x10 M Q := by
  intro f h1 h3 h8 h10; subst h1; subst h3; subst h8; subst h10
  unfold At
  exact rule (B := 1000) (N := 161) (ct := (.two (.two (.two .no (.two .no (.here 1000))) .no) (.here 1001)))
    [⟨1002, fun a M => dfr a.defers (P_fettleref4_changed_9 (a.get 1) (a.get 3) (a.get 8) (a.get 10) (a.get 11) M Q), fun a M => At Try.prog Ex none Try.f78 [1, 1, 0, 1, 0, 1, 1, 1, 1, 1, 1, 1, 0, 1, 0, 0, 1, 0, 0, 1, 1] a M Q⟩,
    ⟨1003, fun _ _ => False, fun a M => At Try.prog Ex none Try.f78 [1, 1, 0, 1, 0, 1, 1, 1, 1, 1, 1, 1, 0, 1, 0, 0, 1, 1] a M Q⟩]
    [1000, 1001] [] (by kernel_rfl) (by kernel_rfl) (by kernel_rfl) (by kernel_rfl) (by kernel_rfl)
    ⟨fun a M hn h => by obtain ⟨⟨n, f⟩, ds⟩ := a; have hn : n = 161 := hn; subst hn; obtain ⟨hd, h⟩ := dfr_iff h; have hd : ds = [] := hd; subst hd; exact h f rfl rfl rfl rfl rfl,
    fun _ _ _ h => h.elim,
    trivial⟩
    (cast (by kernel_rfl) h)
def S_fettleref4_changed_8 (x1 x3 x8 x13 : Value) (M : Store) (Q : Value → Store → Prop) : Prop :=
  OP (binI .gtr x13 (.int .i64 0)) fun t146 =>
  BR t146 (
  OP (fad 2 x3) fun t148 =>
  OP (ld 1 false t148 M) fun t149 =>
  OP2 (appT 1 Ty.uint8 x8 t149 M) fun t150 M1 =>
  OP (ixA 1 x1 x13) fun t154 =>
  OP (ld 1 false t154 M1) fun t155 =>
  OP (bldL (.int .u8 0) 1 1 [(0, t155)]) fun c =>
  LT (.slice (some ⟨M1.n, 0, none⟩) 1 1) (M1.push (some (.inl (c, Ty.uint8, true)))) fun t156 M2 =>
  OP2 (appV 1 Ty.uint8 t150 t156 M2) fun t157 M3 =>
  OP (binI .add x13 (.int .i64 1)) fun t144 =>
  P_fettleref4_changed_6 x1 x3 t157 t144 M3 Q
  ) (
  OP (ixA 1 x1 x13) fun t154_1 =>
  OP (ld 1 false t154_1 M) fun t155_1 =>
  OP (bldL (.int .u8 0) 1 1 [(0, t155_1)]) fun c_1 =>
  LT (.slice (some ⟨M.n, 0, none⟩) 1 1) (M.push (some (.inl (c_1, Ty.uint8, true)))) fun t156_1 M4 =>
  OP2 (appV 1 Ty.uint8 x8 t156_1 M4) fun t157_1 M5 =>
  OP (binI .add x13 (.int .i64 1)) fun t144_1 =>
  P_fettleref4_changed_6 x1 x3 t157_1 t144_1 M5 Q
  )
theorem T_fettleref4_changed_8 {x1 x3 x8 x13 : Value} {M : Store} {Q : Value → Store → Prop} (h : S_fettleref4_changed_8 x1 x3 x8 x13 M Q) : P_fettleref4_changed_8 x1 x3 x8 x13 M Q := by
  intro f h1 h3 h8 h13; subst h1; subst h3; subst h8; subst h13
  unfold At
  exact rule (B := 1000) (N := 161) (ct := .no)
    [⟨0, fun a M => dfr a.defers (P_fettleref4_changed_6 (a.get 1) (a.get 3) (a.get 8) (a.get 13) M Q), fun a M => At Try.prog Ex none Try.f78 [1, 1, 0, 1, 0, 1, 1, 1, 1, 1, 1, 1, 1, 1, 1, 1, 1, 1, 1, 1, 1, 1, 0, 1, 0] a M Q⟩]
    [] [0] (by kernel_rfl) (by kernel_rfl) (by kernel_rfl) (by kernel_rfl) (by kernel_rfl)
    ⟨fun a M hn h => by obtain ⟨⟨n, f⟩, ds⟩ := a; have hn : n = 161 := hn; subst hn; obtain ⟨hd, h⟩ := dfr_iff h; have hd : ds = [] := hd; subst hd; exact h f rfl rfl rfl rfl,
    trivial⟩
    (cast (by kernel_rfl) h)
def S_fettleref4_changed_9 (x1 x3 x8 x10 x11 : Value) (M : Store) (Q : Value → Store → Prop) : Prop :=
  OP (fad 0 x3) fun t75 =>
  OP (ld 1 false t75 M) fun t76 =>
  OP (binI .eql t76 (.int .i64 5)) fun t77 =>
  BR t77 (
  OP (binI .geq x11 (.int .u8 65)) fun t80 =>
  BR t80 (
  OP (binI .leq x11 (.int .u8 90)) fun t84 =>
  BR t84 (
  OP (binI .add x11 (.int .u8 32)) fun t87 =>
  OP (bldL (.int .u8 0) 1 1 [(0, t87)]) fun c =>
  LT (.slice (some ⟨M.n, 0, none⟩) 1 1) (M.push (some (.inl (c, Ty.uint8, true)))) fun t90 M1 =>
  OP2 (appV 1 Ty.uint8 x8 t90 M1) fun t91 M2 =>
  P_fettleref4_changed_10 x1 x3 t91 x10 M2 Q
  ) (
  OP (bldL (.int .u8 0) 1 1 [(0, x11)]) fun c_1 =>
  LT (.slice (some ⟨M.n, 0, none⟩) 1 1) (M.push (some (.inl (c_1, Ty.uint8, true)))) fun t90_1 M3 =>
  OP2 (appV 1 Ty.uint8 x8 t90_1 M3) fun t91_1 M4 =>
  P_fettleref4_changed_10 x1 x3 t91_1 x10 M4 Q
  )
  ) (
  OP (bldL (.int .u8 0) 1 1 [(0, x11)]) fun c_2 =>
  LT (.slice (some ⟨M.n, 0, none⟩) 1 1) (M.push (some (.inl (c_2, Ty.uint8, true)))) fun t90_2 M5 =>
  OP2 (appV 1 Ty.uint8 x8 t90_2 M5) fun t91_2 M6 =>
  P_fettleref4_changed_10 x1 x3 t91_2 x10 M6 Q
  )
  ) (
  OP (bldL (.int .u8 0) 1 1 [(0, x11)]) fun c_3 =>
  LT (.slice (some ⟨M.n, 0, none⟩) 1 1) (M.push (some (.inl (c_3, Ty.uint8, true)))) fun t90_3 M7 =>
  OP2 (appV 1 Ty.uint8 x8 t90_3 M7) fun t91_3 M8 =>
  P_fettleref4_changed_10 x1 x3 t91_3 x10 M8 Q
  )
theorem T_fettleref4_changed_9 {x1 x3 x8 x10 x11 : Value} {M : Store} {Q : Value → Store → Prop} (h : S_fettleref4_changed_9 x1 x3 x8 x10 x11 M Q) : P_fettleref4_changed_9 x1 x3 x8 x10 x11 M Q := by
  intro f h1 h3 h8 h10 h11; subst h1; subst h3; subst h8; subst h10; subst h11
  unfold At
  exact rule (B := 1000) (N := 161) (ct := .no)
    [⟨0, fun a M => dfr a.defers (P_fettleref4_changed_10 (a.get 1) (a.get 3) (a.get 8) (a.get 10) M Q), fun a M => At Try.prog Ex none Try.f78 [1, 1, 0, 1, 0, 1, 1, 1, 1, 1, 1, 1, 0, 1, 0, 0, 1, 1] a M Q⟩]
    [] [0] (by kernel_rfl) (by kernel_rfl) (by kernel_rfl) (by kernel_rfl) (by kernel_rfl)
    ⟨fun a M hn h => by obtain ⟨⟨n, f⟩, ds⟩ := a; have hn : n = 161 := hn; subst hn; obtain ⟨hd, h⟩ := dfr_iff h; have hd : ds = [] := hd; subst hd; exact h f rfl rfl rfl rfl,
    trivial⟩
    (cast (by kernel_rfl) h)
def S_fettleref4_changed_10 (x1 x3 x8 x10 : Value) (M : Store) (Q : Value → Store → Prop) : Prop :=
  OP (binI .add x10 (.int .i64 1)) fun t57 =>
  P_fettleref4_changed_4 x1 x3 x8 t57 M Q
theorem T_fettleref4_changed_10 {x1 x3 x8 x10 : Value} {M : Store} {Q : Value → Store → Prop} (h : S_fettleref4_changed_10 x1 x3 x8 x10 M Q) : P_fettleref4_changed_10 x1 x3 x8 x10 M Q := by
  intro f h1 h3 h8 h10; subst h1; subst h3; subst h8; subst h10
  unfold At
  exact rule (B := 1000) (N := 161) (ct := .no)
    [⟨0, fun a M => dfr a.defers (P_fettleref4_changed_4 (a.get 1) (a.get 3) (a.get 8) (a.get 10) M Q), fun a M => At Try.prog Ex none Try.f78 [1, 1, 0, 1, 0, 1, 1, 1, 1, 1, 1, 1, 0, 1, 0] a M Q⟩]
    [] [0] (by kernel_rfl) (by kernel_rfl) (by kernel_rfl) (by kernel_rfl) (by kernel_rfl)
    ⟨fun a M hn h => by obtain ⟨⟨n, f⟩, ds⟩ := a; have hn : n = 161 := hn; subst hn; obtain ⟨hd, h⟩ := dfr_iff h; have hd : ds = [] := hd; subst hd; exact h f rfl rfl rfl rfl,
    trivial⟩
    (cast (by kernel_rfl) h)
def P_acts_Ok_1 (x0 x5 x6 x7 : Value) (M : Store) (Q : Value → Store → Prop) : Prop :=
  ∀ f : Nat → Value, f 0 = x0 → f 5 = x5 → f 6 = x6 → f 7 = x7 → At Try.prog Ex none Try.f104 [1, 0, 1, 0] ⟨⟨32, f⟩, []⟩ M Q
def P_acts_Ok_2 (x0 x5 x6 x7 : Value) (M : Store) (Q : Value → Store → Prop) : Prop :=
  ∀ f : Nat → Value, f 0 = x0 → f 5 = x5 → f 6 = x6 → f 7 = x7 → At Try.prog Ex none Try.f104 [1, 0, 1, 0, 0, 1, 1] ⟨⟨32, f⟩, []⟩ M Q
def P_acts_Ok_3 (x0 : Value) (M : Store) (Q : Value → Store → Prop) : Prop :=
  ∀ f : Nat → Value, f 0 = x0 → At Try.prog Ex none Try.f104 [1, 1] ⟨⟨32, f⟩, []⟩ M Q
def S_acts_Ok (x0 : Value) (M : Store) (Q : Value → Store → Prop) : Prop :=
  OP (lenV x0) fun t6 =>
  P_acts_Ok_1 x0 x0 t6 (.int .i64 0) M Q
theorem T_acts_Ok {x0 : Value} {M : Store} {Q : Value → Store → Prop} (h : S_acts_Ok x0 M Q) : R F.acts_Ok #[x0] M Q := by
  refine runs_of (c := bodyOf Try.f104) Try.func104 rfl (by kernel_rfl) (by kernel_rfl) ?_
  unfold At
  exact rule (B := 1000) (N := 32) (ct := (.two .no (.two (.two .no (.two (.here 1000) .no)) (.here 1001))))
    [⟨1002, fun a M => dfr a.defers (P_acts_Ok_1 (a.get 0) (a.get 5) (a.get 6) (a.get 7) M Q), fun a M => At Try.prog Ex none Try.f104 [1, 0, 1, 0] a M Q⟩,
    ⟨1003, fun _ _ => False, fun a M => At Try.prog Ex none Try.f104 [1, 1] a M Q⟩]
    [1000, 1001] [] (by kernel_rfl) (by kernel_rfl) (by kernel_rfl) (by kernel_rfl) (by kernel_rfl)
    ⟨fun a M hn h => by obtain ⟨⟨n, f⟩, ds⟩ := a; have hn : n = 32 := hn; subst hn; obtain ⟨hd, h⟩ := dfr_iff h; have hd : ds = [] := hd; subst hd; exact h f rfl rfl rfl rfl,
    fun _ _ _ h => h.elim,
    trivial⟩
    (cast (by kernel_rfl) h)
def S_acts_Ok_1 (x0 x5 x6 x7 : Value) (M : Store) (Q : Value → Store → Prop) : Prop :=
  OP (binI .lss x7 x6) fun t8 =>
  BR t8 (
  P_acts_Ok_2 x0 x5 x6 x7 M Q
  ) (
  P_acts_Ok_3 x0 M Q
  )
theorem T_acts_Ok_1 {x0 x5 x6 x7 : Value} {M : Store} {Q : Value → Store → Prop} (h : S_acts_Ok_1 x0 x5 x6 x7 M Q) : P_acts_Ok_1 x0 x5 x6 x7 M Q := by
  intro f h0 h5 h6 h7; subst h0; subst h5; subst h6; subst h7
  unfold At
  refine cast (by kernel_rfl) (CW.loop (P := Try.prog) (E := Ex) (rd := none) (x := sub (bodyOf Try.f104) [1, 0, 1, 0, 0]) (a := ⟨⟨32, f⟩, []⟩) (M := M) (K := kcont Try.prog Ex none (bodyOf Try.f104) [1, 0, 1, 0] (kfin Try.prog Try.f104.results.toList Q)) ?_)
  exact rule (B := 1000) (N := 32) (ct := (.two .no (.two .no (.here 1000))))
    [⟨1002, fun a M => dfr a.defers (P_acts_Ok_2 (a.get 0) (a.get 5) (a.get 6) (a.get 7) M Q), fun a M => At Try.prog Ex none Try.f104 [1, 0, 1, 0, 0, 1, 1] a M Q⟩,
    ⟨2, fun a M => dfr a.defers (P_acts_Ok_3 (a.get 0) M Q), fun a M => At Try.prog Ex none Try.f104 [1, 1] a M Q⟩]
    [1000] [2] (by kernel_rfl) (by kernel_rfl) (by kernel_rfl) (by kernel_rfl) (by kernel_rfl)
    ⟨fun a M hn h => by obtain ⟨⟨n, f⟩, ds⟩ := a; have hn : n = 32 := hn; subst hn; obtain ⟨hd, h⟩ := dfr_iff h; have hd : ds = [] := hd; subst hd; exact h f rfl rfl rfl rfl,
    fun a M hn h => by obtain ⟨⟨n, f⟩, ds⟩ := a; have hn : n = 32 := hn; subst hn; obtain ⟨hd, h⟩ := dfr_iff h; have hd : ds = [] := hd; subst hd; exact h f rfl,
    trivial⟩
    (cast (by kernel_rfl) h)
def S_acts_Ok_2 (x0 x5 x6 x7 : Value) (M : Store) (Q : Value → Store → Prop) : Prop :=
  OP (ixA 3 x5 x7) fun t10 =>
  OP (ld 3 true t10 M) fun t11 =>
  LT (.pointer (some ⟨M.n, 0, none⟩)) (M.push (some (.inl ([(.int .i64 0), (.int .i64 0), (.string ⟨#[]⟩)], Ty.api_Do, true)))) fun t4 M1 =>
  OP (st 3 t4 t11 M1) fun M2 =>
  OP (ld 3 true t4 M2) fun t12 =>
  R F.acts_right #[t12] M2 fun t13 M3 =>
  OP (aun .not t13) fun t14 =>
  BR t14 (
  NTs [(.bool false)] ∧ Q (.bool false) M3
  ) (
  OP (fad 0 t4) fun t16 =>
  OP (ld 1 false t16 M3) fun t17 =>
  R F.acts_begins #[t17] M3 fun t18 M4 =>
  OP (binI .eql x7 (.int .i64 0)) fun t20 =>
  OP (abin Try.prog false .neq Ty.bool t18 t20) fun t21 =>
  BR t21 (
  NTs [(.bool false)] ∧ Q (.bool false) M4
  ) (
  OP (binI .add x7 (.int .i64 1)) fun t23 =>
  P_acts_Ok_1 x0 x5 x6 t23 M4 Q
  )
  )
theorem T_acts_Ok_2 {x0 x5 x6 x7 : Value} {M : Store} {Q : Value → Store → Prop} (h : S_acts_Ok_2 x0 x5 x6 x7 M Q) : P_acts_Ok_2 x0 x5 x6 x7 M Q := by
  intro f h0 h5 h6 h7; subst h0; subst h5; subst h6; subst h7
  unfold At
  exact rule (B := 1000) (N := 32) (ct := .no)
    [⟨0, fun a M => dfr a.defers (P_acts_Ok_1 (a.get 0) (a.get 5) (a.get 6) (a.get 7) M Q), fun a M => At Try.prog Ex none Try.f104 [1, 0, 1, 0] a M Q⟩,
    ⟨1, fun a M => kfin Try.prog Try.f104.results.toList Q 1 a M, fun a M => kfin Try.prog Try.f104.results.toList Q 1 a M⟩]
    [] [0, 1] (by kernel_rfl) (by kernel_rfl) (by kernel_rfl) (by kernel_rfl) (by kernel_rfl)
    ⟨fun a M hn h => by obtain ⟨⟨n, f⟩, ds⟩ := a; have hn : n = 32 := hn; subst hn; obtain ⟨hd, h⟩ := dfr_iff h; have hd : ds = [] := hd; subst hd; exact h f rfl rfl rfl rfl,
    fun _ _ _ h => h,
    trivial⟩
    (cast (by kernel_rfl) h)
def S_acts_Ok_3 (x0 : Value) (M : Store) (Q : Value → Store → Prop) : Prop :=
  OP (lenV x0) fun t25 =>
  OP (binI .geq t25 (.int .i64 1)) fun t26 =>
  BR t26 (
  OP (lenV x0) fun t29 =>
  OP (binI .leq t29 (.int .i64 8)) fun t30 =>
  NTs [t30] ∧ Q t30 M
  ) (
  NTs [(.bool false)] ∧ Q (.bool false) M
  )
theorem T_acts_Ok_3 {x0 : Value} {M : Store} {Q : Value → Store → Prop} (h : S_acts_Ok_3 x0 M Q) : P_acts_Ok_3 x0 M Q := by
  intro f h0; subst h0
  unfold At
  exact rule (B := 1000) (N := 32) (ct := .no)
    [⟨1, fun a M => kfin Try.prog Try.f104.results.toList Q 1 a M, fun a M => kfin Try.prog Try.f104.results.toList Q 1 a M⟩]
    [] [1] (by kernel_rfl) (by kernel_rfl) (by kernel_rfl) (by kernel_rfl) (by kernel_rfl)
    ⟨fun _ _ _ h => h,
    trivial⟩
    (cast (by kernel_rfl) h)
def S_acts_step (x0 x1 x2 : Value) (M : Store) (Q : Value → Store → Prop) : Prop :=
  OP (boxv x0) fun c =>
  LT (.pointer (some ⟨M.n, 0, none⟩)) (M.push (some (.inl (c, Ty.api_Do, true)))) fun t3 M1 =>
  OP (fad 0 t3) fun t9 =>
  OP (ld 1 false t9 M1) fun t10 =>
  OP (binI .eql t10 (.int .i64 1)) fun t12 =>
  BR t12 (
  OP (fad 2 t3) fun t13 =>
  OP (ld 1 false t13 M1) fun t14 =>
  OP2 (cvSB Ty.uint8 t14 M1) fun t15 M2 =>
  NTs [t15, (.bool true)] ∧ Q (.tuple #[t15, (.bool true)]) M2
  ) (
  OP (binI .eql t10 (.int .i64 2)) fun t17 =>
  BR t17 (
  OP (fad 1 t3) fun t18 =>
  OP (ld 1 false t18 M1) fun t19 =>
  OP (lenV x1) fun t21 =>
  OP (binI .geq t19 t21) fun t22 =>
  BR t22 (
  NTs [(.slice none 0 0), (.bool false)] ∧ Q (.tuple #[(.slice none 0 0), (.bool false)]) M1
  ) (
  OP (fad 1 t3) fun t24 =>
  OP (ld 1 false t24 M1) fun t25 =>
  OP (ixA 1 x1 t25) fun t26 =>
  OP (ld 1 false t26 M1) fun t27 =>
  R F.slices_Clone_sl_byte_byte #[t27] M1 fun t28 M3 =>
  NTs [t28, (.bool true)] ∧ Q (.tuple #[t28, (.bool true)]) M3
  )
  ) (
  OP (binI .eql t10 (.int .i64 3)) fun t30 =>
  BR t30 (
  R F.bytes_Join #[x1, (.slice none 0 0)] M1 fun t32 M4 =>
  NTs [t32, (.bool true)] ∧ Q (.tuple #[t32, (.bool true)]) M4
  ) (
  OP (binI .eql t10 (.int .i64 4)) fun t34 =>
  BR t34 (
  R F.acts_turned #[x2, (.int .u8 97), (.int .u8 122), (.int .i64 (-32))] M1 fun t36 M5 =>
  NTs [t36, (.bool true)] ∧ Q (.tuple #[t36, (.bool true)]) M5
  ) (
  OP (binI .eql t10 (.int .i64 5)) fun t38 =>
  BR t38 (
  R F.acts_turned #[x2, (.int .u8 65), (.int .u8 90), (.int .i64 32)] M1 fun t40 M6 =>
  NTs [t40, (.bool true)] ∧ Q (.tuple #[t40, (.bool true)]) M6
  ) (
  OP (binI .eql t10 (.int .i64 6)) fun t42 =>
  BR t42 (
  R F.slices_Clone_sl_byte_byte #[x2] M1 fun t44 M7 =>
  R F.slices_Reverse_sl_byte_byte #[t44] M7 fun t46 M8 =>
  NTs [t44, (.bool true)] ∧ Q (.tuple #[t44, (.bool true)]) M8
  ) (
  OP (binI .eql t10 (.int .i64 7)) fun t49 =>
  BR t49 (
  OP (fad 1 t3) fun t51 =>
  OP (ld 1 false t51 M1) fun t52 =>
  OP (lenV x2) fun t54 =>
  OP (amin2 t52 t54) fun t55 =>
  OP (slV 1 Ty.uint8 x2 none (some t55) M1) fun t56 =>
  NTs [t56, (.bool true)] ∧ Q (.tuple #[t56, (.bool true)]) M1
  ) (
  OP (binI .eql t10 (.int .i64 8)) fun t58 =>
  BR t58 (
  OP (fad 1 t3) fun t60 =>
  OP (ld 1 false t60 M1) fun t61 =>
  OP (lenV x2) fun t63 =>
  OP (amin2 t61 t63) fun t64 =>
  OP (slV 1 Ty.uint8 x2 (some t64) none M1) fun t65 =>
  NTs [t65, (.bool true)] ∧ Q (.tuple #[t65, (.bool true)]) M1
  ) (
  OP (binI .eql t10 (.int .i64 9)) fun t67 =>
  BR t67 (
  OP (bldL (.slice none 0 0) 1 2 [(0, x2), (1, x2)]) fun c_1 =>
  LT (.slice (some ⟨M1.n, 0, none⟩) 2 2) (M1.push (some (.inl (c_1, Ty.sl_uint8, true)))) fun t70 M9 =>
  R F.slices_Concat_sl_byte_byte #[t70] M9 fun t71 M10 =>
  NTs [t71, (.bool true)] ∧ Q (.tuple #[t71, (.bool true)]) M10
  ) (
  OP (binI .eql t10 (.int .i64 10)) fun t73 =>
  BR t73 (
  OP (fad 2 t3) fun t75 =>
  OP (ld 1 false t75 M1) fun t76 =>
  R F.acts_joined #[x2, t76] M1 fun t77 M11 =>
  NTs [t77, (.bool true)] ∧ Q (.tuple #[t77, (.bool true)]) M11
  ) (
  NTs [(.slice none 0 0), (.bool false)] ∧ Q (.tuple #[(.slice none 0 0), (.bool false)]) M1
  )
  )
  )
  )
  )
  )
  )
  )
  )
  )
theorem T_acts_step {x0 x1 x2 : Value} {M : Store} {Q : Value → Store → Prop} (h : S_acts_step x0 x1 x2 M Q) : R F.acts_step #[x0, x1, x2] M Q := by
  refine runs_of (c := bodyOf Try.f106) Try.func106 rfl (by kernel_rfl) (by kernel_rfl) ?_
  unfold At
  exact rule (B := 1000) (N := 78) (ct := .no)
    [⟨1, fun a M => kfin Try.prog Try.f106.results.toList Q 1 a M, fun a M => kfin Try.prog Try.f106.results.toList Q 1 a M⟩]
    [] [1] (by kernel_rfl) (by kernel_rfl) (by kernel_rfl) (by kernel_rfl) (by kernel_rfl)
    ⟨fun _ _ _ h => h,
    trivial⟩
    (cast (by kernel_rfl) h)
def P_fettleref4_plain_1 (x0 x3 : Value) (M : Store) (Q : Value → Store → Prop) : Prop :=
  ∀ f : Nat → Value, f 0 = x0 → f 3 = x3 → At Try.prog Ex none Try.f107 [1, 0, 1, 0] ⟨⟨29, f⟩, []⟩ M Q
def P_fettleref4_plain_2 (x0 x3 : Value) (M : Store) (Q : Value → Store → Prop) : Prop :=
  ∀ f : Nat → Value, f 0 = x0 → f 3 = x3 → At Try.prog Ex none Try.f107 [1, 0, 1, 0, 0, 1] ⟨⟨29, f⟩, []⟩ M Q
def P_fettleref4_plain_3 (x0 : Value) (M : Store) (Q : Value → Store → Prop) : Prop :=
  ∀ f : Nat → Value, f 0 = x0 → At Try.prog Ex none Try.f107 [1, 1] ⟨⟨29, f⟩, []⟩ M Q
def S_fettleref4_plain (x0 : Value) (M : Store) (Q : Value → Store → Prop) : Prop :=
  P_fettleref4_plain_1 x0 (.int .i64 0) M Q
theorem T_fettleref4_plain {x0 : Value} {M : Store} {Q : Value → Store → Prop} (h : S_fettleref4_plain x0 M Q) : R F.fettleref4_plain #[x0] M Q := by
  refine runs_of (c := bodyOf Try.f107) Try.func107 rfl (by kernel_rfl) (by kernel_rfl) ?_
  unfold At
  exact rule (B := 1000) (N := 29) (ct := (.two .no (.two (.two .no (.two (.here 1000) .no)) (.here 1001))))
    [⟨1002, fun a M => dfr a.defers (P_fettleref4_plain_1 (a.get 0) (a.get 3) M Q), fun a M => At Try.prog Ex none Try.f107 [1, 0, 1, 0] a M Q⟩,
    ⟨1003, fun _ _ => False, fun a M => At Try.prog Ex none Try.f107 [1, 1] a M Q⟩]
    [1000, 1001] [] (by kernel_rfl) (by kernel_rfl) (by kernel_rfl) (by kernel_rfl) (by kernel_rfl)
    ⟨fun a M hn h => by obtain ⟨⟨n, f⟩, ds⟩ := a; have hn : n = 29 := hn; subst hn; obtain ⟨hd, h⟩ := dfr_iff h; have hd : ds = [] := hd; subst hd; exact h f rfl rfl,
    fun _ _ _ h => h.elim,
    trivial⟩
    (cast (by kernel_rfl) h)
def S_fettleref4_plain_1 (x0 x3 : Value) (M : Store) (Q : Value → Store → Prop) : Prop :=
  OP (lenS x0) fun t6 =>
  OP (binI .lss x3 t6) fun t7 =>
  BR t7 (
  P_fettleref4_plain_2 x0 x3 M Q
  ) (
  P_fettleref4_plain_3 x0 M Q
  )
theorem T_fettleref4_plain_1 {x0 x3 : Value} {M : Store} {Q : Value → Store → Prop} (h : S_fettleref4_plain_1 x0 x3 M Q) : P_fettleref4_plain_1 x0 x3 M Q := by
  intro f h0 h3; subst h0; subst h3
  unfold At
  refine cast (by kernel_rfl) (CW.loop (P := Try.prog) (E := Ex) (rd := none) (x := sub (bodyOf Try.f107) [1, 0, 1, 0, 0]) (a := ⟨⟨29, f⟩, []⟩) (M := M) (K := kcont Try.prog Ex none (bodyOf Try.f107) [1, 0, 1, 0] (kfin Try.prog Try.f107.results.toList Q)) ?_)
  exact rule (B := 1000) (N := 29) (ct := (.two .no (.here 1000)))
    [⟨1002, fun a M => dfr a.defers (P_fettleref4_plain_2 (a.get 0) (a.get 3) M Q), fun a M => At Try.prog Ex none Try.f107 [1, 0, 1, 0, 0, 1] a M Q⟩,
    ⟨2, fun a M => dfr a.defers (P_fettleref4_plain_3 (a.get 0) M Q), fun a M => At Try.prog Ex none Try.f107 [1, 1] a M Q⟩]
    [1000] [2] (by kernel_rfl) (by kernel_rfl) (by kernel_rfl) (by kernel_rfl) (by kernel_rfl)
    ⟨fun a M hn h => by obtain ⟨⟨n, f⟩, ds⟩ := a; have hn : n = 29 := hn; subst hn; obtain ⟨hd, h⟩ := dfr_iff h; have hd : ds = [] := hd; subst hd; exact h f rfl rfl,
    fun a M hn h => by obtain ⟨⟨n, f⟩, ds⟩ := a; have hn : n = 29 := hn; subst hn; obtain ⟨hd, h⟩ := dfr_iff h; have hd : ds = [] := hd; subst hd; exact h f rfl,
    trivial⟩
    (cast (by kernel_rfl) h)
def S_fettleref4_plain_2 (x0 x3 : Value) (M : Store) (Q : Value → Store → Prop) : Prop :=
  OP (ixS x0 x3) fun t12 =>
  OP (binI .lss t12 (.int .u8 32)) fun t13 =>
  BR t13 (
  NTs [(.bool false)] ∧ Q (.bool false) M
  ) (
  OP (ixS x0 x3) fun t17 =>
  OP (binI .gtr t17 (.int .u8 126)) fun t18 =>
  BR t18 (
  NTs [(.bool false)] ∧ Q (.bool false) M
  ) (
  OP (ixS x0 x3) fun t23 =>
  OP (binI .eql t23 (.int .u8 34)) fun t24 =>
  BR t24 (
  NTs [(.bool false)] ∧ Q (.bool false) M
  ) (
  OP (binI .add x3 (.int .i64 1)) fun t9 =>
  P_fettleref4_plain_1 x0 t9 M Q
  )
  )
  )
theorem T_fettleref4_plain_2 {x0 x3 : Value} {M : Store} {Q : Value → Store → Prop} (h : S_fettleref4_plain_2 x0 x3 M Q) : P_fettleref4_plain_2 x0 x3 M Q := by
  intro f h0 h3; subst h0; subst h3
  unfold At
  exact rule (B := 1000) (N := 29) (ct := .no)
    [⟨0, fun a M => dfr a.defers (P_fettleref4_plain_1 (a.get 0) (a.get 3) M Q), fun a M => At Try.prog Ex none Try.f107 [1, 0, 1, 0] a M Q⟩,
    ⟨1, fun a M => kfin Try.prog Try.f107.results.toList Q 1 a M, fun a M => kfin Try.prog Try.f107.results.toList Q 1 a M⟩]
    [] [0, 1] (by kernel_rfl) (by kernel_rfl) (by kernel_rfl) (by kernel_rfl) (by kernel_rfl)
    ⟨fun a M hn h => by obtain ⟨⟨n, f⟩, ds⟩ := a; have hn : n = 29 := hn; subst hn; obtain ⟨hd, h⟩ := dfr_iff h; have hd : ds = [] := hd; subst hd; exact h f rfl rfl,
    fun _ _ _ h => h,
    trivial⟩
    (cast (by kernel_rfl) h)
def S_fettleref4_plain_3 (x0 : Value) (M : Store) (Q : Value → Store → Prop) : Prop :=
  OP (lenS x0) fun t27 =>
  OP (binI .leq t27 (.int .i64 64)) fun t28 =>
  NTs [t28] ∧ Q t28 M
theorem T_fettleref4_plain_3 {x0 : Value} {M : Store} {Q : Value → Store → Prop} (h : S_fettleref4_plain_3 x0 M Q) : P_fettleref4_plain_3 x0 M Q := by
  intro f h0; subst h0
  unfold At
  exact rule (B := 1000) (N := 29) (ct := .no)
    [⟨1, fun a M => kfin Try.prog Try.f107.results.toList Q 1 a M, fun a M => kfin Try.prog Try.f107.results.toList Q 1 a M⟩]
    [] [1] (by kernel_rfl) (by kernel_rfl) (by kernel_rfl) (by kernel_rfl) (by kernel_rfl)
    ⟨fun _ _ _ h => h,
    trivial⟩
    (cast (by kernel_rfl) h)
def S_acts_right (x0 : Value) (M : Store) (Q : Value → Store → Prop) : Prop :=
  OP (boxv x0) fun c =>
  LT (.pointer (some ⟨M.n, 0, none⟩)) (M.push (some (.inl (c, Ty.api_Do, true)))) fun t1 M1 =>
  OP (fad 0 t1) fun t4 =>
  OP (ld 1 false t4 M1) fun t5 =>
  OP (binI .lss t5 (.int .i64 1)) fun t6 =>
  BR t6 (
  NTs [(.bool false)] ∧ Q (.bool false) M1
  ) (
  OP (fad 0 t1) fun t8 =>
  OP (ld 1 false t8 M1) fun t9 =>
  OP (binI .gtr t9 (.int .i64 11)) fun t10 =>
  BR t10 (
  NTs [(.bool false)] ∧ Q (.bool false) M1
  ) (
  OP (fad 0 t1) fun t13 =>
  OP (ld 1 false t13 M1) fun t14 =>
  R F.acts_text #[t14] M1 fun t15 M2 =>
  BR t15 (
  OP (fad 1 t1) fun t16 =>
  OP (ld 1 false t16 M2) fun t17 =>
  OP (binI .eql t17 (.int .i64 0)) fun t18 =>
  BR t18 (
  OP (fad 2 t1) fun t20 =>
  OP (ld 1 false t20 M2) fun t21 =>
  R F.acts_fits #[t21] M2 fun t22 M3 =>
  NTs [t22] ∧ Q t22 M3
  ) (
  NTs [(.bool false)] ∧ Q (.bool false) M2
  )
  ) (
  OP (fad 2 t1) fun t24 =>
  OP (ld 1 false t24 M2) fun t25 =>
  OP (binS .eql t25 (.string ⟨#[]⟩)) fun t26 =>
  BR t26 (
  OP (fad 1 t1) fun t28 =>
  OP (ld 1 false t28 M2) fun t29 =>
  OP (binI .geq t29 (.int .i64 0)) fun t30 =>
  BR t30 (
  OP (fad 1 t1) fun t33 =>
  OP (ld 1 false t33 M2) fun t34 =>
  OP (fad 0 t1) fun t35 =>
  OP (ld 1 false t35 M2) fun t36 =>
  R F.acts_top #[t36] M2 fun t37 M4 =>
  TDj [11, 12] [M2.n, M2.n, M2.n, M2.n, M2.n, M2.n, M2.n, M2.n, M2.n, M2.n, M2.n, M2.n, M2.n, M2.n] M2 M4 ∧
  OP (amax2 t37 (.int .i64 0)) fun t38 =>
  OP (binI .leq t34 t38) fun t39 =>
  NTs [t39] ∧ Q t39 M4
  ) (
  NTs [(.bool false)] ∧ Q (.bool false) M2
  )
  ) (
  NTs [(.bool false)] ∧ Q (.bool false) M2
  )
  )
  )
  )
theorem T_acts_right {x0 : Value} {M : Store} {Q : Value → Store → Prop} (h : S_acts_right x0 M Q) : R F.acts_right #[x0] M Q := by
  refine runs_of (c := bodyOf Try.f116) Try.func116 rfl (by kernel_rfl) (by kernel_rfl) ?_
  unfold At
  exact rule (B := 1000) (N := 41) (ct := .no)
    [⟨1, fun a M => kfin Try.prog Try.f116.results.toList Q 1 a M, fun a M => kfin Try.prog Try.f116.results.toList Q 1 a M⟩]
    [] [1] (by kernel_rfl) (by kernel_rfl) (by kernel_rfl) (by kernel_rfl) (by kernel_rfl)
    ⟨fun _ _ _ h => h,
    trivial⟩
    (cast (by kernel_rfl) h)
def S_acts_begins (x0 : Value) (M : Store) (Q : Value → Store → Prop) : Prop :=
  OP (binI .eql x0 (.int .i64 1)) fun t4 =>
  BR t4 (
  NTs [(.bool true)] ∧ Q (.bool true) M
  ) (
  OP (binI .eql x0 (.int .i64 2)) fun t7 =>
  BR t7 (
  NTs [(.bool true)] ∧ Q (.bool true) M
  ) (
  OP (binI .eql x0 (.int .i64 3)) fun t11 =>
  NTs [t11] ∧ Q t11 M
  )
  )
theorem T_acts_begins {x0 : Value} {M : Store} {Q : Value → Store → Prop} (h : S_acts_begins x0 M Q) : R F.acts_begins #[x0] M Q := by
  refine runs_of (c := bodyOf Try.f117) Try.func117 rfl (by kernel_rfl) (by kernel_rfl) ?_
  unfold At
  exact rule (B := 1000) (N := 13) (ct := .no)
    [⟨1, fun a M => kfin Try.prog Try.f117.results.toList Q 1 a M, fun a M => kfin Try.prog Try.f117.results.toList Q 1 a M⟩]
    [] [1] (by kernel_rfl) (by kernel_rfl) (by kernel_rfl) (by kernel_rfl) (by kernel_rfl)
    ⟨fun _ _ _ h => h,
    trivial⟩
    (cast (by kernel_rfl) h)
def P_acts_turned_1 (x1 x2 x3 x9 x14 x15 x16 : Value) (M : Store) (Q : Value → Store → Prop) : Prop :=
  ∀ f : Nat → Value, f 1 = x1 → f 2 = x2 → f 3 = x3 → f 9 = x9 → f 14 = x14 → f 15 = x15 → f 16 = x16 → At Try.prog Ex none Try.f119 [1, 1, 0, 1, 0] ⟨⟨39, f⟩, []⟩ M Q
def P_acts_turned_2 (x1 x2 x3 x9 x14 x15 x16 : Value) (M : Store) (Q : Value → Store → Prop) : Prop :=
  ∀ f : Nat → Value, f 1 = x1 → f 2 = x2 → f 3 = x3 → f 9 = x9 → f 14 = x14 → f 15 = x15 → f 16 = x16 → At Try.prog Ex none Try.f119 [1, 1, 0, 1, 0, 0, 1, 1] ⟨⟨39, f⟩, []⟩ M Q
def P_acts_turned_3 (x9 : Value) (M : Store) (Q : Value → Store → Prop) : Prop :=
  ∀ f : Nat → Value, f 9 = x9 → At Try.prog Ex none Try.f119 [1, 1, 1] ⟨⟨39, f⟩, []⟩ M Q
def S_acts_turned (x0 x1 x2 x3 : Value) (M : Store) (Q : Value → Store → Prop) : Prop :=
  R F.slices_Clone_sl_byte_byte #[x0] M fun t13 M1 =>
  OP (lenV t13) fun t15 =>
  P_acts_turned_1 x1 x2 x3 t13 t13 t15 (.int .i64 0) M1 Q
theorem T_acts_turned {x0 x1 x2 x3 : Value} {M : Store} {Q : Value → Store → Prop} (h : S_acts_turned x0 x1 x2 x3 M Q) : R F.acts_turned #[x0, x1, x2, x3] M Q := by
  refine runs_of (c := bodyOf Try.f119) Try.func119 rfl (by kernel_rfl) (by kernel_rfl) ?_
  unfold At
  exact rule (B := 1000) (N := 39) (ct := (.two .no (.two .no (.two (.two .no (.two (.here 1000) .no)) (.here 1001)))))
    [⟨1002, fun a M => dfr a.defers (P_acts_turned_1 (a.get 1) (a.get 2) (a.get 3) (a.get 9) (a.get 14) (a.get 15) (a.get 16) M Q), fun a M => At Try.prog Ex none Try.f119 [1, 1, 0, 1, 0] a M Q⟩,
    ⟨1003, fun _ _ => False, fun a M => At Try.prog Ex none Try.f119 [1, 1, 1] a M Q⟩]
    [1000, 1001] [] (by kernel_rfl) (by kernel_rfl) (by kernel_rfl) (by kernel_rfl) (by kernel_rfl)
    ⟨fun a M hn h => by obtain ⟨⟨n, f⟩, ds⟩ := a; have hn : n = 39 := hn; subst hn; obtain ⟨hd, h⟩ := dfr_iff h; have hd : ds = [] := hd; subst hd; exact h f rfl rfl rfl rfl rfl rfl rfl,
    fun _ _ _ h => h.elim,
    trivial⟩
    (cast (by kernel_rfl) h)
def S_acts_turned_1 (x1 x2 x3 x9 x14 x15 x16 : Value) (M : Store) (Q : Value → Store → Prop) : Prop :=
  OP (binI .lss x16 x15) fun t17 =>
  BR t17 (
  P_acts_turned_2 x1 x2 x3 x9 x14 x15 x16 M Q
  ) (
  P_acts_turned_3 x9 M Q
  )
theorem T_acts_turned_1 {x1 x2 x3 x9 x14 x15 x16 : Value} {M : Store} {Q : Value → Store → Prop} (h : S_acts_turned_1 x1 x2 x3 x9 x14 x15 x16 M Q) : P_acts_turned_1 x1 x2 x3 x9 x14 x15 x16 M Q := by
  intro f h1 h2 h3 h9 h14 h15 h16; subst h1; subst h2; subst h3; subst h9; subst h14; subst h15; subst h16
  unfold At
  refine cast (by kernel_rfl) (CW.loop (P := Try.prog) (E := Ex) (rd := none) (x := sub (bodyOf Try.f119) [1, 1, 0, 1, 0, 0]) (a := ⟨⟨39, f⟩, []⟩) (M := M) (K := kcont Try.prog Ex none (bodyOf Try.f119) [1, 1, 0, 1, 0] (kfin Try.prog Try.f119.results.toList Q)) ?_)
  exact rule (B := 1000) (N := 39) (ct := (.two .no (.two .no (.here 1000))))
    [⟨1002, fun a M => dfr a.defers (P_acts_turned_2 (a.get 1) (a.get 2) (a.get 3) (a.get 9) (a.get 14) (a.get 15) (a.get 16) M Q), fun a M => At Try.prog Ex none Try.f119 [1, 1, 0, 1, 0, 0, 1, 1] a M Q⟩,
    ⟨2, fun a M => dfr a.defers (P_acts_turned_3 (a.get 9) M Q), fun a M => At Try.prog Ex none Try.f119 [1, 1, 1] a M Q⟩]
    [1000] [2] (by kernel_rfl) (by kernel_rfl) (by kernel_rfl) (by kernel_rfl) (by kernel_rfl)
    ⟨fun a M hn h => by obtain ⟨⟨n, f⟩, ds⟩ := a; have hn : n = 39 := hn; subst hn; obtain ⟨hd, h⟩ := dfr_iff h; have hd : ds = [] := hd; subst hd; exact h f rfl rfl rfl rfl rfl rfl rfl,
    fun a M hn h => by obtain ⟨⟨n, f⟩, ds⟩ := a; have hn : n = 39 := hn; subst hn; obtain ⟨hd, h⟩ := dfr_iff h; have hd : ds = [] := hd; subst hd; exact h f rfl,
    trivial⟩
    (cast (by kernel_rfl) h)
def S_acts_turned_2 (x1 x2 x3 x9 x14 x15 x16 : Value) (M : Store) (Q : Value → Store → Prop) : Prop :=
  OP (ixA 1 x14 x16) fun t19 =>
  OP (ld 1 false t19 M) fun t20 =>
  OP (binI .geq t20 x1) fun t23 =>
  BR t23 (
  OP (binI .leq t20 x2) fun t27 =>
  BR t27 (
  OP (cvI .i64 t20) fun t32 =>
  OP (binI .add t32 x3) fun t34 =>
  OP (cvI .u8 t34) fun t35 =>
  OP (ixA 1 x9 x16) fun t36 =>
  OP (st 1 t36 t35 M) fun M1 =>
  OP (binI .add x16 (.int .i64 1)) fun t37 =>
  P_acts_turned_1 x1 x2 x3 x9 x14 x15 t37 M1 Q
  ) (
  OP (binI .add x16 (.int .i64 1)) fun t37_1 =>
  P_acts_turned_1 x1 x2 x3 x9 x14 x15 t37_1 M Q
  )
  ) (
  OP (binI .add x16 (.int .i64 1)) fun t37_2 =>
  P_acts_turned_1 x1 x2 x3 x9 x14 x15 t37_2 M Q
  )
theorem T_acts_turned_2 {x1 x2 x3 x9 x14 x15 x16 : Value} {M : Store} {Q : Value → Store → Prop} (h : S_acts_turned_2 x1 x2 x3 x9 x14 x15 x16 M Q) : P_acts_turned_2 x1 x2 x3 x9 x14 x15 x16 M Q := by
  intro f h1 h2 h3 h9 h14 h15 h16; subst h1; subst h2; subst h3; subst h9; subst h14; subst h15; subst h16
  unfold At
  exact rule (B := 1000) (N := 39) (ct := .no)
    [⟨0, fun a M => dfr a.defers (P_acts_turned_1 (a.get 1) (a.get 2) (a.get 3) (a.get 9) (a.get 14) (a.get 15) (a.get 16) M Q), fun a M => At Try.prog Ex none Try.f119 [1, 1, 0, 1, 0] a M Q⟩]
    [] [0] (by kernel_rfl) (by kernel_rfl) (by kernel_rfl) (by kernel_rfl) (by kernel_rfl)
    ⟨fun a M hn h => by obtain ⟨⟨n, f⟩, ds⟩ := a; have hn : n = 39 := hn; subst hn; obtain ⟨hd, h⟩ := dfr_iff h; have hd : ds = [] := hd; subst hd; exact h f rfl rfl rfl rfl rfl rfl rfl,
    trivial⟩
    (cast (by kernel_rfl) h)
def S_acts_turned_3 (x9 : Value) (M : Store) (Q : Value → Store → Prop) : Prop :=
  NTs [x9] ∧ Q x9 M
theorem T_acts_turned_3 {x9 : Value} {M : Store} {Q : Value → Store → Prop} (h : S_acts_turned_3 x9 M Q) : P_acts_turned_3 x9 M Q := by
  intro f h9; subst h9
  unfold At
  exact rule (B := 1000) (N := 39) (ct := .no)
    [⟨1, fun a M => kfin Try.prog Try.f119.results.toList Q 1 a M, fun a M => kfin Try.prog Try.f119.results.toList Q 1 a M⟩]
    [] [1] (by kernel_rfl) (by kernel_rfl) (by kernel_rfl) (by kernel_rfl) (by kernel_rfl)
    ⟨fun _ _ _ h => h,
    trivial⟩
    (cast (by kernel_rfl) h)
def P_slices_Reverse_sl_byte_byte_1 (x0 x2 x3 : Value) (M : Store) (Q : Value → Store → Prop) : Prop :=
  ∀ f : Nat → Value, f 0 = x0 → f 2 = x2 → f 3 = x3 → At Try.prog Ex none Try.f120 [1, 0] ⟨⟨28, f⟩, []⟩ M Q
def P_slices_Reverse_sl_byte_byte_2 (x0 x2 x3 : Value) (M : Store) (Q : Value → Store → Prop) : Prop :=
  ∀ f : Nat → Value, f 0 = x0 → f 2 = x2 → f 3 = x3 → At Try.prog Ex none Try.f120 [1, 0, 0, 1] ⟨⟨28, f⟩, []⟩ M Q
def S_slices_Reverse_sl_byte_byte (x0 : Value) (M : Store) (Q : Value → Store → Prop) : Prop :=
  OP (lenV x0) fun t5 =>
  OP (binI .sub t5 (.int .i64 1)) fun t6 =>
  P_slices_Reverse_sl_byte_byte_1 x0 (.int .i64 0) t6 M Q
theorem T_slices_Reverse_sl_byte_byte {x0 : Value} {M : Store} {Q : Value → Store → Prop} (h : S_slices_Reverse_sl_byte_byte x0 M Q) : R F.slices_Reverse_sl_byte_byte #[x0] M Q := by
  refine runs_of (c := bodyOf Try.f120) Try.func120 rfl (by kernel_rfl) (by kernel_rfl) ?_
  unfold At
  exact rule (B := 1000) (N := 28) (ct := (.two .no (.two (.here 1000) .no)))
    [⟨1002, fun a M => dfr a.defers (P_slices_Reverse_sl_byte_byte_1 (a.get 0) (a.get 2) (a.get 3) M Q), fun a M => At Try.prog Ex none Try.f120 [1, 0] a M Q⟩]
    [1000] [] (by kernel_rfl) (by kernel_rfl) (by kernel_rfl) (by kernel_rfl) (by kernel_rfl)
    ⟨fun a M hn h => by obtain ⟨⟨n, f⟩, ds⟩ := a; have hn : n = 28 := hn; subst hn; obtain ⟨hd, h⟩ := dfr_iff h; have hd : ds = [] := hd; subst hd; exact h f rfl rfl rfl,
    trivial⟩
    (cast (by kernel_rfl) h)
def S_slices_Reverse_sl_byte_byte_1 (x0 x2 x3 : Value) (M : Store) (Q : Value → Store → Prop) : Prop :=
  OP (binI .lss x2 x3) fun t9 =>
  BR t9 (
  P_slices_Reverse_sl_byte_byte_2 x0 x2 x3 M Q
  ) (
  NTs [] ∧ Q (.tuple #[]) M
  )
theorem T_slices_Reverse_sl_byte_byte_1 {x0 x2 x3 : Value} {M : Store} {Q : Value → Store → Prop} (h : S_slices_Reverse_sl_byte_byte_1 x0 x2 x3 M Q) : P_slices_Reverse_sl_byte_byte_1 x0 x2 x3 M Q := by
  intro f h0 h2 h3; subst h0; subst h2; subst h3
  unfold At
  refine cast (by kernel_rfl) (CW.loop (P := Try.prog) (E := Ex) (rd := none) (x := sub (bodyOf Try.f120) [1, 0, 0]) (a := ⟨⟨28, f⟩, []⟩) (M := M) (K := kcont Try.prog Ex none (bodyOf Try.f120) [1, 0] (kfin Try.prog Try.f120.results.toList Q)) ?_)
  exact rule (B := 1000) (N := 28) (ct := (.two .no (.here 1000)))
    [⟨1002, fun a M => dfr a.defers (P_slices_Reverse_sl_byte_byte_2 (a.get 0) (a.get 2) (a.get 3) M Q), fun a M => At Try.prog Ex none Try.f120 [1, 0, 0, 1] a M Q⟩,
    ⟨2, fun a M => kfin Try.prog Try.f120.results.toList Q 0 a M, fun a M => kfin Try.prog Try.f120.results.toList Q 0 a M⟩]
    [1000] [2] (by kernel_rfl) (by kernel_rfl) (by kernel_rfl) (by kernel_rfl) (by kernel_rfl)
    ⟨fun a M hn h => by obtain ⟨⟨n, f⟩, ds⟩ := a; have hn : n = 28 := hn; subst hn; obtain ⟨hd, h⟩ := dfr_iff h; have hd : ds = [] := hd; subst hd; exact h f rfl rfl rfl,
    fun _ _ _ h => h,
    trivial⟩
    (cast (by kernel_rfl) h)
def S_slices_Reverse_sl_byte_byte_2 (x0 x2 x3 : Value) (M : Store) (Q : Value → Store → Prop) : Prop :=
  OP (ixA 1 x0 x3) fun t20 =>
  OP (ld 1 false t20 M) fun t21 =>
  OP (ixA 1 x0 x2) fun t24 =>
  OP (ld 1 false t24 M) fun t25 =>
  OP (ixA 1 x0 x2) fun t26 =>
  OP (st 1 t26 t21 M) fun M1 =>
  TDx [0, 0, 0, 0, 0, 0, 48, 112, 0, 0, 768, 1792, 4083, 8179, 16383, 32767] [M.n, M.n, M.n, M.n, M.n, M.n, M.n, M.n, M.n, M.n, M.n, M.n, M.n, M.n] 13 M M1 ∧
  OP (ixA 1 x0 x3) fun t27 =>
  OP (st 1 t27 t25 M1) fun M2 =>
  TDx [0, 0, 0, 0, 0, 0, 48, 112, 0, 0, 768, 1792, 4083, 8179, 16383, 32767] [M.n, M.n, M.n, M.n, M.n, M.n, M.n, M.n, M.n, M.n, M.n, M.n, M.n, M.n, M1.n, M1.n] 15 M1 M2 ∧
  OP (binI .add x2 (.int .i64 1)) fun t11 =>
  OP (binI .sub x3 (.int .i64 1)) fun t13 =>
  P_slices_Reverse_sl_byte_byte_1 x0 t11 t13 M2 Q
theorem T_slices_Reverse_sl_byte_byte_2 {x0 x2 x3 : Value} {M : Store} {Q : Value → Store → Prop} (h : S_slices_Reverse_sl_byte_byte_2 x0 x2 x3 M Q) : P_slices_Reverse_sl_byte_byte_2 x0 x2 x3 M Q := by
  intro f h0 h2 h3; subst h0; subst h2; subst h3
  unfold At
  exact rule (B := 1000) (N := 28) (ct := .no)
    [⟨0, fun a M => dfr a.defers (P_slices_Reverse_sl_byte_byte_1 (a.get 0) (a.get 2) (a.get 3) M Q), fun a M => At Try.prog Ex none Try.f120 [1, 0] a M Q⟩]
    [] [0] (by kernel_rfl) (by kernel_rfl) (by kernel_rfl) (by kernel_rfl) (by kernel_rfl)
    ⟨fun a M hn h => by obtain ⟨⟨n, f⟩, ds⟩ := a; have hn : n = 28 := hn; subst hn; obtain ⟨hd, h⟩ := dfr_iff h; have hd : ds = [] := hd; subst hd; exact h f rfl rfl rfl,
    trivial⟩
    (cast (by kernel_rfl) h)
def P_acts_joined_1 (x1 x5 x8 x9 x10 : Value) (M : Store) (Q : Value → Store → Prop) : Prop :=
  ∀ f : Nat → Value, f 1 = x1 → f 5 = x5 → f 8 = x8 → f 9 = x9 → f 10 = x10 → At Try.prog Ex none Try.f122 [1, 1, 0, 1, 0] ⟨⟨26, f⟩, []⟩ M Q
def P_acts_joined_2 (x1 x5 x8 x9 x10 : Value) (M : Store) (Q : Value → Store → Prop) : Prop :=
  ∀ f : Nat → Value, f 1 = x1 → f 5 = x5 → f 8 = x8 → f 9 = x9 → f 10 = x10 → At Try.prog Ex none Try.f122 [1, 1, 0, 1, 0, 0, 1, 1] ⟨⟨26, f⟩, []⟩ M Q
def P_acts_joined_3 (x5 : Value) (M : Store) (Q : Value → Store → Prop) : Prop :=
  ∀ f : Nat → Value, f 5 = x5 → At Try.prog Ex none Try.f122 [1, 1, 1] ⟨⟨26, f⟩, []⟩ M Q
def S_acts_joined (x0 x1 : Value) (M : Store) (Q : Value → Store → Prop) : Prop :=
  OP (lenV x0) fun t9 =>
  P_acts_joined_1 x1 (.slice none 0 0) x0 t9 (.int .i64 0) M Q
theorem T_acts_joined {x0 x1 : Value} {M : Store} {Q : Value → Store → Prop} (h : S_acts_joined x0 x1 M Q) : R F.acts_joined #[x0, x1] M Q := by
  refine runs_of (c := bodyOf Try.f122) Try.func122 rfl (by kernel_rfl) (by kernel_rfl) ?_
  unfold At
  exact rule (B := 1000) (N := 26) (ct := (.two .no (.two .no (.two (.two .no (.two (.here 1000) .no)) (.here 1001)))))
    [⟨1002, fun a M => dfr a.defers (P_acts_joined_1 (a.get 1) (a.get 5) (a.get 8) (a.get 9) (a.get 10) M Q), fun a M => At Try.prog Ex none Try.f122 [1, 1, 0, 1, 0] a M Q⟩,
    ⟨1003, fun _ _ => False, fun a M => At Try.prog Ex none Try.f122 [1, 1, 1] a M Q⟩]
    [1000, 1001] [] (by kernel_rfl) (by kernel_rfl) (by kernel_rfl) (by kernel_rfl) (by kernel_rfl)
    ⟨fun a M hn h => by obtain ⟨⟨n, f⟩, ds⟩ := a; have hn : n = 26 := hn; subst hn; obtain ⟨hd, h⟩ := dfr_iff h; have hd : ds = [] := hd; subst hd; exact h f rfl rfl rfl rfl rfl,
    fun _ _ _ h => h.elim,
    trivial⟩
    (cast (by kernel_rfl) h)
def S_acts_joined_1 (x1 x5 x8 x9 x10 : Value) (M : Store) (Q : Value → Store → Prop) : Prop :=
  OP (binI .lss x10 x9) fun t11 =>
  BR t11 (
  P_acts_joined_2 x1 x5 x8 x9 x10 M Q
  ) (
  P_acts_joined_3 x5 M Q
  )
theorem T_acts_joined_1 {x1 x5 x8 x9 x10 : Value} {M : Store} {Q : Value → Store → Prop} (h : S_acts_joined_1 x1 x5 x8 x9 x10 M Q) : P_acts_joined_1 x1 x5 x8 x9 x10 M Q := by
  intro f h1 h5 h8 h9 h10; subst h1; subst h5; subst h8; subst h9; subst h10
  unfold At
  refine cast (by kernel_rfl) (CW.loop (P := Try.prog) (E := Ex) (rd := none) (x := sub (bodyOf Try.f122) [1, 1, 0, 1, 0, 0]) (a := ⟨⟨26, f⟩, []⟩) (M := M) (K := kcont Try.prog Ex none (bodyOf Try.f122) [1, 1, 0, 1, 0] (kfin Try.prog Try.f122.results.toList Q)) ?_)
  exact rule (B := 1000) (N := 26) (ct := (.two .no (.two .no (.here 1000))))
    [⟨1002, fun a M => dfr a.defers (P_acts_joined_2 (a.get 1) (a.get 5) (a.get 8) (a.get 9) (a.get 10) M Q), fun a M => At Try.prog Ex none Try.f122 [1, 1, 0, 1, 0, 0, 1, 1] a M Q⟩,
    ⟨2, fun a M => dfr a.defers (P_acts_joined_3 (a.get 5) M Q), fun a M => At Try.prog Ex none Try.f122 [1, 1, 1] a M Q⟩]
    [1000] [2] (by kernel_rfl) (by kernel_rfl) (by kernel_rfl) (by kernel_rfl) (by kernel_rfl)
    ⟨fun a M hn h => by obtain ⟨⟨n, f⟩, ds⟩ := a; have hn : n = 26 := hn; subst hn; obtain ⟨hd, h⟩ := dfr_iff h; have hd : ds = [] := hd; subst hd; exact h f rfl rfl rfl rfl rfl,
    fun a M hn h => by obtain ⟨⟨n, f⟩, ds⟩ := a; have hn : n = 26 := hn; subst hn; obtain ⟨hd, h⟩ := dfr_iff h; have hd : ds = [] := hd; subst hd; exact h f rfl,
    trivial⟩
    (cast (by kernel_rfl) h)
def S_acts_joined_2 (x1 x5 x8 x9 x10 : Value) (M : Store) (Q : Value → Store → Prop) : Prop :=
  OP (ixA 1 x8 x10) fun t13 =>
  OP (ld 1 false t13 M) fun t14 =>
  OP (binI .gtr x10 (.int .i64 0)) fun t16 =>
  BR t16 (
  OP2 (appT 1 Ty.uint8 x5 x1 M) fun t19 M1 =>
  OP (bldL (.int .u8 0) 1 1 [(0, t14)]) fun c =>
  LT (.slice (some ⟨M1.n, 0, none⟩) 1 1) (M1.push (some (.inl (c, Ty.uint8, true)))) fun t22 M2 =>
  OP2 (appV 1 Ty.uint8 t19 t22 M2) fun t23 M3 =>
  OP (binI .add x10 (.int .i64 1)) fun t24 =>
  P_acts_joined_1 x1 t23 x8 x9 t24 M3 Q
  ) (
  OP (bldL (.int .u8 0) 1 1 [(0, t14)]) fun c_1 =>
  LT (.slice (some ⟨M.n, 0, none⟩) 1 1) (M.push (some (.inl (c_1, Ty.uint8, true)))) fun t22_1 M4 =>
  OP2 (appV 1 Ty.uint8 x5 t22_1 M4) fun t23_1 M5 =>
  OP (binI .add x10 (.int .i64 1)) fun t24_1 =>
  P_acts_joined_1 x1 t23_1 x8 x9 t24_1 M5 Q
  )
theorem T_acts_joined_2 {x1 x5 x8 x9 x10 : Value} {M : Store} {Q : Value → Store → Prop} (h : S_acts_joined_2 x1 x5 x8 x9 x10 M Q) : P_acts_joined_2 x1 x5 x8 x9 x10 M Q := by
  intro f h1 h5 h8 h9 h10; subst h1; subst h5; subst h8; subst h9; subst h10
  unfold At
  exact rule (B := 1000) (N := 26) (ct := .no)
    [⟨0, fun a M => dfr a.defers (P_acts_joined_1 (a.get 1) (a.get 5) (a.get 8) (a.get 9) (a.get 10) M Q), fun a M => At Try.prog Ex none Try.f122 [1, 1, 0, 1, 0] a M Q⟩]
    [] [0] (by kernel_rfl) (by kernel_rfl) (by kernel_rfl) (by kernel_rfl) (by kernel_rfl)
    ⟨fun a M hn h => by obtain ⟨⟨n, f⟩, ds⟩ := a; have hn : n = 26 := hn; subst hn; obtain ⟨hd, h⟩ := dfr_iff h; have hd : ds = [] := hd; subst hd; exact h f rfl rfl rfl rfl rfl,
    trivial⟩
    (cast (by kernel_rfl) h)
def S_acts_joined_3 (x5 : Value) (M : Store) (Q : Value → Store → Prop) : Prop :=
  NTs [x5] ∧ Q x5 M
theorem T_acts_joined_3 {x5 : Value} {M : Store} {Q : Value → Store → Prop} (h : S_acts_joined_3 x5 M Q) : P_acts_joined_3 x5 M Q := by
  intro f h5; subst h5
  unfold At
  exact rule (B := 1000) (N := 26) (ct := .no)
    [⟨1, fun a M => kfin Try.prog Try.f122.results.toList Q 1 a M, fun a M => kfin Try.prog Try.f122.results.toList Q 1 a M⟩]
    [] [1] (by kernel_rfl) (by kernel_rfl) (by kernel_rfl) (by kernel_rfl) (by kernel_rfl)
    ⟨fun _ _ _ h => h,
    trivial⟩
    (cast (by kernel_rfl) h)
def S_acts_text (x0 : Value) (M : Store) (Q : Value → Store → Prop) : Prop :=
  OP (binI .eql x0 (.int .i64 1)) fun t4 =>
  BR t4 (
  NTs [(.bool true)] ∧ Q (.bool true) M
  ) (
  OP (binI .eql x0 (.int .i64 10)) fun t7 =>
  NTs [t7] ∧ Q t7 M
  )
theorem T_acts_text {x0 : Value} {M : Store} {Q : Value → Store → Prop} (h : S_acts_text x0 M Q) : R F.acts_text #[x0] M Q := by
  refine runs_of (c := bodyOf Try.f128) Try.func128 rfl (by kernel_rfl) (by kernel_rfl) ?_
  unfold At
  exact rule (B := 1000) (N := 9) (ct := .no)
    [⟨1, fun a M => kfin Try.prog Try.f128.results.toList Q 1 a M, fun a M => kfin Try.prog Try.f128.results.toList Q 1 a M⟩]
    [] [1] (by kernel_rfl) (by kernel_rfl) (by kernel_rfl) (by kernel_rfl) (by kernel_rfl)
    ⟨fun _ _ _ h => h,
    trivial⟩
    (cast (by kernel_rfl) h)
def P_acts_fits_1 (x0 x5 x6 : Value) (M : Store) (Q : Value → Store → Prop) : Prop :=
  ∀ f : Nat → Value, f 0 = x0 → f 5 = x5 → f 6 = x6 → At Try.prog Ex none Try.f129 [1, 0, 1, 0] ⟨⟨29, f⟩, []⟩ M Q
def P_acts_fits_2 (x0 x5 x6 : Value) (M : Store) (Q : Value → Store → Prop) : Prop :=
  ∀ f : Nat → Value, f 0 = x0 → f 5 = x5 → f 6 = x6 → At Try.prog Ex none Try.f129 [1, 0, 1, 0, 0, 1, 1] ⟨⟨29, f⟩, []⟩ M Q
def P_acts_fits_3 (x0 : Value) (M : Store) (Q : Value → Store → Prop) : Prop :=
  ∀ f : Nat → Value, f 0 = x0 → At Try.prog Ex none Try.f129 [1, 1] ⟨⟨29, f⟩, []⟩ M Q
def S_acts_fits (x0 : Value) (M : Store) (Q : Value → Store → Prop) : Prop :=
  OP (lenS x0) fun t5 =>
  P_acts_fits_1 x0 t5 (.int .i64 0) M Q
theorem T_acts_fits {x0 : Value} {M : Store} {Q : Value → Store → Prop} (h : S_acts_fits x0 M Q) : R F.acts_fits #[x0] M Q := by
  refine runs_of (c := bodyOf Try.f129) Try.func129 rfl (by kernel_rfl) (by kernel_rfl) ?_
  unfold At
  exact rule (B := 1000) (N := 29) (ct := (.two .no (.two (.two .no (.two (.here 1000) .no)) (.here 1001))))
    [⟨1002, fun a M => dfr a.defers (P_acts_fits_1 (a.get 0) (a.get 5) (a.get 6) M Q), fun a M => At Try.prog Ex none Try.f129 [1, 0, 1, 0] a M Q⟩,
    ⟨1003, fun _ _ => False, fun a M => At Try.prog Ex none Try.f129 [1, 1] a M Q⟩]
    [1000, 1001] [] (by kernel_rfl) (by kernel_rfl) (by kernel_rfl) (by kernel_rfl) (by kernel_rfl)
    ⟨fun a M hn h => by obtain ⟨⟨n, f⟩, ds⟩ := a; have hn : n = 29 := hn; subst hn; obtain ⟨hd, h⟩ := dfr_iff h; have hd : ds = [] := hd; subst hd; exact h f rfl rfl rfl,
    fun _ _ _ h => h.elim,
    trivial⟩
    (cast (by kernel_rfl) h)
def S_acts_fits_1 (x0 x5 x6 : Value) (M : Store) (Q : Value → Store → Prop) : Prop :=
  OP (binI .lss x6 x5) fun t7 =>
  BR t7 (
  P_acts_fits_2 x0 x5 x6 M Q
  ) (
  P_acts_fits_3 x0 M Q
  )
theorem T_acts_fits_1 {x0 x5 x6 : Value} {M : Store} {Q : Value → Store → Prop} (h : S_acts_fits_1 x0 x5 x6 M Q) : P_acts_fits_1 x0 x5 x6 M Q := by
  intro f h0 h5 h6; subst h0; subst h5; subst h6
  unfold At
  refine cast (by kernel_rfl) (CW.loop (P := Try.prog) (E := Ex) (rd := none) (x := sub (bodyOf Try.f129) [1, 0, 1, 0, 0]) (a := ⟨⟨29, f⟩, []⟩) (M := M) (K := kcont Try.prog Ex none (bodyOf Try.f129) [1, 0, 1, 0] (kfin Try.prog Try.f129.results.toList Q)) ?_)
  exact rule (B := 1000) (N := 29) (ct := (.two .no (.two .no (.here 1000))))
    [⟨1002, fun a M => dfr a.defers (P_acts_fits_2 (a.get 0) (a.get 5) (a.get 6) M Q), fun a M => At Try.prog Ex none Try.f129 [1, 0, 1, 0, 0, 1, 1] a M Q⟩,
    ⟨2, fun a M => dfr a.defers (P_acts_fits_3 (a.get 0) M Q), fun a M => At Try.prog Ex none Try.f129 [1, 1] a M Q⟩]
    [1000] [2] (by kernel_rfl) (by kernel_rfl) (by kernel_rfl) (by kernel_rfl) (by kernel_rfl)
    ⟨fun a M hn h => by obtain ⟨⟨n, f⟩, ds⟩ := a; have hn : n = 29 := hn; subst hn; obtain ⟨hd, h⟩ := dfr_iff h; have hd : ds = [] := hd; subst hd; exact h f rfl rfl rfl,
    fun a M hn h => by obtain ⟨⟨n, f⟩, ds⟩ := a; have hn : n = 29 := hn; subst hn; obtain ⟨hd, h⟩ := dfr_iff h; have hd : ds = [] := hd; subst hd; exact h f rfl,
    trivial⟩
    (cast (by kernel_rfl) h)
def S_acts_fits_2 (x0 x5 x6 : Value) (M : Store) (Q : Value → Store → Prop) : Prop :=
  OP (ixS x0 x6) fun t11 =>
  OP (binI .lss t11 (.int .u8 32)) fun t12 =>
  BR t12 (
  NTs [(.bool false)] ∧ Q (.bool false) M
  ) (
  OP (ixS x0 x6) fun t16 =>
  OP (binI .gtr t16 (.int .u8 126)) fun t17 =>
  BR t17 (
  NTs [(.bool false)] ∧ Q (.bool false) M
  ) (
  OP (ixS x0 x6) fun t22 =>
  OP (binI .eql t22 (.int .u8 34)) fun t23 =>
  BR t23 (
  NTs [(.bool false)] ∧ Q (.bool false) M
  ) (
  OP (binI .add x6 (.int .i64 1)) fun t25 =>
  P_acts_fits_1 x0 x5 t25 M Q
  )
  )
  )
theorem T_acts_fits_2 {x0 x5 x6 : Value} {M : Store} {Q : Value → Store → Prop} (h : S_acts_fits_2 x0 x5 x6 M Q) : P_acts_fits_2 x0 x5 x6 M Q := by
  intro f h0 h5 h6; subst h0; subst h5; subst h6
  unfold At
  exact rule (B := 1000) (N := 29) (ct := .no)
    [⟨0, fun a M => dfr a.defers (P_acts_fits_1 (a.get 0) (a.get 5) (a.get 6) M Q), fun a M => At Try.prog Ex none Try.f129 [1, 0, 1, 0] a M Q⟩,
    ⟨1, fun a M => kfin Try.prog Try.f129.results.toList Q 1 a M, fun a M => kfin Try.prog Try.f129.results.toList Q 1 a M⟩]
    [] [0, 1] (by kernel_rfl) (by kernel_rfl) (by kernel_rfl) (by kernel_rfl) (by kernel_rfl)
    ⟨fun a M hn h => by obtain ⟨⟨n, f⟩, ds⟩ := a; have hn : n = 29 := hn; subst hn; obtain ⟨hd, h⟩ := dfr_iff h; have hd : ds = [] := hd; subst hd; exact h f rfl rfl rfl,
    fun _ _ _ h => h,
    trivial⟩
    (cast (by kernel_rfl) h)
def S_acts_fits_3 (x0 : Value) (M : Store) (Q : Value → Store → Prop) : Prop :=
  OP (lenS x0) fun t27 =>
  OP (binI .leq t27 (.int .i64 64)) fun t28 =>
  NTs [t28] ∧ Q t28 M
theorem T_acts_fits_3 {x0 : Value} {M : Store} {Q : Value → Store → Prop} (h : S_acts_fits_3 x0 M Q) : P_acts_fits_3 x0 M Q := by
  intro f h0; subst h0
  unfold At
  exact rule (B := 1000) (N := 29) (ct := .no)
    [⟨1, fun a M => kfin Try.prog Try.f129.results.toList Q 1 a M, fun a M => kfin Try.prog Try.f129.results.toList Q 1 a M⟩]
    [] [1] (by kernel_rfl) (by kernel_rfl) (by kernel_rfl) (by kernel_rfl) (by kernel_rfl)
    ⟨fun _ _ _ h => h,
    trivial⟩
    (cast (by kernel_rfl) h)
def S_acts_top (x0 : Value) (M : Store) (Q : Value → Store → Prop) : Prop :=
  OP (binI .eql x0 (.int .i64 2)) fun t5 =>
  BR t5 (
  NTs [(.int .i64 15)] ∧ Q (.int .i64 15) M
  ) (
  OP (binI .eql x0 (.int .i64 7)) fun t7 =>
  BR t7 (
  BR t7 (
  NTs [(.int .i64 999)] ∧ Q (.int .i64 999) M
  ) (
  NTs [(.int .i64 (-1))] ∧ Q (.int .i64 (-1)) M
  )
  ) (
  OP (binI .eql x0 (.int .i64 8)) fun t8 =>
  BR t8 (
  NTs [(.int .i64 999)] ∧ Q (.int .i64 999) M
  ) (
  NTs [(.int .i64 (-1))] ∧ Q (.int .i64 (-1)) M
  )
  )
  )
theorem T_acts_top {x0 : Value} {M : Store} {Q : Value → Store → Prop} (h : S_acts_top x0 M Q) : R F.acts_top #[x0] M Q := by
  refine runs_of (c := bodyOf Try.f130) Try.func130 rfl (by kernel_rfl) (by kernel_rfl) ?_
  unfold At
  exact rule (B := 1000) (N := 9) (ct := .no)
    [⟨1, fun a M => kfin Try.prog Try.f130.results.toList Q 1 a M, fun a M => kfin Try.prog Try.f130.results.toList Q 1 a M⟩]
    [] [1] (by kernel_rfl) (by kernel_rfl) (by kernel_rfl) (by kernel_rfl) (by kernel_rfl)
    ⟨fun _ _ _ h => h,
    trivial⟩
    (cast (by kernel_rfl) h)
end Go.G
