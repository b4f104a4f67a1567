/-  -/
import Derived.Test.YtpacolplhcfamaaPGN
open Go.RowKit
namespace Go.G
open Go.Ab Go.Proofs
set_option linter.unusedVariables false
set_option maxRecDepth 100000
def P_fettleref4_Run_1 (x0 x1 x6 x7 : Value) (M : Store) (Q : Value → Store → Prop) : Prop :=
  ∀ f : Nat → Value, f 0 = x0 → f 1 = x1 → f 6 = x6 → f 7 = x7 → At Try.prog Ex none Try.f28 [1, 1, 1, 0, 1, 0] ⟨⟨38, f⟩, []⟩ M Q
def P_fettleref4_Run_2 (x0 x1 x6 x7 : Value) (M : Store) (Q : Value → Store → Prop) : Prop :=
  ∀ f : Nat → Value, f 0 = x0 → f 1 = x1 → f 6 = x6 → f 7 = x7 → At Try.prog Ex none Try.f28 [1, 1, 1, 0, 1, 0, 0, 1] ⟨⟨38, f⟩, []⟩ M Q
def P_fettleref4_Run_3 (x6 : Value) (M : Store) (Q : Value → Store → Prop) : Prop :=
  ∀ f : Nat → Value, f 6 = x6 → At Try.prog Ex none Try.f28 [1, 1, 1, 1] ⟨⟨38, f⟩, []⟩ M Q
def S_fettleref4_Run (x0 x1 : Value) (M : Store) (Q : Value → Store → Prop) : Prop :=
  R F.fettleref4_OkAct #[x0] M fun t11 M1 =>
  OP (aun .not t11) fun t12 =>
  BR t12 (
  NTs [(.slice none 0 0), (.bool false)] ∧ Q (.tuple #[(.slice none 0 0), (.bool false)]) M1
  ) (
  P_fettleref4_Run_1 x0 x1 (.slice none 0 0) (.int .i64 0) M1 Q
  )
theorem T_fettleref4_Run {x0 x1 : Value} {M : Store} {Q : Value → Store → Prop} (h : S_fettleref4_Run x0 x1 M Q) : R F.fettleref4_Run #[x0, x1] M Q := by
  refine runs_of (c := bodyOf Try.f28) Try.func28 rfl (by kernel_rfl) (by kernel_rfl) ?_
  unfold At
  exact rule (B := 1000) (N := 38) (ct := (.two .no (.two .no (.two .no (.two (.two .no (.two (.here 1000) .no)) (.here 1001))))))
    [⟨1002, fun a M => dfr a.defers (P_fettleref4_Run_1 (a.get 0) (a.get 1) (a.get 6) (a.get 7) M Q), fun a M => At Try.prog Ex none Try.f28 [1, 1, 1, 0, 1, 0] a M Q⟩,
    ⟨1003, fun _ _ => False, fun a M => At Try.prog Ex none Try.f28 [1, 1, 1, 1] a M Q⟩,
    ⟨1, fun a M => kfin Try.prog Try.f28.results.toList Q 1 a M, fun a M => kfin Try.prog Try.f28.results.toList Q 1 a M⟩]
    [1000, 1001] [1] (by kernel_rfl) (by kernel_rfl) (by kernel_rfl) (by kernel_rfl) (by kernel_rfl)
    ⟨fun a M hn h => by obtain ⟨⟨n, f⟩, ds⟩ := a; have hn : n = 38 := hn; subst hn; obtain ⟨hd, h⟩ := dfr_iff h; have hd : ds = [] := hd; subst hd; exact h f rfl rfl rfl rfl,
    fun _ _ _ h => h.elim,
    fun _ _ _ h => h,
    trivial⟩
    (cast (by kernel_rfl) h)
def S_fettleref4_Run_1 (x0 x1 x6 x7 : Value) (M : Store) (Q : Value → Store → Prop) : Prop :=
  OP (lenV x0) fun t15 =>
  OP (binI .lss x7 t15) fun t16 =>
  BR t16 (
  P_fettleref4_Run_2 x0 x1 x6 x7 M Q
  ) (
  P_fettleref4_Run_3 x6 M Q
  )
theorem T_fettleref4_Run_1 {x0 x1 x6 x7 : Value} {M : Store} {Q : Value → Store → Prop} (h : S_fettleref4_Run_1 x0 x1 x6 x7 M Q) : P_fettleref4_Run_1 x0 x1 x6 x7 M Q := by
  intro f h0 h1 h6 h7; subst h0; subst h1; subst h6; subst h7
  unfold At
  refine cast (by kernel_rfl) (CW.loop (P := Try.prog) (E := Ex) (rd := none) (x := sub (bodyOf Try.f28) [1, 1, 1, 0, 1, 0, 0]) (a := ⟨⟨38, f⟩, []⟩) (M := M) (K := kcont Try.prog Ex none (bodyOf Try.f28) [1, 1, 1, 0, 1, 0] (kfin Try.prog Try.f28.results.toList Q)) ?_)
  exact rule (B := 1000) (N := 38) (ct := (.two .no (.here 1000)))
    [⟨1002, fun a M => dfr a.defers (P_fettleref4_Run_2 (a.get 0) (a.get 1) (a.get 6) (a.get 7) M Q), fun a M => At Try.prog Ex none Try.f28 [1, 1, 1, 0, 1, 0, 0, 1] a M Q⟩,
    ⟨2, fun a M => dfr a.defers (P_fettleref4_Run_3 (a.get 6) M Q), fun a M => At Try.prog Ex none Try.f28 [1, 1, 1, 1] a M Q⟩]
    [1000] [2] (by kernel_rfl) (by kernel_rfl) (by kernel_rfl) (by kernel_rfl) (by kernel_rfl)
    ⟨fun a M hn h => by obtain ⟨⟨n, f⟩, ds⟩ := a; have hn : n = 38 := hn; subst hn; obtain ⟨hd, h⟩ := dfr_iff h; have hd : ds = [] := hd; subst hd; exact h f rfl rfl rfl rfl,
    fun a M hn h => by obtain ⟨⟨n, f⟩, ds⟩ := a; have hn : n = 38 := hn; subst hn; obtain ⟨hd, h⟩ := dfr_iff h; have hd : ds = [] := hd; subst hd; exact h f rfl,
    trivial⟩
    (cast (by kernel_rfl) h)
def S_fettleref4_Run_2 (x0 x1 x6 x7 : Value) (M : Store) (Q : Value → Store → Prop) : Prop :=
  OP (ixA 3 x0 x7) fun t22 =>
  OP (ld 3 true t22 M) fun t23 =>
  R F.fettleref4_changed #[t23, x6, x1] M fun t26 M1 =>
  OP (tup t26 0) fun t27 =>
  OP (tup t26 1) fun t28 =>
  OP (aun .not t28) fun t30 =>
  BR t30 (
  NTs [(.slice none 0 0), (.bool false)] ∧ Q (.tuple #[(.slice none 0 0), (.bool false)]) M1
  ) (
  OP (lenV t27) fun t33 =>
  OP (binI .gtr t33 (.int .i64 256)) fun t34 =>
  BR t34 (
  NTs [(.slice none 0 0), (.bool false)] ∧ Q (.tuple #[(.slice none 0 0), (.bool false)]) M1
  ) (
  OP (binI .add x7 (.int .i64 1)) fun t18 =>
  P_fettleref4_Run_1 x0 x1 t27 t18 M1 Q
  )
  )
theorem T_fettleref4_Run_2 {x0 x1 x6 x7 : Value} {M : Store} {Q : Value → Store → Prop} (h : S_fettleref4_Run_2 x0 x1 x6 x7 M Q) : P_fettleref4_Run_2 x0 x1 x6 x7 M Q := by
  intro f h0 h1 h6 h7; subst h0; subst h1; subst h6; subst h7
  unfold At
  exact rule (B := 1000) (N := 38) (ct := .no)
    [⟨0, fun a M => dfr a.defers (P_fettleref4_Run_1 (a.get 0) (a.get 1) (a.get 6) (a.get 7) M Q), fun a M => At Try.prog Ex none Try.f28 [1, 1, 1, 0, 1, 0] a M Q⟩,
    ⟨1, fun a M => kfin Try.prog Try.f28.results.toList Q 1 a M, fun a M => kfin Try.prog Try.f28.results.toList Q 1 a M⟩]
    [] [0, 1] (by kernel_rfl) (by kernel_rfl) (by kernel_rfl) (by kernel_rfl) (by kernel_rfl)
    ⟨fun a M hn h => by obtain ⟨⟨n, f⟩, ds⟩ := a; have hn : n = 38 := hn; subst hn; obtain ⟨hd, h⟩ := dfr_iff h; have hd : ds = [] := hd; subst hd; exact h f rfl rfl rfl rfl,
    fun _ _ _ h => h,
    trivial⟩
    (cast (by kernel_rfl) h)
def S_fettleref4_Run_3 (x6 : Value) (M : Store) (Q : Value → Store → Prop) : Prop :=
  NTs [x6, (.bool true)] ∧ Q (.tuple #[x6, (.bool true)]) M
theorem T_fettleref4_Run_3 {x6 : Value} {M : Store} {Q : Value → Store → Prop} (h : S_fettleref4_Run_3 x6 M Q) : P_fettleref4_Run_3 x6 M Q := by
  intro f h6; subst h6
  unfold At
  exact rule (B := 1000) (N := 38) (ct := .no)
    [⟨1, fun a M => kfin Try.prog Try.f28.results.toList Q 1 a M, fun a M => kfin Try.prog Try.f28.results.toList Q 1 a M⟩]
    [] [1] (by kernel_rfl) (by kernel_rfl) (by kernel_rfl) (by kernel_rfl) (by kernel_rfl)
    ⟨fun _ _ _ h => h,
    trivial⟩
    (cast (by kernel_rfl) h)
def P_fettleref4_changed_1 (x2 x8 x9 : Value) (M : Store) (Q : Value → Store → Prop) : Prop :=
  ∀ f : Nat → Value, f 2 = x2 → f 8 = x8 → f 9 = x9 → At Try.prog Ex none Try.f78 [1, 1, 0, 1, 0, 1, 1, 1, 1, 1, 0, 1, 0] ⟨⟨161, f⟩, []⟩ M Q
def P_fettleref4_changed_2 (x1 x3 x8 x15 x49 : Value) (M : Store) (Q : Value → Store → Prop) : Prop :=
  ∀ f : Nat → Value, f 1 = x1 → f 3 = x3 → f 8 = x8 → f 15 = x15 → f 49 = x49 → At Try.prog Ex none Try.f78 [1, 1, 0, 1, 0, 1, 1, 1, 1, 1, 1, 1] ⟨⟨161, f⟩, []⟩ M Q
def P_fettleref4_changed_3 (x8 : Value) (M : Store) (Q : Value → Store → Prop) : Prop :=
  ∀ f : Nat → Value, f 8 = x8 → At Try.prog Ex none Try.f78 [1, 1, 1] ⟨⟨161, f⟩, []⟩ M Q
def P_fettleref4_changed_4 (x1 x3 x8 x10 : Value) (M : Store) (Q : Value → Store → Prop) : Prop :=
  ∀ f : Nat → Value, f 1 = x1 → f 3 = x3 → f 8 = x8 → f 10 = x10 → At Try.prog Ex none Try.f78 [1, 1, 0, 1, 0, 1, 1, 1, 1, 1, 1, 1, 0, 1, 0] ⟨⟨161, f⟩, []⟩ M Q
def P_fettleref4_changed_5 (x1 x8 x12 : Value) (M : Store) (Q : Value → Store → Prop) : Prop :=
  ∀ f : Nat → Value, f 1 = x1 → f 8 = x8 → f 12 = x12 → At Try.prog Ex none Try.f78 [1, 1, 0, 1, 0, 1, 1, 1, 1, 1, 1, 1, 1, 1, 0, 1, 0] ⟨⟨161, f⟩, []⟩ M Q
def P_fettleref4_changed_6 (x1 x3 x8 x13 : Value) (M : Store) (Q : Value → Store → Prop) : Prop :=
  ∀ f : Nat → Value, f 1 = x1 → f 3 = x3 → f 8 = x8 → f 13 = x13 → At Try.prog Ex none Try.f78 [1, 1, 0, 1, 0, 1, 1, 1, 1, 1, 1, 1, 1, 1, 1, 1, 1, 1, 1, 1, 1, 1, 0, 1, 0] ⟨⟨161, f⟩, []⟩ M Q
def P_fettleref4_changed_7 (x1 x3 x8 x10 : Value) (M : Store) (Q : Value → Store → Prop) : Prop :=
  ∀ f : Nat → Value, f 1 = x1 → f 3 = x3 → f 8 = x8 → f 10 = x10 → At Try.prog Ex none Try.f78 [1, 1, 0, 1, 0, 1, 1, 1, 1, 1, 1, 1, 0, 1, 0, 0, 1] ⟨⟨161, f⟩, []⟩ M Q
def P_fettleref4_changed_8 (x1 x3 x8 x13 : Value) (M : Store) (Q : Value → Store → Prop) : Prop :=
  ∀ f : Nat → Value, f 1 = x1 → f 3 = x3 → f 8 = x8 → f 13 = x13 → At Try.prog Ex none Try.f78 [1, 1, 0, 1, 0, 1, 1, 1, 1, 1, 1, 1, 1, 1, 1, 1, 1, 1, 1, 1, 1, 1, 0, 1, 0, 0, 1] ⟨⟨161, f⟩, []⟩ M Q
def P_fettleref4_changed_9 (x1 x3 x8 x10 x11 : Value) (M : Store) (Q : Value → Store → Prop) : Prop :=
  ∀ f : Nat → Value, f 1 = x1 → f 3 = x3 → f 8 = x8 → f 10 = x10 → f 11 = x11 → At Try.prog Ex none Try.f78 [1, 1, 0, 1, 0, 1, 1, 1, 1, 1, 1, 1, 0, 1, 0, 0, 1, 0, 0, 1, 1] ⟨⟨161, f⟩, []⟩ M Q
def P_fettleref4_changed_10 (x1 x3 x8 x10 : Value) (M : Store) (Q : Value → Store → Prop) : Prop :=
  ∀ f : Nat → Value, f 1 = x1 → f 3 = x3 → f 8 = x8 → f 10 = x10 → At Try.prog Ex none Try.f78 [1, 1, 0, 1, 0, 1, 1, 1, 1, 1, 1, 1, 0, 1, 0, 0, 1, 1] ⟨⟨161, f⟩, []⟩ M Q
def S_fettleref4_changed (x0 x1 x2 : Value) (M : Store) (Q : Value → Store → Prop) : Prop :=
  OP (boxv x0) fun c =>
  LT (.pointer (some ⟨M.n, 0, none⟩)) (M.push (some (.inl (c, Ty.api_Do, true)))) fun t3 M1 =>
  OP (fad 0 t3) fun t14 =>
  OP (ld 1 false t14 M1) fun t15 =>
  OP (binI .eql t15 (.int .i64 1)) fun t17 =>
  BR t17 (
  OP (fad 2 t3) fun t18 =>
  OP (ld 1 false t18 M1) fun t19 =>
  OP2 (cvSB Ty.uint8 t19 M1) fun t20 M2 =>
  NTs [t20, (.bool true)] ∧ Q (.tuple #[t20, (.bool true)]) M2
  ) (
  OP (binI .eql t15 (.int .i64 2)) fun t22 =>
  BR t22 (
  OP (fad 1 t3) fun t23 =>
  OP (ld 1 false t23 M1) fun t24 =>
  OP (lenV x2) fun t26 =>
  OP (binI .geq t24 t26) fun t27 =>
  BR t27 (
  NTs [(.slice none 0 0), (.bool false)] ∧ Q (.tuple #[(.slice none 0 0), (.bool false)]) M1
  ) (
  OP (bldL (.int .u8 0) 1 0 []) fun c_1 =>
  LT (.slice (some ⟨M1.n, 0, none⟩) 0 0) (M1.push (some (.inl (c_1, Ty.uint8, true)))) fun t28 M3 =>
  OP (fad 1 t3) fun t30 =>
  OP (ld 1 false t30 M3) fun t31 =>
  OP (ixA 1 x2 t31) fun t32 =>
  OP (ld 1 false t32 M3) fun t33 =>
  OP2 (appV 1 Ty.uint8 t28 t33 M3) fun t34 M4 =>
  NTs [t34, (.bool true)] ∧ Q (.tuple #[t34, (.bool true)]) M4
  )
  ) (
  OP (binI .eql t15 (.int .i64 3)) fun t36 =>
  BR t36 (
  P_fettleref4_changed_1 x2 (.slice none 0 0) (.int .i64 0) M1 Q
  ) (
  OP (binI .eql t15 (.int .i64 4)) fun t50 =>
  BR t50 (
  P_fettleref4_changed_2 x1 t3 (.slice none 0 0) t15 t50 M1 Q
  ) (
  OP (binI .eql t15 (.int .i64 5)) fun t51 =>
  P_fettleref4_changed_2 x1 t3 (.slice none 0 0) t15 t51 M1 Q
  )
  )
  )
  )
theorem T_fettleref4_changed {x0 x1 x2 : Value} {M : Store} {Q : Value → Store → Prop} (h : S_fettleref4_changed x0 x1 x2 M Q) : R F.fettleref4_changed #[x0, x1, x2] M Q := by
  refine runs_of (c := bodyOf Try.f78) Try.func78 rfl (by kernel_rfl) (by kernel_rfl) ?_
  unfold At
  exact rule (B := 1000) (N := 161) (ct := (.two .no (.two .no (.two (.two .no (.two (.two .no (.two .no (.two .no (.two .no (.two .no (.two (.two .no (.two (.here 1000) .no)) (.two .no (.here 1001)))))))) .no)) (.here 1002)))))
    [⟨1002, fun a M => dfr a.defers (P_fettleref4_changed_1 (a.get 2) (a.get 8) (a.get 9) M Q), fun a M => At Try.prog Ex none Try.f78 [1, 1, 0, 1, 0, 1, 1, 1, 1, 1, 0, 1, 0] a M Q⟩,
    ⟨1003, fun a M => dfr a.defers (P_fettleref4_changed_2 (a.get 1) (a.get 3) (a.get 8) (a.get 15) (a.get 49) M Q), fun a M => At Try.prog Ex none Try.f78 [1, 1, 0, 1, 0, 1, 1, 1, 1, 1, 1, 1] a M Q⟩,
    ⟨1004, fun _ _ => False, fun a M => At Try.prog Ex none Try.f78 [1, 1, 1] a M Q⟩,
    ⟨1, fun a M => kfin Try.prog Try.f78.results.toList Q 1 a M, fun a M => kfin Try.prog Try.f78.results.toList Q 1 a M⟩]
    [1000, 1001, 1002] [1] (by kernel_rfl) (by kernel_rfl) (by kernel_rfl) (by kernel_rfl) (by kernel_rfl)
    ⟨fun a M hn h => by obtain ⟨⟨n, f⟩, ds⟩ := a; have hn : n = 161 := hn; subst hn; obtain ⟨hd, h⟩ := dfr_iff h; have hd : ds = [] := hd; subst hd; exact h f rfl rfl rfl,
    fun a M hn h => by obtain ⟨⟨n, f⟩, ds⟩ := a; have hn : n = 161 := hn; subst hn; obtain ⟨hd, h⟩ := dfr_iff h; have hd : ds = [] := hd; subst hd; exact h f rfl rfl rfl rfl rfl,
    fun _ _ _ h => h.elim,
    fun _ _ _ h => h,
    trivial⟩
    (cast (by kernel_rfl) h)
def S_fettleref4_changed_1 (x2 x8 x9 : Value) (M : Store) (Q : Value → Store → Prop) : Prop :=
  OP (lenV x2) fun t39 =>
  OP (binI .lss x9 t39) fun t40 =>
  BR t40 (
  OP (ixA 1 x2 x9) fun t46 =>
  OP (ld 1 false t46 M) fun t47 =>
  OP2 (appV 1 Ty.uint8 x8 t47 M) fun t48 M1 =>
  OP (binI .add x9 (.int .i64 1)) fun t42 =>
  P_fettleref4_changed_1 x2 t48 t42 M1 Q
  ) (
  P_fettleref4_changed_3 x8 M Q
  )
theorem T_fettleref4_changed_1 {x2 x8 x9 : Value} {M : Store} {Q : Value → Store → Prop} (h : S_fettleref4_changed_1 x2 x8 x9 M Q) : P_fettleref4_changed_1 x2 x8 x9 M Q := by
  intro f h2 h8 h9; subst h2; subst h8; subst h9
  unfold At
  refine cast (by kernel_rfl) (CW.loop (P := Try.prog) (E := Ex) (rd := none) (x := sub (bodyOf Try.f78) [1, 1, 0, 1, 0, 1, 1, 1, 1, 1, 0, 1, 0, 0]) (a := ⟨⟨161, f⟩, []⟩) (M := M) (K := kcont Try.prog Ex none (bodyOf Try.f78) [1, 1, 0, 1, 0, 1, 1, 1, 1, 1, 0, 1, 0] (kfin Try.prog Try.f78.results.toList Q)) ?_)
  exact rule (B := 1000) (N := 161) (ct := .no)
    [⟨0, fun a M => dfr a.defers (P_fettleref4_changed_1 (a.get 2) (a.get 8) (a.get 9) M Q), fun a M => At Try.prog Ex none Try.f78 [1, 1, 0, 1, 0, 1, 1, 1, 1, 1, 0, 1, 0] a M Q⟩,
    ⟨3, fun a M => dfr a.defers (P_fettleref4_changed_3 (a.get 8) M Q), fun a M => At Try.prog Ex none Try.f78 [1, 1, 1] a M Q⟩]
    [] [0, 3] (by kernel_rfl) (by kernel_rfl) (by kernel_rfl) (by kernel_rfl) (by kernel_rfl)
    ⟨fun a M hn h => by obtain ⟨⟨n, f⟩, ds⟩ := a; have hn : n = 161 := hn; subst hn; obtain ⟨hd, h⟩ := dfr_iff h; have hd : ds = [] := hd; subst hd; exact h f rfl rfl rfl,
    fun a M hn h => by obtain ⟨⟨n, f⟩, ds⟩ := a; have hn : n = 161 := hn; subst hn; obtain ⟨hd, h⟩ := dfr_iff h; have hd : ds = [] := hd; subst hd; exact h f rfl,
    trivial⟩
    (cast (by kernel_rfl) h)
def S_fettleref4_changed_2 (x1 x3 x8 x15 x49 : Value) (M : Store) (Q : Value → Store → Prop) : Prop :=
  BR x49 (
  P_fettleref4_changed_4 x1 x3 x8 (.int .i64 0) M Q
  ) (
  OP (binI .eql x15 (.int .i64 6)) fun t93 =>
  BR t93 (
  OP (lenV x1) fun t95 =>
  OP (binI .sub t95 (.int .i64 1)) fun t96 =>
  P_fettleref4_changed_5 x1 x8 t96 M Q
  ) (
  OP (binI .eql x15 (.int .i64 7)) fun t109 =>
  BR t109 (
  OP (fad 1 x3) fun t112 =>
  OP (ld 1 false t112 M) fun t113 =>
  OP (lenV x1) fun t115 =>
  OP (amin2 t113 t115) fun t116 =>
  OP (slV 1 Ty.uint8 x1 none (some t116) M) fun t117 =>
  OP2 (appV 1 Ty.uint8 x8 t117 M) fun t118 M1 =>
  P_fettleref4_changed_3 t118 M1 Q
  ) (
  OP (binI .eql x15 (.int .i64 8)) fun t120 =>
  BR t120 (
  OP (fad 1 x3) fun t123 =>
  OP (ld 1 false t123 M) fun t124 =>
  OP (lenV x1) fun t126 =>
  OP (amin2 t124 t126) fun t127 =>
  OP (slV 1 Ty.uint8 x1 (some t127) none M) fun t128 =>
  OP2 (appV 1 Ty.uint8 x8 t128 M) fun t129 M2 =>
  P_fettleref4_changed_3 t129 M2 Q
  ) (
  OP (binI .eql x15 (.int .i64 9)) fun t131 =>
  BR t131 (
  OP2 (appV 1 Ty.uint8 x8 x1 M) fun t134 M3 =>
  OP2 (appV 1 Ty.uint8 t134 x1 M3) fun t136 M4 =>
  P_fettleref4_changed_3 t136 M4 Q
  ) (
  OP (binI .eql x15 (.int .i64 10)) fun t138 =>
  BR t138 (
  P_fettleref4_changed_6 x1 x3 x8 (.int .i64 0) M Q
  ) (
  OP (binI .eql x15 (.int .i64 11)) fun t159 =>
  BR t159 (
  NTs [(.slice none 0 0), (.bool false)] ∧ Q (.tuple #[(.slice none 0 0), (.bool false)]) M
  ) (
  P_fettleref4_changed_3 x8 M Q
  )
  )
  )
  )
  )
  )
  )
theorem T_fettleref4_changed_2 {x1 x3 x8 x15 x49 : Value} {M : Store} {Q : Value → Store → Prop} (h : S_fettleref4_changed_2 x1 x3 x8 x15 x49 M Q) : P_fettleref4_changed_2 x1 x3 x8 x15 x49 M Q := by
  intro f h1 h3 h8 h15 h49; subst h1; subst h3; subst h8; subst h15; subst h49
  unfold At
  exact rule (B := 1000) (N := 161) (ct := (.two (.two .no (.two (.here 1000) .no)) (.two .no (.two (.two .no (.two (.here 1001) .no)) (.two .no (.two .no (.two .no (.two .no (.two .no (.two .no (.two .no (.two (.two .no (.two (.here 1002) .no)) .no))))))))))))
    [⟨1002, fun a M => dfr a.defers (P_fettleref4_changed_4 (a.get 1) (a.get 3) (a.get 8) (a.get 10) M Q), fun a M => At Try.prog Ex none Try.f78 [1, 1, 0, 1, 0, 1, 1, 1, 1, 1, 1, 1, 0, 1, 0] a M Q⟩,
    ⟨1003, fun a M => dfr a.defers (P_fettleref4_changed_5 (a.get 1) (a.get 8) (a.get 12) M Q), fun a M => At Try.prog Ex none Try.f78 [1, 1, 0, 1, 0, 1, 1, 1, 1, 1, 1, 1, 1, 1, 0, 1, 0] a M Q⟩,
    ⟨1004, fun a M => dfr a.defers (P_fettleref4_changed_6 (a.get 1) (a.get 3) (a.get 8) (a.get 13) M Q), fun a M => At Try.prog Ex none Try.f78 [1, 1, 0, 1, 0, 1, 1, 1, 1, 1, 1, 1, 1, 1, 1, 1, 1, 1, 1, 1, 1, 1, 0, 1, 0] a M Q⟩,
    ⟨0, fun a M => dfr a.defers (P_fettleref4_changed_3 (a.get 8) M Q), fun a M => At Try.prog Ex none Try.f78 [1, 1, 1] a M Q⟩,
    ⟨1, fun a M => kfin Try.prog Try.f78.results.toList Q 1 a M, fun a M => kfin Try.prog Try.f78.results.toList Q 1 a M⟩]
    [1000, 1001, 1002] [0, 1] (by kernel_rfl) (by kernel_rfl) (by kernel_rfl) (by kernel_rfl) (by kernel_rfl)
    ⟨fun a M hn h => by obtain ⟨⟨n, f⟩, ds⟩ := a; have hn : n = 161 := hn; subst hn; obtain ⟨hd, h⟩ := dfr_iff h; have hd : ds = [] := hd; subst hd; exact h f rfl rfl rfl rfl,
    fun a M hn h => by obtain ⟨⟨n, f⟩, ds⟩ := a; have hn : n = 161 := hn; subst hn; obtain ⟨hd, h⟩ := dfr_iff h; have hd : ds = [] := hd; subst hd; exact h f rfl rfl rfl,
    fun a M hn h => by obtain ⟨⟨n, f⟩, ds⟩ := a; have hn : n = 161 := hn; subst hn; obtain ⟨hd, h⟩ := dfr_iff h; have hd : ds = [] := hd; subst hd; exact h f rfl rfl rfl rfl,
    fun a M hn h => by obtain ⟨⟨n, f⟩, ds⟩ := a; have hn : n = 161 := hn; subst hn; obtain ⟨hd, h⟩ := dfr_iff h; have hd : ds = [] := hd; subst hd; exact h f rfl,
    fun _ _ _ h => h,
    trivial⟩
    (cast (by kernel_rfl) h)
def S_fettleref4_changed_3 (x8 : Value) (M : Store) (Q : Value → Store → Prop) : Prop :=
  NTs [x8, (.bool true)] ∧ Q (.tuple #[x8, (.bool true)]) M
theorem T_fettleref4_changed_3 {x8 : Value} {M : Store} {Q : Value → Store → Prop} (h : S_fettleref4_changed_3 x8 M Q) : P_fettleref4_changed_3 x8 M Q := by
  intro f h8; subst h8
  unfold At
  exact rule (B := 1000) (N := 161) (ct := .no)
    [⟨1, fun a M => kfin Try.prog Try.f78.results.toList Q 1 a M, fun a M => kfin Try.prog Try.f78.results.toList Q 1 a M⟩]
    [] [1] (by kernel_rfl) (by kernel_rfl) (by kernel_rfl) (by kernel_rfl) (by kernel_rfl)
    ⟨fun _ _ _ h => h,
    trivial⟩
    (cast (by kernel_rfl) h)
def S_fettleref4_changed_4 (x1 x3 x8 x10 : Value) (M : Store) (Q : Value → Store → Prop) : Prop :=
  OP (lenV x1) fun t54 =>
  OP (binI .lss x10 t54) fun t55 =>
  BR t55 (
  P_fettleref4_changed_7 x1 x3 x8 x10 M Q
  ) (
  P_fettleref4_changed_3 x8 M Q
  )
theorem T_fettleref4_changed_4 {x1 x3 x8 x10 : Value} {M : Store} {Q : Value → Store → Prop} (h : S_fettleref4_changed_4 x1 x3 x8 x10 M Q) : P_fettleref4_changed_4 x1 x3 x8 x10 M Q := by
  intro f h1 h3 h8 h10; subst h1; subst h3; subst h8; subst h10
  unfold At
  refine cast (by kernel_rfl) (CW.loop (P := Try.prog) (E := Ex) (rd := none) (x := sub (bodyOf Try.f78) [1, 1, 0, 1, 0, 1, 1, 1, 1, 1, 1, 1, 0, 1, 0, 0]) (a := ⟨⟨161, f⟩, []⟩) (M := M) (K := kcont Try.prog Ex none (bodyOf Try.f78) [1, 1, 0, 1, 0, 1, 1, 1, 1, 1, 1, 1, 0, 1, 0] (kfin Try.prog Try.f78.results.toList Q)) ?_)
  exact rule (B := 1000) (N := 161) (ct := (.two .no (.here 1000)))
    [⟨1002, fun a M => dfr a.defers (P_fettleref4_changed_7 (a.get 1) (a.get 3) (a.get 8) (a.get 10) M Q), fun a M => At Try.prog Ex none Try.f78 [1, 1, 0, 1, 0, 1, 1, 1, 1, 1, 1, 1, 0, 1, 0, 0, 1] a M Q⟩,
    ⟨5, fun a M => dfr a.defers (P_fettleref4_changed_3 (a.get 8) M Q), fun a M => At Try.prog Ex none Try.f78 [1, 1, 1] a M Q⟩]
    [1000] [5] (by kernel_rfl) (by kernel_rfl) (by kernel_rfl) (by kernel_rfl) (by kernel_rfl)
    ⟨fun a M hn h => by obtain ⟨⟨n, f⟩, ds⟩ := a; have hn : n = 161 := hn; subst hn; obtain ⟨hd, h⟩ := dfr_iff h; have hd : ds = [] := hd; subst hd; exact h f rfl rfl rfl rfl,
    fun a M hn h => by obtain ⟨⟨n, f⟩, ds⟩ := a; have hn : n = 161 := hn; subst hn; obtain ⟨hd, h⟩ := dfr_iff h; have hd : ds = [] := hd; subst hd; exact h f rfl,
    trivial⟩
    (cast (by kernel_rfl) h)
def S_fettleref4_changed_5 (x1 x8 x12 : Value) (M : Store) (Q : Value → Store → Prop) : Prop :=
  OP (binI .geq x12 (.int .i64 0)) fun t98 =>
  BR t98 (
  OP (ixA 1 x1 x12) fun t104 =>
  OP (ld 1 false t104 M) fun t105 =>
  OP (bldL (.int .u8 0) 1 1 [(0, t105)]) fun c =>
  LT (.slice (some ⟨M.n, 0, none⟩) 1 1) (M.push (some (.inl (c, Ty.uint8, true)))) fun t106 M1 =>
  OP2 (appV 1 Ty.uint8 x8 t106 M1) fun t107 M2 =>
  OP (binI .sub x12 (.int .i64 1)) fun t100 =>
  P_fettleref4_changed_5 x1 t107 t100 M2 Q
  ) (
  P_fettleref4_changed_3 x8 M Q
  )
theorem T_fettleref4_changed_5 {x1 x8 x12 : Value} {M : Store} {Q : Value → Store → Prop} (h : S_fettleref4_changed_5 x1 x8 x12 M Q) : P_fettleref4_changed_5 x1 x8 x12 M Q := by
  intro f h1 h8 h12; subst h1; subst h8; subst h12
  unfold At
  refine cast (by kernel_rfl) (CW.loop (P := Try.prog) (E := Ex) (rd := none) (x := sub (bodyOf Try.f78) [1, 1, 0, 1, 0, 1, 1, 1, 1, 1, 1, 1, 1, 1, 0, 1, 0, 0]) (a := ⟨⟨161, f⟩, []⟩) (M := M) (K := kcont Try.prog Ex none (bodyOf Try.f78) [1, 1, 0, 1, 0, 1, 1, 1, 1, 1, 1, 1, 1, 1, 0, 1, 0] (kfin Try.prog Try.f78.results.toList Q)) ?_)
  exact rule (B := 1000) (N := 161) (ct := .no)
    [⟨0, fun a M => dfr a.defers (P_fettleref4_changed_5 (a.get 1) (a.get 8) (a.get 12) M Q), fun a M => At Try.prog Ex none Try.f78 [1, 1, 0, 1, 0, 1, 1, 1, 1, 1, 1, 1, 1, 1, 0, 1, 0] a M Q⟩,
    ⟨7, fun a M => dfr a.defers (P_fettleref4_changed_3 (a.get 8) M Q), fun a M => At Try.prog Ex none Try.f78 [1, 1, 1] a M Q⟩]
    [] [0, 7] (by kernel_rfl) (by kernel_rfl) (by kernel_rfl) (by kernel_rfl) (by kernel_rfl)
    ⟨fun a M hn h => by obtain ⟨⟨n, f⟩, ds⟩ := a; have hn : n = 161 := hn; subst hn; obtain ⟨hd, h⟩ := dfr_iff h; have hd : ds = [] := hd; subst hd; exact h f rfl rfl rfl,
    fun a M hn h => by obtain ⟨⟨n, f⟩, ds⟩ := a; have hn : n = 161 := hn; subst hn; obtain ⟨hd, h⟩ := dfr_iff h; have hd : ds = [] := hd; subst hd; exact h f rfl,
    trivial⟩
    (cast (by kernel_rfl) h)
def S_fettleref4_changed_6 (x1 x3 x8 x13 : Value) (M : Store) (Q : Value → Store → Prop) : Prop :=
  OP (lenV x1) fun t141 =>
  OP (binI .lss x13 t141) fun t142 =>
  BR t142 (
  P_fettleref4_changed_8 x1 x3 x8 x13 M Q
  ) (
  P_fettleref4_changed_3 x8 M Q
  )
theorem T_fettleref4_changed_6 {x1 x3 x8 x13 : Value} {M : Store} {Q : Value → Store → Prop} (h : S_fettleref4_changed_6 x1 x3 x8 x13 M Q) : P_fettleref4_changed_6 x1 x3 x8 x13 M Q := by
  intro f h1 h3 h8 h13; subst h1; subst h3; subst h8; subst h13
  unfold At
  refine cast (by kernel_rfl) (CW.loop (P := Try.prog) (E := Ex) (rd := none) (x := sub (bodyOf Try.f78) [1, 1, 0, 1, 0, 1, 1, 1, 1, 1, 1, 1, 1, 1, 1, 1, 1, 1, 1, 1, 1, 1, 0, 1, 0, 0]) (a := ⟨⟨161, f⟩, []⟩) (M := M) (K := kcont Try.prog Ex none (bodyOf Try.f78) [1, 1, 0, 1, 0, 1, 1, 1, 1, 1, 1, 1, 1, 1, 1, 1, 1, 1, 1, 1, 1, 1, 0, 1, 0] (kfin Try.prog Try.f78.results.toList Q)) ?_)
  exact rule (B := 1000) (N := 161) (ct := (.two .no (.here 1000)))
    [⟨1002, fun a M => dfr a.defers (P_fettleref4_changed_8 (a.get 1) (a.get 3) (a.get 8) (a.get 13) M Q), fun a M => At Try.prog Ex none Try.f78 [1, 1, 0, 1, 0, 1, 1, 1, 1, 1, 1, 1, 1, 1, 1, 1, 1, 1, 1, 1, 1, 1, 0, 1, 0, 0, 1] a M Q⟩,
    ⟨9, fun a M => dfr a.defers (P_fettleref4_changed_3 (a.get 8) M Q), fun a M => At Try.prog Ex none Try.f78 [1, 1, 1] a M Q⟩]
    [1000] [9] (by kernel_rfl) (by kernel_rfl) (by kernel_rfl) (by kernel_rfl) (by kernel_rfl)
    ⟨fun a M hn h => by obtain ⟨⟨n, f⟩, ds⟩ := a; have hn : n = 161 := hn; subst hn; obtain ⟨hd, h⟩ := dfr_iff h; have hd : ds = [] := hd; subst hd; exact h f rfl rfl rfl rfl,
    fun a M hn h => by obtain ⟨⟨n, f⟩, ds⟩ := a; have hn : n = 161 := hn; subst hn; obtain ⟨hd, h⟩ := dfr_iff h; have hd : ds = [] := hd; subst hd; exact h f rfl,
    trivial⟩
    (cast (by kernel_rfl) h)
def S_fettleref4_changed_7 (x1 x3 x8 x10 : Value) (M : Store) (Q : Value → Store → Prop) : Prop :=
  OP (ixA 1 x1 x10) fun t60 =>
  OP (ld 1 false t60 M) fun t61 =>
  OP (fad 0 x3) fun t62 =>
  OP (ld 1 false t62 M) fun t63 =>
  OP (binI .eql t63 (.int .i64 4)) fun t64 =>
  BR t64 (
  OP (binI .geq t61 (.int .u8 97)) fun t67 =>
  BR t67 (
  OP (binI .leq t61 (.int .u8 122)) fun t71 =>
  BR t71 (
  OP (binI .sub t61 (.int .u8 32)) fun t74 =>
  P_fettleref4_changed_9 x1 x3 x8 x10 t74 M Q
  ) (
  P_fettleref4_changed_9 x1 x3 x8 x10 t61 M Q
  )
  ) (
  P_fettleref4_changed_9 x1 x3 x8 x10 t61 M Q
  )
  ) (
  P_fettleref4_changed_9 x1 x3 x8 x10 t61 M Q
  )
theorem T_fettleref4_changed_7 {x1 x3 x8 x10 : Value} {M : Store} {Q : Value → Store → Prop} (h : S_fettleref4_changed_7 x1 x3 x8 x10 M Q) : P_fettleref4_changed_7 x1 x3 x8 x10 M Q := by
  intro f h1 h3 h8 h10; subst h1; subst h3; subst h8; subst h10
  unfold At
  exact rule (B := 1000) (N := 161) (ct := (.two (.two (.two .no (.two .no (.here 1000))) .no) (.here 1001)))
    [⟨1002, fun a M => dfr a.defers (P_fettleref4_changed_9 (a.get 1) (a.get 3) (a.get 8) (a.get 10) (a.get 11) M Q), fun a M => At Try.prog Ex none Try.f78 [1, 1, 0, 1, 0, 1, 1, 1, 1, 1, 1, 1, 0, 1, 0, 0, 1, 0, 0, 1, 1] a M Q⟩,
    ⟨1003, fun _ _ => False, fun a M => At Try.prog Ex none Try.f78 [1, 1, 0, 1, 0, 1, 1, 1, 1, 1, 1, 1, 0, 1, 0, 0, 1, 1] a M Q⟩]
    [1000, 1001] [] (by kernel_rfl) (by kernel_rfl) (by kernel_rfl) (by kernel_rfl) (by kernel_rfl)
    ⟨fun a M hn h => by obtain ⟨⟨n, f⟩, ds⟩ := a; have hn : n = 161 := hn; subst hn; obtain ⟨hd, h⟩ := dfr_iff h; have hd : ds = [] := hd; subst hd; exact h f rfl rfl rfl rfl rfl,
    fun _ _ _ h => h.elim,
    trivial⟩
    (cast (by kernel_rfl) h)
def S_fettleref4_changed_8 (x1 x3 x8 x13 : Value) (M : Store) (Q : Value → Store → Prop) : Prop :=
  OP (binI .gtr x13 (.int .i64 0)) fun t146 =>
  BR t146 (
  OP (fad 2 x3) fun t148 =>
  OP (ld 1 false t148 M) fun t149 =>
  OP2 (appT 1 Ty.uint8 x8 t149 M) fun t150 M1 =>
  OP (ixA 1 x1 x13) fun t154 =>
  OP (ld 1 false t154 M1) fun t155 =>
  OP (bldL (.int .u8 0) 1 1 [(0, t155)]) fun c =>
  LT (.slice (some ⟨M1.n, 0, none⟩) 1 1) (M1.push (some (.inl (c, Ty.uint8, true)))) fun t156 M2 =>
  OP2 (appV 1 Ty.uint8 t150 t156 M2) fun t157 M3 =>
  OP (binI .add x13 (.int .i64 1)) fun t144 =>
  P_fettleref4_changed_6 x1 x3 t157 t144 M3 Q
  ) (
  OP (ixA 1 x1 x13) fun t154_1 =>
  OP (ld 1 false t154_1 M) fun t155_1 =>
  OP (bldL (.int .u8 0) 1 1 [(0, t155_1)]) fun c_1 =>
  LT (.slice (some ⟨M.n, 0, none⟩) 1 1) (M.push (some (.inl (c_1, Ty.uint8, true)))) fun t156_1 M4 =>
  OP2 (appV 1 Ty.uint8 x8 t156_1 M4) fun t157_1 M5 =>
  OP (binI .add x13 (.int .i64 1)) fun t144_1 =>
  P_fettleref4_changed_6 x1 x3 t157_1 t144_1 M5 Q
  )
theorem T_fettleref4_changed_8 {x1 x3 x8 x13 : Value} {M : Store} {Q : Value → Store → Prop} (h : S_fettleref4_changed_8 x1 x3 x8 x13 M Q) : P_fettleref4_changed_8 x1 x3 x8 x13 M Q := by
  intro f h1 h3 h8 h13; subst h1; subst h3; subst h8; subst h13
  unfold At
  exact rule (B := 1000) (N := 161) (ct := .no)
    [⟨0, fun a M => dfr a.defers (P_fettleref4_changed_6 (a.get 1) (a.get 3) (a.get 8) (a.get 13) M Q), fun a M => At Try.prog Ex none Try.f78 [1, 1, 0, 1, 0, 1, 1, 1, 1, 1, 1, 1, 1, 1, 1, 1, 1, 1, 1, 1, 1, 1, 0, 1, 0] a M Q⟩]
    [] [0] (by kernel_rfl) (by kernel_rfl) (by kernel_rfl) (by kernel_rfl) (by kernel_rfl)
    ⟨fun a M hn h => by obtain ⟨⟨n, f⟩, ds⟩ := a; have hn : n = 161 := hn; subst hn; obtain ⟨hd, h⟩ := dfr_iff h; have hd : ds = [] := hd; subst hd; exact h f rfl rfl rfl rfl,
    trivial⟩
    (cast (by kernel_rfl) h)
def S_fettleref4_changed_9 (x1 x3 x8 x10 x11 : Value) (M : Store) (Q : Value → Store → Prop) : Prop :=
  OP (fad 0 x3) fun t75 =>
  OP (ld 1 false t75 M) fun t76 =>
  OP (binI .eql t76 (.int .i64 5)) fun t77 =>
  BR t77 (
  OP (binI .geq x11 (.int .u8 65)) fun t80 =>
  BR t80 (
  OP (binI .leq x11 (.int .u8 90)) fun t84 =>
  BR t84 (
  OP (binI .add x11 (.int .u8 32)) fun t87 =>
  OP (bldL (.int .u8 0) 1 1 [(0, t87)]) fun c =>
  LT (.slice (some ⟨M.n, 0, none⟩) 1 1) (M.push (some (.inl (c, Ty.uint8, true)))) fun t90 M1 =>
  OP2 (appV 1 Ty.uint8 x8 t90 M1) fun t91 M2 =>
  P_fettleref4_changed_10 x1 x3 t91 x10 M2 Q
  ) (
  OP (bldL (.int .u8 0) 1 1 [(0, x11)]) fun c_1 =>
  LT (.slice (some ⟨M.n, 0, none⟩) 1 1) (M.push (some (.inl (c_1, Ty.uint8, true)))) fun t90_1 M3 =>
  OP2 (appV 1 Ty.uint8 x8 t90_1 M3) fun t91_1 M4 =>
  P_fettleref4_changed_10 x1 x3 t91_1 x10 M4 Q
  )
  ) (
  OP (bldL (.int .u8 0) 1 1 [(0, x11)]) fun c_2 =>
  LT (.slice (some ⟨M.n, 0, none⟩) 1 1) (M.push (some (.inl (c_2, Ty.uint8, true)))) fun t90_2 M5 =>
  OP2 (appV 1 Ty.uint8 x8 t90_2 M5) fun t91_2 M6 =>
  P_fettleref4_changed_10 x1 x3 t91_2 x10 M6 Q
  )
  ) (
  OP (bldL (.int .u8 0) 1 1 [(0, x11)]) fun c_3 =>
  LT (.slice (some ⟨M.n, 0, none⟩) 1 1) (M.push (some (.inl (c_3, Ty.uint8, true)))) fun t90_3 M7 =>
  OP2 (appV 1 Ty.uint8 x8 t90_3 M7) fun t91_3 M8 =>
  P_fettleref4_changed_10 x1 x3 t91_3 x10 M8 Q
  )
theorem T_fettleref4_changed_9 {x1 x3 x8 x10 x11 : Value} {M : Store} {Q : Value → Store → Prop} (h : S_fettleref4_changed_9 x1 x3 x8 x10 x11 M Q) : P_fettleref4_changed_9 x1 x3 x8 x10 x11 M Q := by
  intro f h1 h3 h8 h10 h11; subst h1; subst h3; subst h8; subst h10; subst h11
  unfold At
  exact rule (B := 1000) (N := 161) (ct := .no)
    [⟨0, fun a M => dfr a.defers (P_fettleref4_changed_10 (a.get 1) (a.get 3) (a.get 8) (a.get 10) M Q), fun a M => At Try.prog Ex none Try.f78 [1, 1, 0, 1, 0, 1, 1, 1, 1, 1, 1, 1, 0, 1, 0, 0, 1, 1] a M Q⟩]
    [] [0] (by kernel_rfl) (by kernel_rfl) (by kernel_rfl) (by kernel_rfl) (by kernel_rfl)
    ⟨fun a M hn h => by obtain ⟨⟨n, f⟩, ds⟩ := a; have hn : n = 161 := hn; subst hn; obtain ⟨hd, h⟩ := dfr_iff h; have hd : ds = [] := hd; subst hd; exact h f rfl rfl rfl rfl,
    trivial⟩
    (cast (by kernel_rfl) h)
def S_fettleref4_changed_10 (x1 x3 x8 x10 : Value) (M : Store) (Q : Value → Store → Prop) : Prop :=
  OP (binI .add x10 (.int .i64 1)) fun t57 =>
  P_fettleref4_changed_4 x1 x3 x8 t57 M Q
theorem T_fettleref4_changed_10 {x1 x3 x8 x10 : Value} {M : Store} {Q : Value → Store → Prop} (h : S_fettleref4_changed_10 x1 x3 x8 x10 M Q) : P_fettleref4_changed_10 x1 x3 x8 x10 M Q := by
  intro f h1 h3 h8 h10; subst h1; subst h3; subst h8; subst h10
  unfold At
  exact rule (B := 1000) (N := 161) (ct := .no)
    [⟨0, fun a M => dfr a.defers (P_fettleref4_changed_4 (a.get 1) (a.get 3) (a.get 8) (a.get 10) M Q), fun a M => At Try.prog Ex none Try.f78 [1, 1, 0, 1, 0, 1, 1, 1, 1, 1, 1, 1, 0, 1, 0] a M Q⟩]
    [] [0] (by kernel_rfl) (by kernel_rfl) (by kernel_rfl) (by kernel_rfl) (by kernel_rfl)
    ⟨fun a M hn h => by obtain ⟨⟨n, f⟩, ds⟩ := a; have hn : n = 161 := hn; subst hn; obtain ⟨hd, h⟩ := dfr_iff h; have hd : ds = [] := hd; subst hd; exact h f rfl rfl rfl rfl,
    trivial⟩
    (cast (by kernel_rfl) h)
end Go.G
