/-  -/
import Derived.Test.YtnonfejhkbaikaaDoorPGN
open Go.RowKit
namespace Go.G
open Go.Ab Go.Proofs
set_option linter.unusedVariables false
set_option maxRecDepth 100000
def P_fettlelaw21_OptnTells_1 (x1 x2 x3 x29 x30 x31 : Value) (M : Store) (Q : Value → Store → Prop) : Prop :=
  ∀ f : Nat → Value, f 1 = x1 → f 2 = x2 → f 3 = x3 → f 29 = x29 → f 30 = x30 → f 31 = x31 → At Tryd.prog Ex none Tryd.f4 [1, 1, 0, 1, 0] ⟨⟨145, f⟩, []⟩ M Q
def P_fettlelaw21_OptnTells_2 (x1 x2 x3 x29 x30 x31 : Value) (M : Store) (Q : Value → Store → Prop) : Prop :=
  ∀ f : Nat → Value, f 1 = x1 → f 2 = x2 → f 3 = x3 → f 29 = x29 → f 30 = x30 → f 31 = x31 → At Tryd.prog Ex none Tryd.f4 [1, 1, 0, 1, 0, 0, 1, 1] ⟨⟨145, f⟩, []⟩ M Q
def P_fettlelaw21_OptnTells_3 (x1 x2 x3 : Value) (M : Store) (Q : Value → Store → Prop) : Prop :=
  ∀ f : Nat → Value, f 1 = x1 → f 2 = x2 → f 3 = x3 → At Tryd.prog Ex none Tryd.f4 [1, 1, 1] ⟨⟨145, f⟩, []⟩ M Q
def P_fettlelaw21_OptnTells_4 (x1 x2 x3 x9 x10 : Value) (M : Store) (Q : Value → Store → Prop) : Prop :=
  ∀ f : Nat → Value, f 1 = x1 → f 2 = x2 → f 3 = x3 → f 9 = x9 → f 10 = x10 → At Tryd.prog Ex none Tryd.f4 [1, 1, 1, 1, 1, 0, 1, 0] ⟨⟨145, f⟩, []⟩ M Q
def P_fettlelaw21_OptnTells_5 (x1 x2 x3 x9 x10 : Value) (M : Store) (Q : Value → Store → Prop) : Prop :=
  ∀ f : Nat → Value, f 1 = x1 → f 2 = x2 → f 3 = x3 → f 9 = x9 → f 10 = x10 → At Tryd.prog Ex none Tryd.f4 [1, 1, 1, 1, 1, 0, 1, 0, 0, 1] ⟨⟨145, f⟩, []⟩ M Q
def P_fettlelaw21_OptnTells_6 (x1 x3 x9 : Value) (M : Store) (Q : Value → Store → Prop) : Prop :=
  ∀ f : Nat → Value, f 1 = x1 → f 3 = x3 → f 9 = x9 → At Tryd.prog Ex none Tryd.f4 [1, 1, 1, 1, 1, 1] ⟨⟨145, f⟩, []⟩ M Q
def P_fettlelaw21_OptnTells_7 (x1 x2 x3 x9 x10 : Value) (M : Store) (Q : Value → Store → Prop) : Prop :=
  ∀ f : Nat → Value, f 1 = x1 → f 2 = x2 → f 3 = x3 → f 9 = x9 → f 10 = x10 → At Tryd.prog Ex none Tryd.f4 [1, 1, 1, 1, 1, 0, 1, 0, 0, 1, 0, 0, 1] ⟨⟨145, f⟩, []⟩ M Q
def P_fettlelaw21_OptnTells_8 (x3 x83 x84 x85 : Value) (M : Store) (Q : Value → Store → Prop) : Prop :=
  ∀ f : Nat → Value, f 3 = x3 → f 83 = x83 → f 84 = x84 → f 85 = x85 → At Tryd.prog Ex none Tryd.f4 [1, 1, 1, 1, 1, 1, 0, 1, 0] ⟨⟨145, f⟩, []⟩ M Q
def P_fettlelaw21_OptnTells_9 (x1 x2 x3 x9 x10 : Value) (M : Store) (Q : Value → Store → Prop) : Prop :=
  ∀ f : Nat → Value, f 1 = x1 → f 2 = x2 → f 3 = x3 → f 9 = x9 → f 10 = x10 → At Tryd.prog Ex none Tryd.f4 [1, 1, 1, 1, 1, 0, 1, 0, 0, 1, 1] ⟨⟨145, f⟩, []⟩ M Q
def P_fettlelaw21_OptnTells_10 (x3 x83 x84 x85 : Value) (M : Store) (Q : Value → Store → Prop) : Prop :=
  ∀ f : Nat → Value, f 3 = x3 → f 83 = x83 → f 84 = x84 → f 85 = x85 → At Tryd.prog Ex none Tryd.f4 [1, 1, 1, 1, 1, 1, 0, 1, 0, 0, 1, 1] ⟨⟨145, f⟩, []⟩ M Q
def P_fettlelaw21_OptnTells_11 (x3 : Value) (M : Store) (Q : Value → Store → Prop) : Prop :=
  ∀ f : Nat → Value, f 3 = x3 → At Tryd.prog Ex none Tryd.f4 [1, 1, 1, 1, 1, 1, 1] ⟨⟨145, f⟩, []⟩ M Q
def S_fettlelaw21_OptnTells (x0 x1 x2 : Value) (M : Store) (Q : Value → Store → Prop) : Prop :=
  OP (boxv x0) fun c =>
  LT (.pointer (some ⟨M.n, 0, none⟩)) (M.push (some (.inl (c, Ty.api_Options, true)))) fun t3 M1 =>
  OP (lenV x1) fun t19 =>
  OP (binI .gtr t19 (.int .i64 100)) fun t20 =>
  BR t20 (
  R F.fettlelaw21_awake #[] M1 fun t27 M2 =>
  NTs [t27] ∧ Q t27 M2
  ) (
  OP (fad 3 t3) fun t22 =>
  OP (ld 1 false t22 M1) fun t23 =>
  OP (lenV t23) fun t24 =>
  OP (binI .gtr t24 (.int .i64 12)) fun t25 =>
  BR t25 (
  R F.fettlelaw21_awake #[] M1 fun t27_1 M3 =>
  NTs [t27_1] ∧ Q t27_1 M3
  ) (
  OP (fad 3 t3) fun t28 =>
  OP (ld 1 false t28 M1) fun t29 =>
  OP (lenV t29) fun t30 =>
  P_fettlelaw21_OptnTells_1 x1 x2 t3 t29 t30 (.int .i64 0) M1 Q
  )
  )
theorem T_fettlelaw21_OptnTells {x0 x1 x2 : Value} {M : Store} {Q : Value → Store → Prop} (h : S_fettlelaw21_OptnTells x0 x1 x2 M Q) : R F.fettlelaw21_OptnTells #[x0, x1, x2] M Q := by
  refine runs_of (c := bodyOf Tryd.f4) Tryd.func4 rfl (by kernel_rfl) (by kernel_rfl) ?_
  unfold At
  exact rule (B := 1000) (N := 145) (ct := (.two .no (.two .no (.two (.two .no (.two (.here 1000) .no)) (.here 1001)))))
    [⟨1002, fun a M => dfr a.defers (P_fettlelaw21_OptnTells_1 (a.get 1) (a.get 2) (a.get 3) (a.get 29) (a.get 30) (a.get 31) M Q), fun a M => At Tryd.prog Ex none Tryd.f4 [1, 1, 0, 1, 0] a M Q⟩,
    ⟨1003, fun _ _ => False, fun a M => At Tryd.prog Ex none Tryd.f4 [1, 1, 1] a M Q⟩,
    ⟨1, fun a M => kfin Tryd.prog Tryd.f4.results.toList Q 1 a M, fun a M => kfin Tryd.prog Tryd.f4.results.toList Q 1 a M⟩]
    [1000, 1001] [1] (by kernel_rfl) (by kernel_rfl) (by kernel_rfl) (by kernel_rfl) (by kernel_rfl)
    ⟨fun a M hn h => by obtain ⟨⟨n, f⟩, ds⟩ := a; have hn : n = 145 := hn; subst hn; obtain ⟨hd, h⟩ := dfr_iff h; have hd : ds = [] := hd; subst hd; exact h f rfl rfl rfl rfl rfl rfl,
    fun _ _ _ h => h.elim,
    fun _ _ _ h => h,
    trivial⟩
    (cast (by kernel_rfl) h)
def S_fettlelaw21_OptnTells_1 (x1 x2 x3 x29 x30 x31 : Value) (M : Store) (Q : Value → Store → Prop) : Prop :=
  OP (binI .lss x31 x30) fun t32 =>
  BR t32 (
  P_fettlelaw21_OptnTells_2 x1 x2 x3 x29 x30 x31 M Q
  ) (
  P_fettlelaw21_OptnTells_3 x1 x2 x3 M Q
  )
theorem T_fettlelaw21_OptnTells_1 {x1 x2 x3 x29 x30 x31 : Value} {M : Store} {Q : Value → Store → Prop} (h : S_fettlelaw21_OptnTells_1 x1 x2 x3 x29 x30 x31 M Q) : P_fettlelaw21_OptnTells_1 x1 x2 x3 x29 x30 x31 M Q := by
  intro f h1 h2 h3 h29 h30 h31; subst h1; subst h2; subst h3; subst h29; subst h30; subst h31
  unfold At
  refine cast (by kernel_rfl) (CW.loop (P := Tryd.prog) (E := Ex) (rd := none) (x := sub (bodyOf Tryd.f4) [1, 1, 0, 1, 0, 0]) (a := ⟨⟨145, f⟩, []⟩) (M := M) (K := kcont Tryd.prog Ex none (bodyOf Tryd.f4) [1, 1, 0, 1, 0] (kfin Tryd.prog Tryd.f4.results.toList Q)) ?_)
  exact rule (B := 1000) (N := 145) (ct := (.two .no (.two .no (.here 1000))))
    [⟨1002, fun a M => dfr a.defers (P_fettlelaw21_OptnTells_2 (a.get 1) (a.get 2) (a.get 3) (a.get 29) (a.get 30) (a.get 31) M Q), fun a M => At Tryd.prog Ex none Tryd.f4 [1, 1, 0, 1, 0, 0, 1, 1] a M Q⟩,
    ⟨2, fun a M => dfr a.defers (P_fettlelaw21_OptnTells_3 (a.get 1) (a.get 2) (a.get 3) M Q), fun a M => At Tryd.prog Ex none Tryd.f4 [1, 1, 1] a M Q⟩]
    [1000] [2] (by kernel_rfl) (by kernel_rfl) (by kernel_rfl) (by kernel_rfl) (by kernel_rfl)
    ⟨fun a M hn h => by obtain ⟨⟨n, f⟩, ds⟩ := a; have hn : n = 145 := hn; subst hn; obtain ⟨hd, h⟩ := dfr_iff h; have hd : ds = [] := hd; subst hd; exact h f rfl rfl rfl rfl rfl rfl,
    fun a M hn h => by obtain ⟨⟨n, f⟩, ds⟩ := a; have hn : n = 145 := hn; subst hn; obtain ⟨hd, h⟩ := dfr_iff h; have hd : ds = [] := hd; subst hd; exact h f rfl rfl rfl,
    trivial⟩
    (cast (by kernel_rfl) h)
def S_fettlelaw21_OptnTells_2 (x1 x2 x3 x29 x30 x31 : Value) (M : Store) (Q : Value → Store → Prop) : Prop :=
  OP (ixA 1 x29 x31) fun t33 =>
  OP (ld 1 false t33 M) fun t34 =>
  OP (lenS t34) fun t36 =>
  OP (binI .gtr t36 (.int .i64 60)) fun t37 =>
  BR t37 (
  R F.fettlelaw21_awake #[] M fun t38 M1 =>
  NTs [t38] ∧ Q t38 M1
  ) (
  OP (binI .add x31 (.int .i64 1)) fun t39 =>
  P_fettlelaw21_OptnTells_1 x1 x2 x3 x29 x30 t39 M Q
  )
theorem T_fettlelaw21_OptnTells_2 {x1 x2 x3 x29 x30 x31 : Value} {M : Store} {Q : Value → Store → Prop} (h : S_fettlelaw21_OptnTells_2 x1 x2 x3 x29 x30 x31 M Q) : P_fettlelaw21_OptnTells_2 x1 x2 x3 x29 x30 x31 M Q := by
  intro f h1 h2 h3 h29 h30 h31; subst h1; subst h2; subst h3; subst h29; subst h30; subst h31
  unfold At
  exact rule (B := 1000) (N := 145) (ct := .no)
    [⟨0, fun a M => dfr a.defers (P_fettlelaw21_OptnTells_1 (a.get 1) (a.get 2) (a.get 3) (a.get 29) (a.get 30) (a.get 31) M Q), fun a M => At Tryd.prog Ex none Tryd.f4 [1, 1, 0, 1, 0] a M Q⟩,
    ⟨1, fun a M => kfin Tryd.prog Tryd.f4.results.toList Q 1 a M, fun a M => kfin Tryd.prog Tryd.f4.results.toList Q 1 a M⟩]
    [] [0, 1] (by kernel_rfl) (by kernel_rfl) (by kernel_rfl) (by kernel_rfl) (by kernel_rfl)
    ⟨fun a M hn h => by obtain ⟨⟨n, f⟩, ds⟩ := a; have hn : n = 145 := hn; subst hn; obtain ⟨hd, h⟩ := dfr_iff h; have hd : ds = [] := hd; subst hd; exact h f rfl rfl rfl rfl rfl rfl,
    fun _ _ _ h => h,
    trivial⟩
    (cast (by kernel_rfl) h)
def S_fettlelaw21_OptnTells_3 (x1 x2 x3 : Value) (M : Store) (Q : Value → Store → Prop) : Prop :=
  OP (ld 4 true x3 M) fun t40 =>
  R F.optn_Print #[t40] M fun t41 M1 =>
  TDj [0] [M.n, M.n] M M1 ∧
  OP (ld 4 true x3 M1) fun t42 =>
  R F.fettleref10_Options #[t42] M1 fun t43 M2 =>
  TDx [0, 1, 0, 7, 15] [M.n, M.n, M1.n, M1.n] 3 M1 M2 ∧
  OP (binS .neq t41 t43) fun t44 =>
  BR t44 (
  NTs [(.bool false)] ∧ Q (.bool false) M2
  ) (
  P_fettlelaw21_OptnTells_4 x1 x2 x3 (.string ⟨#[]⟩) (.int .i64 0) M2 Q
  )
theorem T_fettlelaw21_OptnTells_3 {x1 x2 x3 : Value} {M : Store} {Q : Value → Store → Prop} (h : S_fettlelaw21_OptnTells_3 x1 x2 x3 M Q) : P_fettlelaw21_OptnTells_3 x1 x2 x3 M Q := by
  intro f h1 h2 h3; subst h1; subst h2; subst h3
  unfold At
  exact rule (B := 1000) (N := 145) (ct := (.two .no (.two .no (.two (.two .no (.two (.here 1000) .no)) (.here 1001)))))
    [⟨1002, fun a M => dfr a.defers (P_fettlelaw21_OptnTells_4 (a.get 1) (a.get 2) (a.get 3) (a.get 9) (a.get 10) M Q), fun a M => At Tryd.prog Ex none Tryd.f4 [1, 1, 1, 1, 1, 0, 1, 0] a M Q⟩,
    ⟨1003, fun _ _ => False, fun a M => At Tryd.prog Ex none Tryd.f4 [1, 1, 1, 1, 1, 1] a M Q⟩,
    ⟨1, fun a M => kfin Tryd.prog Tryd.f4.results.toList Q 1 a M, fun a M => kfin Tryd.prog Tryd.f4.results.toList Q 1 a M⟩]
    [1000, 1001] [1] (by kernel_rfl) (by kernel_rfl) (by kernel_rfl) (by kernel_rfl) (by kernel_rfl)
    ⟨fun a M hn h => by obtain ⟨⟨n, f⟩, ds⟩ := a; have hn : n = 145 := hn; subst hn; obtain ⟨hd, h⟩ := dfr_iff h; have hd : ds = [] := hd; subst hd; exact h f rfl rfl rfl rfl rfl,
    fun _ _ _ h => h.elim,
    fun _ _ _ h => h,
    trivial⟩
    (cast (by kernel_rfl) h)
def S_fettlelaw21_OptnTells_4 (x1 x2 x3 x9 x10 : Value) (M : Store) (Q : Value → Store → Prop) : Prop :=
  OP (lenV x2) fun t47 =>
  OP (binI .lss x10 t47) fun t48 =>
  BR t48 (
  OP (binI .lss x10 (.int .i64 12)) fun t51 =>
  BR t51 (
  P_fettlelaw21_OptnTells_5 x1 x2 x3 x9 x10 M Q
  ) (
  P_fettlelaw21_OptnTells_6 x1 x3 x9 M Q
  )
  ) (
  P_fettlelaw21_OptnTells_6 x1 x3 x9 M Q
  )
theorem T_fettlelaw21_OptnTells_4 {x1 x2 x3 x9 x10 : Value} {M : Store} {Q : Value → Store → Prop} (h : S_fettlelaw21_OptnTells_4 x1 x2 x3 x9 x10 M Q) : P_fettlelaw21_OptnTells_4 x1 x2 x3 x9 x10 M Q := by
  intro f h1 h2 h3 h9 h10; subst h1; subst h2; subst h3; subst h9; subst h10
  unfold At
  refine cast (by kernel_rfl) (CW.loop (P := Tryd.prog) (E := Ex) (rd := none) (x := sub (bodyOf Tryd.f4) [1, 1, 1, 1, 1, 0, 1, 0, 0]) (a := ⟨⟨145, f⟩, []⟩) (M := M) (K := kcont Tryd.prog Ex none (bodyOf Tryd.f4) [1, 1, 1, 1, 1, 0, 1, 0] (kfin Tryd.prog Tryd.f4.results.toList Q)) ?_)
  exact rule (B := 1000) (N := 145) (ct := (.two .no (.here 1000)))
    [⟨1002, fun a M => dfr a.defers (P_fettlelaw21_OptnTells_5 (a.get 1) (a.get 2) (a.get 3) (a.get 9) (a.get 10) M Q), fun a M => At Tryd.prog Ex none Tryd.f4 [1, 1, 1, 1, 1, 0, 1, 0, 0, 1] a M Q⟩,
    ⟨4, fun a M => dfr a.defers (P_fettlelaw21_OptnTells_6 (a.get 1) (a.get 3) (a.get 9) M Q), fun a M => At Tryd.prog Ex none Tryd.f4 [1, 1, 1, 1, 1, 1] a M Q⟩]
    [1000] [4] (by kernel_rfl) (by kernel_rfl) (by kernel_rfl) (by kernel_rfl) (by kernel_rfl)
    ⟨fun a M hn h => by obtain ⟨⟨n, f⟩, ds⟩ := a; have hn : n = 145 := hn; subst hn; obtain ⟨hd, h⟩ := dfr_iff h; have hd : ds = [] := hd; subst hd; exact h f rfl rfl rfl rfl rfl,
    fun a M hn h => by obtain ⟨⟨n, f⟩, ds⟩ := a; have hn : n = 145 := hn; subst hn; obtain ⟨hd, h⟩ := dfr_iff h; have hd : ds = [] := hd; subst hd; exact h f rfl rfl rfl,
    trivial⟩
    (cast (by kernel_rfl) h)
def S_fettlelaw21_OptnTells_5 (x1 x2 x3 x9 x10 : Value) (M : Store) (Q : Value → Store → Prop) : Prop :=
  OP (binI .gtr x10 (.int .i64 0)) fun t56 =>
  BR t56 (
  OP (binS .add x9 (.string ⟨#[32]⟩)) fun t67 =>
  P_fettlelaw21_OptnTells_7 x1 x2 x3 t67 x10 M Q
  ) (
  OP (ixA 1 x2 x10) fun t60 =>
  OP (ld 1 false t60 M) fun t61 =>
  OP (binI .shr t61 (.int .u64 8)) fun t62 =>
  OP (binI .and t62 (.int .i64 7)) fun t63 =>
  OP (binI .eql t63 (.int .i64 0)) fun t64 =>
  BR t64 (
  OP (binS .add x9 (.string ⟨#[32]⟩)) fun t67_1 =>
  P_fettlelaw21_OptnTells_7 x1 x2 x3 t67_1 x10 M Q
  ) (
  P_fettlelaw21_OptnTells_7 x1 x2 x3 x9 x10 M Q
  )
  )
theorem T_fettlelaw21_OptnTells_5 {x1 x2 x3 x9 x10 : Value} {M : Store} {Q : Value → Store → Prop} (h : S_fettlelaw21_OptnTells_5 x1 x2 x3 x9 x10 M Q) : P_fettlelaw21_OptnTells_5 x1 x2 x3 x9 x10 M Q := by
  intro f h1 h2 h3 h9 h10; subst h1; subst h2; subst h3; subst h9; subst h10
  unfold At
  exact rule (B := 1000) (N := 145) (ct := (.two (.two (.two .no (.here 1000)) .no) (.here 1001)))
    [⟨1002, fun a M => dfr a.defers (P_fettlelaw21_OptnTells_7 (a.get 1) (a.get 2) (a.get 3) (a.get 9) (a.get 10) M Q), fun a M => At Tryd.prog Ex none Tryd.f4 [1, 1, 1, 1, 1, 0, 1, 0, 0, 1, 0, 0, 1] a M Q⟩,
    ⟨1003, fun _ _ => False, fun a M => At Tryd.prog Ex none Tryd.f4 [1, 1, 1, 1, 1, 0, 1, 0, 0, 1, 1] a M Q⟩]
    [1000, 1001] [] (by kernel_rfl) (by kernel_rfl) (by kernel_rfl) (by kernel_rfl) (by kernel_rfl)
    ⟨fun a M hn h => by obtain ⟨⟨n, f⟩, ds⟩ := a; have hn : n = 145 := hn; subst hn; obtain ⟨hd, h⟩ := dfr_iff h; have hd : ds = [] := hd; subst hd; exact h f rfl rfl rfl rfl rfl,
    fun _ _ _ h => h.elim,
    trivial⟩
    (cast (by kernel_rfl) h)
def S_fettlelaw21_OptnTells_6 (x1 x3 x9 : Value) (M : Store) (Q : Value → Store → Prop) : Prop :=
  OP (cvBS x1 M) fun t79 =>
  OP (ld 4 true x3 M) fun t81 =>
  R F.fettleref10_Options #[t81] M fun t82 M1 =>
  TDj [3] [M.n, M.n, M.n, M.n, M.n] M M1 ∧
  OP (bldL (.string ⟨#[]⟩) 1 3 [(0, t79), (1, x9), (2, t82)]) fun c =>
  LT (.slice (some ⟨M1.n, 0, none⟩) 3 3) (M1.push (some (.inl (c, Ty.string, true)))) fun t83 M2 =>
  OP (lenV t83) fun t84 =>
  P_fettlelaw21_OptnTells_8 x3 t83 t84 (.int .i64 0) M2 Q
theorem T_fettlelaw21_OptnTells_6 {x1 x3 x9 : Value} {M : Store} {Q : Value → Store → Prop} (h : S_fettlelaw21_OptnTells_6 x1 x3 x9 M Q) : P_fettlelaw21_OptnTells_6 x1 x3 x9 M Q := by
  intro f h1 h3 h9; subst h1; subst h3; subst h9
  unfold At
  exact rule (B := 1000) (N := 145) (ct := (.two (.two .no (.two (.here 1000) .no)) (.here 1001)))
    [⟨1002, fun a M => dfr a.defers (P_fettlelaw21_OptnTells_8 (a.get 3) (a.get 83) (a.get 84) (a.get 85) M Q), fun a M => At Tryd.prog Ex none Tryd.f4 [1, 1, 1, 1, 1, 1, 0, 1, 0] a M Q⟩,
    ⟨1003, fun _ _ => False, fun a M => At Tryd.prog Ex none Tryd.f4 [1, 1, 1, 1, 1, 1, 1] a M Q⟩]
    [1000, 1001] [] (by kernel_rfl) (by kernel_rfl) (by kernel_rfl) (by kernel_rfl) (by kernel_rfl)
    ⟨fun a M hn h => by obtain ⟨⟨n, f⟩, ds⟩ := a; have hn : n = 145 := hn; subst hn; obtain ⟨hd, h⟩ := dfr_iff h; have hd : ds = [] := hd; subst hd; exact h f rfl rfl rfl rfl,
    fun _ _ _ h => h.elim,
    trivial⟩
    (cast (by kernel_rfl) h)
def S_fettlelaw21_OptnTells_7 (x1 x2 x3 x9 x10 : Value) (M : Store) (Q : Value → Store → Prop) : Prop :=
  OP (bldL (.string ⟨#[]⟩) 1 16 [(0, (.string ⟨#[100, 114, 121]⟩)), (1, (.string ⟨#[102, 97, 115, 116]⟩)), (2, (.string ⟨#[99, 108, 101, 97, 110]⟩)), (3, (.string ⟨#[116, 111]⟩)), (4, (.string ⟨#[97]⟩)), (5, (.string ⟨#[98]⟩)), (6, (.string ⟨#[120, 46, 111]⟩)), (7, (.string ⟨#[]⟩)), (8, (.string ⟨#[65]⟩)), (9, (.string ⟨#[100, 114, 121]⟩)), (10, (.string ⟨#[116, 111]⟩)), (11, (.string ⟨#[102, 97, 115, 116]⟩)), (12, (.string ⟨#[116, 111]⟩)), (13, (.string ⟨#[99]⟩)), (14, (.string ⟨#[100]⟩)), (15, (.string ⟨#[101]⟩))]) fun c =>
  LT (.slice (some ⟨M.n, 0, none⟩) 16 16) (M.push (some (.inl (c, Ty.string, true)))) fun t69 M1 =>
  OP (ixA 1 x2 x10) fun t72 =>
  OP (ld 1 false t72 M1) fun t73 =>
  OP (binI .and t73 (.int .i64 15)) fun t74 =>
  OP (ixA 1 t69 t74) fun t75 =>
  OP (ld 1 false t75 M1) fun t76 =>
  OP (binS .add x9 t76) fun t77 =>
  P_fettlelaw21_OptnTells_9 x1 x2 x3 t77 x10 M1 Q
theorem T_fettlelaw21_OptnTells_7 {x1 x2 x3 x9 x10 : Value} {M : Store} {Q : Value → Store → Prop} (h : S_fettlelaw21_OptnTells_7 x1 x2 x3 x9 x10 M Q) : P_fettlelaw21_OptnTells_7 x1 x2 x3 x9 x10 M Q := by
  intro f h1 h2 h3 h9 h10; subst h1; subst h2; subst h3; subst h9; subst h10
  unfold At
  exact rule (B := 1000) (N := 145) (ct := .no)
    [⟨0, fun a M => dfr a.defers (P_fettlelaw21_OptnTells_9 (a.get 1) (a.get 2) (a.get 3) (a.get 9) (a.get 10) M Q), fun a M => At Tryd.prog Ex none Tryd.f4 [1, 1, 1, 1, 1, 0, 1, 0, 0, 1, 1] a M Q⟩]
    [] [0] (by kernel_rfl) (by kernel_rfl) (by kernel_rfl) (by kernel_rfl) (by kernel_rfl)
    ⟨fun a M hn h => by obtain ⟨⟨n, f⟩, ds⟩ := a; have hn : n = 145 := hn; subst hn; obtain ⟨hd, h⟩ := dfr_iff h; have hd : ds = [] := hd; subst hd; exact h f rfl rfl rfl rfl rfl,
    trivial⟩
    (cast (by kernel_rfl) h)
def S_fettlelaw21_OptnTells_8 (x3 x83 x84 x85 : Value) (M : Store) (Q : Value → Store → Prop) : Prop :=
  OP (binI .lss x85 x84) fun t86 =>
  BR t86 (
  P_fettlelaw21_OptnTells_10 x3 x83 x84 x85 M Q
  ) (
  P_fettlelaw21_OptnTells_11 x3 M Q
  )
theorem T_fettlelaw21_OptnTells_8 {x3 x83 x84 x85 : Value} {M : Store} {Q : Value → Store → Prop} (h : S_fettlelaw21_OptnTells_8 x3 x83 x84 x85 M Q) : P_fettlelaw21_OptnTells_8 x3 x83 x84 x85 M Q := by
  intro f h3 h83 h84 h85; subst h3; subst h83; subst h84; subst h85
  unfold At
  refine cast (by kernel_rfl) (CW.loop (P := Tryd.prog) (E := Ex) (rd := none) (x := sub (bodyOf Tryd.f4) [1, 1, 1, 1, 1, 1, 0, 1, 0, 0]) (a := ⟨⟨145, f⟩, []⟩) (M := M) (K := kcont Tryd.prog Ex none (bodyOf Tryd.f4) [1, 1, 1, 1, 1, 1, 0, 1, 0] (kfin Tryd.prog Tryd.f4.results.toList Q)) ?_)
  exact rule (B := 1000) (N := 145) (ct := (.two .no (.two .no (.here 1000))))
    [⟨1002, fun a M => dfr a.defers (P_fettlelaw21_OptnTells_10 (a.get 3) (a.get 83) (a.get 84) (a.get 85) M Q), fun a M => At Tryd.prog Ex none Tryd.f4 [1, 1, 1, 1, 1, 1, 0, 1, 0, 0, 1, 1] a M Q⟩,
    ⟨6, fun a M => dfr a.defers (P_fettlelaw21_OptnTells_11 (a.get 3) M Q), fun a M => At Tryd.prog Ex none Tryd.f4 [1, 1, 1, 1, 1, 1, 1] a M Q⟩]
    [1000] [6] (by kernel_rfl) (by kernel_rfl) (by kernel_rfl) (by kernel_rfl) (by kernel_rfl)
    ⟨fun a M hn h => by obtain ⟨⟨n, f⟩, ds⟩ := a; have hn : n = 145 := hn; subst hn; obtain ⟨hd, h⟩ := dfr_iff h; have hd : ds = [] := hd; subst hd; exact h f rfl rfl rfl rfl,
    fun a M hn h => by obtain ⟨⟨n, f⟩, ds⟩ := a; have hn : n = 145 := hn; subst hn; obtain ⟨hd, h⟩ := dfr_iff h; have hd : ds = [] := hd; subst hd; exact h f rfl,
    trivial⟩
    (cast (by kernel_rfl) h)
def S_fettlelaw21_OptnTells_9 (x1 x2 x3 x9 x10 : Value) (M : Store) (Q : Value → Store → Prop) : Prop :=
  OP (binI .add x10 (.int .i64 1)) fun t54 =>
  P_fettlelaw21_OptnTells_4 x1 x2 x3 x9 t54 M Q
theorem T_fettlelaw21_OptnTells_9 {x1 x2 x3 x9 x10 : Value} {M : Store} {Q : Value → Store → Prop} (h : S_fettlelaw21_OptnTells_9 x1 x2 x3 x9 x10 M Q) : P_fettlelaw21_OptnTells_9 x1 x2 x3 x9 x10 M Q := by
  intro f h1 h2 h3 h9 h10; subst h1; subst h2; subst h3; subst h9; subst h10
  unfold At
  exact rule (B := 1000) (N := 145) (ct := .no)
    [⟨0, fun a M => dfr a.defers (P_fettlelaw21_OptnTells_4 (a.get 1) (a.get 2) (a.get 3) (a.get 9) (a.get 10) M Q), fun a M => At Tryd.prog Ex none Tryd.f4 [1, 1, 1, 1, 1, 0, 1, 0] a M Q⟩]
    [] [0] (by kernel_rfl) (by kernel_rfl) (by kernel_rfl) (by kernel_rfl) (by kernel_rfl)
    ⟨fun a M hn h => by obtain ⟨⟨n, f⟩, ds⟩ := a; have hn : n = 145 := hn; subst hn; obtain ⟨hd, h⟩ := dfr_iff h; have hd : ds = [] := hd; subst hd; exact h f rfl rfl rfl rfl rfl,
    trivial⟩
    (cast (by kernel_rfl) h)
def S_fettlelaw21_OptnTells_10 (x3 x83 x84 x85 : Value) (M : Store) (Q : Value → Store → Prop) : Prop :=
  OP (ixA 1 x83 x85) fun t87 =>
  OP (ld 1 false t87 M) fun t88 =>
  R F.optn_Parse #[t88] M fun t91 M1 =>
  OP (tup t91 0) fun t92 =>
  OP (tup t91 1) fun t93 =>
  LT (.pointer (some ⟨M1.n, 0, none⟩)) (M1.push (some (.inl ([(.bool false), (.bool false), (.bool false), (.slice none 0 0)], Ty.api_Options, true)))) fun t13 M2 =>
  OP (st 4 t13 t92 M2) fun M3 =>
  BR t93 (
  OP (ld 4 true t13 M3) fun t96 =>
  R F.fettleref10_Options #[t96] M3 fun t97 M4 =>
  OP (binS .neq t97 t88) fun t99 =>
  BR t99 (
  NTs [(.bool false)] ∧ Q (.bool false) M4
  ) (
  OP (aun .not t93) fun t103 =>
  BR3 t103 (
  OP (ld 4 true t13 M4) fun t105 =>
  OP (bldS #[(.bool false), (.bool false), (.bool false), (.slice none 0 0)] [(0, 1), (1, 1), (2, 1), (3, 1)] []) fun t106 =>
  R F.fettlelaw21_same #[t105, t106] M4 fun t107 M5 =>
  OP (aun .not t107) fun t108 =>
  BR t108 (
  NTs [(.bool false)] ∧ Q (.bool false) M5
  ) (
  OP (binI .add x85 (.int .i64 1)) fun t111 =>
  P_fettlelaw21_OptnTells_8 x3 x83 x84 t111 M5 Q
  )
  ) (
  OP (binI .add x85 (.int .i64 1)) fun t111_1 =>
  P_fettlelaw21_OptnTells_8 x3 x83 x84 t111_1 M4 Q
  ) (
  BR t103 (
  BR undef (
  NTs [(.bool false)] ∧ Q (.bool false) M4
  ) (
  OP (binI .add x85 (.int .i64 1)) fun t111_2 =>
  P_fettlelaw21_OptnTells_8 x3 x83 x84 t111_2 M4 Q
  )
  ) (
  OP (binI .add x85 (.int .i64 1)) fun t111_3 =>
  P_fettlelaw21_OptnTells_8 x3 x83 x84 t111_3 M4 Q
  )
  )
  )
  ) (
  OP (aun .not t93) fun t103_1 =>
  BR3 t103_1 (
  OP (ld 4 true t13 M3) fun t105_1 =>
  OP (bldS #[(.bool false), (.bool false), (.bool false), (.slice none 0 0)] [(0, 1), (1, 1), (2, 1), (3, 1)] []) fun t106_1 =>
  R F.fettlelaw21_same #[t105_1, t106_1] M3 fun t107_1 M6 =>
  OP (aun .not t107_1) fun t108_1 =>
  BR t108_1 (
  NTs [(.bool false)] ∧ Q (.bool false) M6
  ) (
  OP (binI .add x85 (.int .i64 1)) fun t111_4 =>
  P_fettlelaw21_OptnTells_8 x3 x83 x84 t111_4 M6 Q
  )
  ) (
  OP (binI .add x85 (.int .i64 1)) fun t111_5 =>
  P_fettlelaw21_OptnTells_8 x3 x83 x84 t111_5 M3 Q
  ) (
  BR t103_1 (
  BR undef (
  NTs [(.bool false)] ∧ Q (.bool false) M3
  ) (
  OP (binI .add x85 (.int .i64 1)) fun t111_6 =>
  P_fettlelaw21_OptnTells_8 x3 x83 x84 t111_6 M3 Q
  )
  ) (
  OP (binI .add x85 (.int .i64 1)) fun t111_7 =>
  P_fettlelaw21_OptnTells_8 x3 x83 x84 t111_7 M3 Q
  )
  )
  )
theorem T_fettlelaw21_OptnTells_10 {x3 x83 x84 x85 : Value} {M : Store} {Q : Value → Store → Prop} (h : S_fettlelaw21_OptnTells_10 x3 x83 x84 x85 M Q) : P_fettlelaw21_OptnTells_10 x3 x83 x84 x85 M Q := by
  intro f h3 h83 h84 h85; subst h3; subst h83; subst h84; subst h85
  unfold At
  exact rule (B := 1000) (N := 145) (ct := .no)
    [⟨0, fun a M => dfr a.defers (P_fettlelaw21_OptnTells_8 (a.get 3) (a.get 83) (a.get 84) (a.get 85) M Q), fun a M => At Tryd.prog Ex none Tryd.f4 [1, 1, 1, 1, 1, 1, 0, 1, 0] a M Q⟩,
    ⟨1, fun a M => kfin Tryd.prog Tryd.f4.results.toList Q 1 a M, fun a M => kfin Tryd.prog Tryd.f4.results.toList Q 1 a M⟩]
    [] [0, 1] (by kernel_rfl) (by kernel_rfl) (by kernel_rfl) (by kernel_rfl) (by kernel_rfl)
    ⟨fun a M hn h => by obtain ⟨⟨n, f⟩, ds⟩ := a; have hn : n = 145 := hn; subst hn; obtain ⟨hd, h⟩ := dfr_iff h; have hd : ds = [] := hd; subst hd; exact h f rfl rfl rfl rfl,
    fun _ _ _ h => h,
    trivial⟩
    (cast (by kernel_rfl) h)
def S_fettlelaw21_OptnTells_11 (x3 : Value) (M : Store) (Q : Value → Store → Prop) : Prop :=
  OP (ld 4 true x3 M) fun t113 =>
  R F.fettleref10_Options #[t113] M fun t114 M1 =>
  R F.optn_Parse #[t114] M1 fun t115 M2 =>
  OP (tup t115 0) fun t116 =>
  OP (tup t115 1) fun t117 =>
  LT (.pointer (some ⟨M2.n, 0, none⟩)) (M2.push (some (.inl ([(.bool false), (.bool false), (.bool false), (.slice none 0 0)], Ty.api_Options, true)))) fun t15 M3 =>
  OP (st 4 t15 t116 M3) fun M4 =>
  OP (ld 4 true x3 M4) fun t118 =>
  OP (bldS #[(.bool false), (.bool false), (.bool false), (.slice none 0 0)] [(0, 1), (1, 1), (2, 1), (3, 1)] []) fun t119 =>
  R F.fettlelaw21_same #[t118, t119] M4 fun t120 M5 =>
  OP (ld 4 true x3 M5) fun t121 =>
  R F.fettleref10_Options #[t121] M5 fun t122 M6 =>
  OP (binS .neq t122 (.string ⟨#[]⟩)) fun t123 =>
  BR t123 (
  BR t117 (
  OP (ld 4 true t15 M6) fun t129 =>
  OP (ld 4 true x3 M6) fun t130 =>
  R F.fettlelaw21_same #[t129, t130] M6 fun t131 M7 =>
  BR t131 (
  R F.fettlelaw21_awake #[] M7 fun t134 M8 =>
  NTs [t134] ∧ Q t134 M8
  ) (
  NTs [(.bool false)] ∧ Q (.bool false) M7
  )
  ) (
  NTs [(.bool false)] ∧ Q (.bool false) M6
  )
  ) (
  BR t120 (
  BR t117 (
  OP (ld 4 true t15 M6) fun t129_1 =>
  OP (ld 4 true x3 M6) fun t130_1 =>
  R F.fettlelaw21_same #[t129_1, t130_1] M6 fun t131_1 M9 =>
  BR t131_1 (
  R F.fettlelaw21_awake #[] M9 fun t134_1 M10 =>
  NTs [t134_1] ∧ Q t134_1 M10
  ) (
  NTs [(.bool false)] ∧ Q (.bool false) M9
  )
  ) (
  NTs [(.bool false)] ∧ Q (.bool false) M6
  )
  ) (
  BR t117 (
  OP (ld 4 true t15 M6) fun t138 =>
  OP (bldS #[(.bool false), (.bool false), (.bool false), (.slice none 0 0)] [(0, 1), (1, 1), (2, 1), (3, 1)] []) fun t139 =>
  R F.fettlelaw21_same #[t138, t139] M6 fun t140 M11 =>
  BR t140 (
  R F.fettlelaw21_awake #[] M11 fun t143 M12 =>
  NTs [t143] ∧ Q t143 M12
  ) (
  NTs [(.bool false)] ∧ Q (.bool false) M11
  )
  ) (
  NTs [(.bool false)] ∧ Q (.bool false) M6
  )
  )
  )
theorem T_fettlelaw21_OptnTells_11 {x3 : Value} {M : Store} {Q : Value → Store → Prop} (h : S_fettlelaw21_OptnTells_11 x3 M Q) : P_fettlelaw21_OptnTells_11 x3 M Q := by
  intro f h3; subst h3
  unfold At
  exact rule (B := 1000) (N := 145) (ct := .no)
    [⟨1, fun a M => kfin Tryd.prog Tryd.f4.results.toList Q 1 a M, fun a M => kfin Tryd.prog Tryd.f4.results.toList Q 1 a M⟩]
    [] [1] (by kernel_rfl) (by kernel_rfl) (by kernel_rfl) (by kernel_rfl) (by kernel_rfl)
    ⟨fun _ _ _ h => h,
    trivial⟩
    (cast (by kernel_rfl) h)
end Go.G
