/-  -/
import Derived.Test.YtpacolplhcfamaaPGN
open Go.RowKit
namespace Go.G
open Go.Ab Go.Proofs
set_option linter.unusedVariables false
set_option maxRecDepth 100000
def P_fettlelaw10_PrntTells_1 (x0 x1 x2 x3 x4 x5 x45 x46 : Value) (M : Store) (Q : Value → Store → Prop) : Prop :=
  ∀ f : Nat → Value, f 0 = x0 → f 1 = x1 → f 2 = x2 → f 3 = x3 → f 4 = x4 → f 5 = x5 → f 45 = x45 → f 46 = x46 → At Try.prog Ex none Try.f5 [1, 1, 0, 1, 0] ⟨⟨178, f⟩, []⟩ M Q
def P_fettlelaw10_PrntTells_2 (x0 x1 x2 x3 x4 x5 x45 x46 : Value) (M : Store) (Q : Value → Store → Prop) : Prop :=
  ∀ f : Nat → Value, f 0 = x0 → f 1 = x1 → f 2 = x2 → f 3 = x3 → f 4 = x4 → f 5 = x5 → f 45 = x45 → f 46 = x46 → At Try.prog Ex none Try.f5 [1, 1, 0, 1, 0, 0, 1, 1] ⟨⟨178, f⟩, []⟩ M Q
def P_fettlelaw10_PrntTells_3 (x0 x1 x2 x3 x4 x5 : Value) (M : Store) (Q : Value → Store → Prop) : Prop :=
  ∀ f : Nat → Value, f 0 = x0 → f 1 = x1 → f 2 = x2 → f 3 = x3 → f 4 = x4 → f 5 = x5 → At Try.prog Ex none Try.f5 [1, 1, 1] ⟨⟨178, f⟩, []⟩ M Q
def P_fettlelaw10_PrntTells_4 (x0 x1 x2 x3 x4 x5 x59 x60 : Value) (M : Store) (Q : Value → Store → Prop) : Prop :=
  ∀ f : Nat → Value, f 0 = x0 → f 1 = x1 → f 2 = x2 → f 3 = x3 → f 4 = x4 → f 5 = x5 → f 59 = x59 → f 60 = x60 → At Try.prog Ex none Try.f5 [1, 1, 1, 0, 1, 0] ⟨⟨178, f⟩, []⟩ M Q
def P_fettlelaw10_PrntTells_5 (x0 x1 x2 x3 x4 x5 x59 x60 : Value) (M : Store) (Q : Value → Store → Prop) : Prop :=
  ∀ f : Nat → Value, f 0 = x0 → f 1 = x1 → f 2 = x2 → f 3 = x3 → f 4 = x4 → f 5 = x5 → f 59 = x59 → f 60 = x60 → At Try.prog Ex none Try.f5 [1, 1, 1, 0, 1, 0, 0, 1, 1] ⟨⟨178, f⟩, []⟩ M Q
def P_fettlelaw10_PrntTells_6 (x0 x1 x2 x3 x4 x5 : Value) (M : Store) (Q : Value → Store → Prop) : Prop :=
  ∀ f : Nat → Value, f 0 = x0 → f 1 = x1 → f 2 = x2 → f 3 = x3 → f 4 = x4 → f 5 = x5 → At Try.prog Ex none Try.f5 [1, 1, 1, 1] ⟨⟨178, f⟩, []⟩ M Q
def P_fettlelaw10_PrntTells_7 (x121 x122 x123 : Value) (M : Store) (Q : Value → Store → Prop) : Prop :=
  ∀ f : Nat → Value, f 121 = x121 → f 122 = x122 → f 123 = x123 → At Try.prog Ex none Try.f5 [1, 1, 1, 1, 1, 1, 1, 1, 1, 0, 1, 0] ⟨⟨178, f⟩, []⟩ M Q
def P_fettlelaw10_PrntTells_8 (x121 x122 x123 : Value) (M : Store) (Q : Value → Store → Prop) : Prop :=
  ∀ f : Nat → Value, f 121 = x121 → f 122 = x122 → f 123 = x123 → At Try.prog Ex none Try.f5 [1, 1, 1, 1, 1, 1, 1, 1, 1, 0, 1, 0, 0, 1, 1] ⟨⟨178, f⟩, []⟩ M Q
def P_fettlelaw10_PrntTells_9 (M : Store) (Q : Value → Store → Prop) : Prop :=
  ∀ f : Nat → Value, At Try.prog Ex none Try.f5 [1, 1, 1, 1, 1, 1, 1, 1, 1, 1] ⟨⟨178, f⟩, []⟩ M Q
def S_fettlelaw10_PrntTells (x0 x1 x2 x3 x4 x5 : Value) (M : Store) (Q : Value → Store → Prop) : Prop :=
  OP (lenV x0) fun t31 =>
  OP (binI .gtr t31 (.int .i64 12)) fun t32 =>
  BR t32 (
  R F.fettlelaw10_awake #[] M fun t43 M1 =>
  NTs [t43] ∧ Q t43 M1
  ) (
  OP (lenV x2) fun t35 =>
  OP (binI .gtr t35 (.int .i64 9)) fun t36 =>
  BR t36 (
  R F.fettlelaw10_awake #[] M fun t43_1 M2 =>
  NTs [t43_1] ∧ Q t43_1 M2
  ) (
  OP (lenV x3) fun t40 =>
  OP (binI .gtr t40 (.int .i64 300)) fun t41 =>
  BR t41 (
  R F.fettlelaw10_awake #[] M fun t43_2 M3 =>
  NTs [t43_2] ∧ Q t43_2 M3
  ) (
  OP (lenV x0) fun t45 =>
  P_fettlelaw10_PrntTells_1 x0 x1 x2 x3 x4 x5 t45 (.int .i64 0) M Q
  )
  )
  )
theorem T_fettlelaw10_PrntTells {x0 x1 x2 x3 x4 x5 : Value} {M : Store} {Q : Value → Store → Prop} (h : S_fettlelaw10_PrntTells x0 x1 x2 x3 x4 x5 M Q) : R F.fettlelaw10_PrntTells #[x0, x1, x2, x3, x4, x5] M Q := by
  refine runs_of (c := bodyOf Try.f5) Try.func5 rfl (by kernel_rfl) (by kernel_rfl) ?_
  unfold At
  exact rule (B := 1000) (N := 178) (ct := (.two .no (.two .no (.two (.two .no (.two (.here 1000) .no)) (.here 1001)))))
    [⟨1002, fun a M => dfr a.defers (P_fettlelaw10_PrntTells_1 (a.get 0) (a.get 1) (a.get 2) (a.get 3) (a.get 4) (a.get 5) (a.get 45) (a.get 46) M Q), fun a M => At Try.prog Ex none Try.f5 [1, 1, 0, 1, 0] a M Q⟩,
    ⟨1003, fun _ _ => False, fun a M => At Try.prog Ex none Try.f5 [1, 1, 1] a M Q⟩,
    ⟨1, fun a M => kfin Try.prog Try.f5.results.toList Q 1 a M, fun a M => kfin Try.prog Try.f5.results.toList Q 1 a M⟩]
    [1000, 1001] [1] (by kernel_rfl) (by kernel_rfl) (by kernel_rfl) (by kernel_rfl) (by kernel_rfl)
    ⟨fun a M hn h => by obtain ⟨⟨n, f⟩, ds⟩ := a; have hn : n = 178 := hn; subst hn; obtain ⟨hd, h⟩ := dfr_iff h; have hd : ds = [] := hd; subst hd; exact h f rfl rfl rfl rfl rfl rfl rfl rfl,
    fun _ _ _ h => h.elim,
    fun _ _ _ h => h,
    trivial⟩
    (cast (by kernel_rfl) h)
def S_fettlelaw10_PrntTells_1 (x0 x1 x2 x3 x4 x5 x45 x46 : Value) (M : Store) (Q : Value → Store → Prop) : Prop :=
  OP (binI .lss x46 x45) fun t47 =>
  BR t47 (
  P_fettlelaw10_PrntTells_2 x0 x1 x2 x3 x4 x5 x45 x46 M Q
  ) (
  P_fettlelaw10_PrntTells_3 x0 x1 x2 x3 x4 x5 M Q
  )
theorem T_fettlelaw10_PrntTells_1 {x0 x1 x2 x3 x4 x5 x45 x46 : Value} {M : Store} {Q : Value → Store → Prop} (h : S_fettlelaw10_PrntTells_1 x0 x1 x2 x3 x4 x5 x45 x46 M Q) : P_fettlelaw10_PrntTells_1 x0 x1 x2 x3 x4 x5 x45 x46 M Q := by
  intro f h0 h1 h2 h3 h4 h5 h45 h46; subst h0; subst h1; subst h2; subst h3; subst h4; subst h5; subst h45; subst h46
  unfold At
  refine cast (by kernel_rfl) (CW.loop (P := Try.prog) (E := Ex) (rd := none) (x := sub (bodyOf Try.f5) [1, 1, 0, 1, 0, 0]) (a := ⟨⟨178, f⟩, []⟩) (M := M) (K := kcont Try.prog Ex none (bodyOf Try.f5) [1, 1, 0, 1, 0] (kfin Try.prog Try.f5.results.toList Q)) ?_)
  exact rule (B := 1000) (N := 178) (ct := (.two .no (.two .no (.here 1000))))
    [⟨1002, fun a M => dfr a.defers (P_fettlelaw10_PrntTells_2 (a.get 0) (a.get 1) (a.get 2) (a.get 3) (a.get 4) (a.get 5) (a.get 45) (a.get 46) M Q), fun a M => At Try.prog Ex none Try.f5 [1, 1, 0, 1, 0, 0, 1, 1] a M Q⟩,
    ⟨2, fun a M => dfr a.defers (P_fettlelaw10_PrntTells_3 (a.get 0) (a.get 1) (a.get 2) (a.get 3) (a.get 4) (a.get 5) M Q), fun a M => At Try.prog Ex none Try.f5 [1, 1, 1] a M Q⟩]
    [1000] [2] (by kernel_rfl) (by kernel_rfl) (by kernel_rfl) (by kernel_rfl) (by kernel_rfl)
    ⟨fun a M hn h => by obtain ⟨⟨n, f⟩, ds⟩ := a; have hn : n = 178 := hn; subst hn; obtain ⟨hd, h⟩ := dfr_iff h; have hd : ds = [] := hd; subst hd; exact h f rfl rfl rfl rfl rfl rfl rfl rfl,
    fun a M hn h => by obtain ⟨⟨n, f⟩, ds⟩ := a; have hn : n = 178 := hn; subst hn; obtain ⟨hd, h⟩ := dfr_iff h; have hd : ds = [] := hd; subst hd; exact h f rfl rfl rfl rfl rfl rfl,
    trivial⟩
    (cast (by kernel_rfl) h)
def S_fettlelaw10_PrntTells_2 (x0 x1 x2 x3 x4 x5 x45 x46 : Value) (M : Store) (Q : Value → Store → Prop) : Prop :=
  OP (ixA 3 x0 x46) fun t51 =>
  OP (fad 2 t51) fun t52 =>
  OP (ld 1 false t52 M) fun t53 =>
  OP (lenS t53) fun t54 =>
  OP (binI .gtr t54 (.int .i64 100)) fun t55 =>
  BR t55 (
  R F.fettlelaw10_awake #[] M fun t56 M1 =>
  NTs [t56] ∧ Q t56 M1
  ) (
  OP (binI .add x46 (.int .i64 1)) fun t57 =>
  P_fettlelaw10_PrntTells_1 x0 x1 x2 x3 x4 x5 x45 t57 M Q
  )
theorem T_fettlelaw10_PrntTells_2 {x0 x1 x2 x3 x4 x5 x45 x46 : Value} {M : Store} {Q : Value → Store → Prop} (h : S_fettlelaw10_PrntTells_2 x0 x1 x2 x3 x4 x5 x45 x46 M Q) : P_fettlelaw10_PrntTells_2 x0 x1 x2 x3 x4 x5 x45 x46 M Q := by
  intro f h0 h1 h2 h3 h4 h5 h45 h46; subst h0; subst h1; subst h2; subst h3; subst h4; subst h5; subst h45; subst h46
  unfold At
  exact rule (B := 1000) (N := 178) (ct := .no)
    [⟨0, fun a M => dfr a.defers (P_fettlelaw10_PrntTells_1 (a.get 0) (a.get 1) (a.get 2) (a.get 3) (a.get 4) (a.get 5) (a.get 45) (a.get 46) M Q), fun a M => At Try.prog Ex none Try.f5 [1, 1, 0, 1, 0] a M Q⟩,
    ⟨1, fun a M => kfin Try.prog Try.f5.results.toList Q 1 a M, fun a M => kfin Try.prog Try.f5.results.toList Q 1 a M⟩]
    [] [0, 1] (by kernel_rfl) (by kernel_rfl) (by kernel_rfl) (by kernel_rfl) (by kernel_rfl)
    ⟨fun a M hn h => by obtain ⟨⟨n, f⟩, ds⟩ := a; have hn : n = 178 := hn; subst hn; obtain ⟨hd, h⟩ := dfr_iff h; have hd : ds = [] := hd; subst hd; exact h f rfl rfl rfl rfl rfl rfl rfl rfl,
    fun _ _ _ h => h,
    trivial⟩
    (cast (by kernel_rfl) h)
def S_fettlelaw10_PrntTells_3 (x0 x1 x2 x3 x4 x5 : Value) (M : Store) (Q : Value → Store → Prop) : Prop :=
  OP (lenV x2) fun t59 =>
  P_fettlelaw10_PrntTells_4 x0 x1 x2 x3 x4 x5 t59 (.int .i64 0) M Q
theorem T_fettlelaw10_PrntTells_3 {x0 x1 x2 x3 x4 x5 : Value} {M : Store} {Q : Value → Store → Prop} (h : S_fettlelaw10_PrntTells_3 x0 x1 x2 x3 x4 x5 M Q) : P_fettlelaw10_PrntTells_3 x0 x1 x2 x3 x4 x5 M Q := by
  intro f h0 h1 h2 h3 h4 h5; subst h0; subst h1; subst h2; subst h3; subst h4; subst h5
  unfold At
  exact rule (B := 1000) (N := 178) (ct := (.two (.two .no (.two (.here 1000) .no)) (.here 1001)))
    [⟨1002, fun a M => dfr a.defers (P_fettlelaw10_PrntTells_4 (a.get 0) (a.get 1) (a.get 2) (a.get 3) (a.get 4) (a.get 5) (a.get 59) (a.get 60) M Q), fun a M => At Try.prog Ex none Try.f5 [1, 1, 1, 0, 1, 0] a M Q⟩,
    ⟨1003, fun _ _ => False, fun a M => At Try.prog Ex none Try.f5 [1, 1, 1, 1] a M Q⟩]
    [1000, 1001] [] (by kernel_rfl) (by kernel_rfl) (by kernel_rfl) (by kernel_rfl) (by kernel_rfl)
    ⟨fun a M hn h => by obtain ⟨⟨n, f⟩, ds⟩ := a; have hn : n = 178 := hn; subst hn; obtain ⟨hd, h⟩ := dfr_iff h; have hd : ds = [] := hd; subst hd; exact h f rfl rfl rfl rfl rfl rfl rfl rfl,
    fun _ _ _ h => h.elim,
    trivial⟩
    (cast (by kernel_rfl) h)
def S_fettlelaw10_PrntTells_4 (x0 x1 x2 x3 x4 x5 x59 x60 : Value) (M : Store) (Q : Value → Store → Prop) : Prop :=
  OP (binI .lss x60 x59) fun t61 =>
  BR t61 (
  P_fettlelaw10_PrntTells_5 x0 x1 x2 x3 x4 x5 x59 x60 M Q
  ) (
  P_fettlelaw10_PrntTells_6 x0 x1 x2 x3 x4 x5 M Q
  )
theorem T_fettlelaw10_PrntTells_4 {x0 x1 x2 x3 x4 x5 x59 x60 : Value} {M : Store} {Q : Value → Store → Prop} (h : S_fettlelaw10_PrntTells_4 x0 x1 x2 x3 x4 x5 x59 x60 M Q) : P_fettlelaw10_PrntTells_4 x0 x1 x2 x3 x4 x5 x59 x60 M Q := by
  intro f h0 h1 h2 h3 h4 h5 h59 h60; subst h0; subst h1; subst h2; subst h3; subst h4; subst h5; subst h59; subst h60
  unfold At
  refine cast (by kernel_rfl) (CW.loop (P := Try.prog) (E := Ex) (rd := none) (x := sub (bodyOf Try.f5) [1, 1, 1, 0, 1, 0, 0]) (a := ⟨⟨178, f⟩, []⟩) (M := M) (K := kcont Try.prog Ex none (bodyOf Try.f5) [1, 1, 1, 0, 1, 0] (kfin Try.prog Try.f5.results.toList Q)) ?_)
  exact rule (B := 1000) (N := 178) (ct := (.two .no (.two .no (.here 1000))))
    [⟨1002, fun a M => dfr a.defers (P_fettlelaw10_PrntTells_5 (a.get 0) (a.get 1) (a.get 2) (a.get 3) (a.get 4) (a.get 5) (a.get 59) (a.get 60) M Q), fun a M => At Try.prog Ex none Try.f5 [1, 1, 1, 0, 1, 0, 0, 1, 1] a M Q⟩,
    ⟨4, fun a M => dfr a.defers (P_fettlelaw10_PrntTells_6 (a.get 0) (a.get 1) (a.get 2) (a.get 3) (a.get 4) (a.get 5) M Q), fun a M => At Try.prog Ex none Try.f5 [1, 1, 1, 1] a M Q⟩]
    [1000] [4] (by kernel_rfl) (by kernel_rfl) (by kernel_rfl) (by kernel_rfl) (by kernel_rfl)
    ⟨fun a M hn h => by obtain ⟨⟨n, f⟩, ds⟩ := a; have hn : n = 178 := hn; subst hn; obtain ⟨hd, h⟩ := dfr_iff h; have hd : ds = [] := hd; subst hd; exact h f rfl rfl rfl rfl rfl rfl rfl rfl,
    fun a M hn h => by obtain ⟨⟨n, f⟩, ds⟩ := a; have hn : n = 178 := hn; subst hn; obtain ⟨hd, h⟩ := dfr_iff h; have hd : ds = [] := hd; subst hd; exact h f rfl rfl rfl rfl rfl rfl,
    trivial⟩
    (cast (by kernel_rfl) h)
def S_fettlelaw10_PrntTells_5 (x0 x1 x2 x3 x4 x5 x59 x60 : Value) (M : Store) (Q : Value → Store → Prop) : Prop :=
  OP (ixA 1 x2 x60) fun t65 =>
  OP (ld 1 false t65 M) fun t66 =>
  OP (lenV t66) fun t67 =>
  OP (binI .gtr t67 (.int .i64 280)) fun t68 =>
  BR t68 (
  R F.fettlelaw10_awake #[] M fun t69 M1 =>
  NTs [t69] ∧ Q t69 M1
  ) (
  OP (binI .add x60 (.int .i64 1)) fun t70 =>
  P_fettlelaw10_PrntTells_4 x0 x1 x2 x3 x4 x5 x59 t70 M Q
  )
theorem T_fettlelaw10_PrntTells_5 {x0 x1 x2 x3 x4 x5 x59 x60 : Value} {M : Store} {Q : Value → Store → Prop} (h : S_fettlelaw10_PrntTells_5 x0 x1 x2 x3 x4 x5 x59 x60 M Q) : P_fettlelaw10_PrntTells_5 x0 x1 x2 x3 x4 x5 x59 x60 M Q := by
  intro f h0 h1 h2 h3 h4 h5 h59 h60; subst h0; subst h1; subst h2; subst h3; subst h4; subst h5; subst h59; subst h60
  unfold At
  exact rule (B := 1000) (N := 178) (ct := .no)
    [⟨0, fun a M => dfr a.defers (P_fettlelaw10_PrntTells_4 (a.get 0) (a.get 1) (a.get 2) (a.get 3) (a.get 4) (a.get 5) (a.get 59) (a.get 60) M Q), fun a M => At Try.prog Ex none Try.f5 [1, 1, 1, 0, 1, 0] a M Q⟩,
    ⟨1, fun a M => kfin Try.prog Try.f5.results.toList Q 1 a M, fun a M => kfin Try.prog Try.f5.results.toList Q 1 a M⟩]
    [] [0, 1] (by kernel_rfl) (by kernel_rfl) (by kernel_rfl) (by kernel_rfl) (by kernel_rfl)
    ⟨fun a M hn h => by obtain ⟨⟨n, f⟩, ds⟩ := a; have hn : n = 178 := hn; subst hn; obtain ⟨hd, h⟩ := dfr_iff h; have hd : ds = [] := hd; subst hd; exact h f rfl rfl rfl rfl rfl rfl rfl rfl,
    fun _ _ _ h => h,
    trivial⟩
    (cast (by kernel_rfl) h)
def S_fettlelaw10_PrntTells_6 (x0 x1 x2 x3 x4 x5 : Value) (M : Store) (Q : Value → Store → Prop) : Prop :=
  R F.fettlelaw6_Act #[x1] M fun t72 M1 =>
  R F.fettleref10_Print #[t72, x2] M1 fun t74 M2 =>
  R F.fettlelaw6_Act #[x1] M2 fun t76 M3 =>
  TDj [0] [M2.n, M2.n] M2 M3 ∧
  R F.prnt_Print #[t76, x2] M3 fun t78 M4 =>
  TDj [0, 1, 2] [M2.n, M2.n, M3.n, M3.n] M3 M4 ∧
  OP (cvBS t78 M4) fun t79 =>
  OP (cvBS t74 M4) fun t81 =>
  OP (binS .neq t79 t81) fun t82 =>
  BR t82 (
  NTs [(.bool false)] ∧ Q (.bool false) M4
  ) (
  R F.prnt_Print #[x0, x2] M4 fun t86 M5 =>
  TDx [0, 1, 0, 7, 15, 0, 32, 127, 255, 511, 511, 2047, 4095, 511, 511, 28671, 61439, 131071, 262143] [M2.n, M2.n, M3.n, M3.n, M4.n, M4.n, M4.n, M4.n, M4.n, M4.n, M4.n, M4.n] 11 M4 M5 ∧
  OP (cvBS t86 M5) fun t87 =>
  R F.fettleref10_Print #[x0, x2] M5 fun t90 M6 =>
  TDj [13, 14] [M2.n, M2.n, M3.n, M3.n, M4.n, M4.n, M4.n, M4.n, M4.n, M4.n, M4.n, M4.n, M5.n, M5.n, M5.n, M5.n] M5 M6 ∧
  OP (cvBS t90 M6) fun t91 =>
  OP (binS .neq t87 t91) fun t92 =>
  BR t92 (
  NTs [(.bool false)] ∧ Q (.bool false) M6
  ) (
  OP (bldL (.int .u8 0) 1 0 []) fun c =>
  LT (.slice (some ⟨M6.n, 0, none⟩) 0 0) (M6.push (some (.inl (c, Ty.uint8, true)))) fun t94 M7 =>
  OP2 (appV 1 Ty.uint8 t94 t74 M7) fun t96 M8 =>
  OP (binI .and x4 (.int .i64 65535)) fun t98 =>
  OP (lenV t96) fun t100 =>
  OP (binI .rem t98 t100) fun t101 =>
  OP (ixA 1 t96 t101) fun t105 =>
  OP (st 1 t105 x5 M8) fun M9 =>
  OP (slV 1 Ty.uint8 t74 none (some t101) M9) fun t111 =>
  OP (bldL (.int .u8 0) 1 0 []) fun c_1 =>
  LT (.slice (some ⟨M9.n, 0, none⟩) 0 0) (M9.push (some (.inl (c_1, Ty.uint8, true)))) fun t112 M10 =>
  OP2 (appV 1 Ty.uint8 t112 t74 M10) fun t114 M11 =>
  TDj [6, 7] [M9.n, M9.n, M9.n, M9.n, M9.n, M9.n, M9.n, M10.n, M10.n] M10 M11 ∧
  OP (bldL (.int .u8 0) 1 1 [(0, x5)]) fun c_2 =>
  LT (.slice (some ⟨M11.n, 0, none⟩) 1 1) (M11.push (some (.inl (c_2, Ty.uint8, true)))) fun t116 M12 =>
  OP2 (appV 1 Ty.uint8 t114 t116 M12) fun t117 M13 =>
  TDj [6, 7, 8, 9, 10] [M9.n, M9.n, M9.n, M9.n, M9.n, M9.n, M9.n, M10.n, M10.n, M11.n, M11.n, M12.n] M12 M13 ∧
  R F.fettleref10_Print #[x0, x2] M13 fun t120 M14 =>
  TDj [6, 7, 8, 9, 10, 11, 12, 13] [M9.n, M9.n, M9.n, M9.n, M9.n, M9.n, M9.n, M10.n, M10.n, M11.n, M11.n, M12.n, M13.n, M13.n, M13.n] M13 M14 ∧
  OP (bldL (.slice none 0 0) 1 6 [(0, x3), (1, t74), (2, t96), (3, t111), (4, t117), (5, t120)]) fun c_3 =>
  LT (.slice (some ⟨M14.n, 0, none⟩) 6 6) (M14.push (some (.inl (c_3, Ty.sl_uint8, true)))) fun t121 M15 =>
  OP (lenV t121) fun t122 =>
  P_fettlelaw10_PrntTells_7 t121 t122 (.int .i64 0) M15 Q
  )
  )
theorem T_fettlelaw10_PrntTells_6 {x0 x1 x2 x3 x4 x5 : Value} {M : Store} {Q : Value → Store → Prop} (h : S_fettlelaw10_PrntTells_6 x0 x1 x2 x3 x4 x5 M Q) : P_fettlelaw10_PrntTells_6 x0 x1 x2 x3 x4 x5 M Q := by
  intro f h0 h1 h2 h3 h4 h5; subst h0; subst h1; subst h2; subst h3; subst h4; subst h5
  unfold At
  exact rule (B := 1000) (N := 178) (ct := (.two .no (.two .no (.two .no (.two .no (.two .no (.two (.two .no (.two (.here 1000) .no)) (.here 1001))))))))
    [⟨1002, fun a M => dfr a.defers (P_fettlelaw10_PrntTells_7 (a.get 121) (a.get 122) (a.get 123) M Q), fun a M => At Try.prog Ex none Try.f5 [1, 1, 1, 1, 1, 1, 1, 1, 1, 0, 1, 0] a M Q⟩,
    ⟨1003, fun _ _ => False, fun a M => At Try.prog Ex none Try.f5 [1, 1, 1, 1, 1, 1, 1, 1, 1, 1] a M Q⟩,
    ⟨1, fun a M => kfin Try.prog Try.f5.results.toList Q 1 a M, fun a M => kfin Try.prog Try.f5.results.toList Q 1 a M⟩]
    [1000, 1001] [1] (by kernel_rfl) (by kernel_rfl) (by kernel_rfl) (by kernel_rfl) (by kernel_rfl)
    ⟨fun a M hn h => by obtain ⟨⟨n, f⟩, ds⟩ := a; have hn : n = 178 := hn; subst hn; obtain ⟨hd, h⟩ := dfr_iff h; have hd : ds = [] := hd; subst hd; exact h f rfl rfl rfl,
    fun _ _ _ h => h.elim,
    fun _ _ _ h => h,
    trivial⟩
    (cast (by kernel_rfl) h)
def S_fettlelaw10_PrntTells_7 (x121 x122 x123 : Value) (M : Store) (Q : Value → Store → Prop) : Prop :=
  OP (binI .lss x123 x122) fun t124 =>
  BR t124 (
  P_fettlelaw10_PrntTells_8 x121 x122 x123 M Q
  ) (
  P_fettlelaw10_PrntTells_9 M Q
  )
theorem T_fettlelaw10_PrntTells_7 {x121 x122 x123 : Value} {M : Store} {Q : Value → Store → Prop} (h : S_fettlelaw10_PrntTells_7 x121 x122 x123 M Q) : P_fettlelaw10_PrntTells_7 x121 x122 x123 M Q := by
  intro f h121 h122 h123; subst h121; subst h122; subst h123
  unfold At
  refine cast (by kernel_rfl) (CW.loop (P := Try.prog) (E := Ex) (rd := none) (x := sub (bodyOf Try.f5) [1, 1, 1, 1, 1, 1, 1, 1, 1, 0, 1, 0, 0]) (a := ⟨⟨178, f⟩, []⟩) (M := M) (K := kcont Try.prog Ex none (bodyOf Try.f5) [1, 1, 1, 1, 1, 1, 1, 1, 1, 0, 1, 0] (kfin Try.prog Try.f5.results.toList Q)) ?_)
  exact rule (B := 1000) (N := 178) (ct := (.two .no (.two .no (.here 1000))))
    [⟨1002, fun a M => dfr a.defers (P_fettlelaw10_PrntTells_8 (a.get 121) (a.get 122) (a.get 123) M Q), fun a M => At Try.prog Ex none Try.f5 [1, 1, 1, 1, 1, 1, 1, 1, 1, 0, 1, 0, 0, 1, 1] a M Q⟩,
    ⟨6, fun a M => dfr a.defers (P_fettlelaw10_PrntTells_9 M Q), fun a M => At Try.prog Ex none Try.f5 [1, 1, 1, 1, 1, 1, 1, 1, 1, 1] a M Q⟩]
    [1000] [6] (by kernel_rfl) (by kernel_rfl) (by kernel_rfl) (by kernel_rfl) (by kernel_rfl)
    ⟨fun a M hn h => by obtain ⟨⟨n, f⟩, ds⟩ := a; have hn : n = 178 := hn; subst hn; obtain ⟨hd, h⟩ := dfr_iff h; have hd : ds = [] := hd; subst hd; exact h f rfl rfl rfl,
    fun a M hn h => by obtain ⟨⟨n, f⟩, ds⟩ := a; have hn : n = 178 := hn; subst hn; obtain ⟨hd, h⟩ := dfr_iff h; have hd : ds = [] := hd; subst hd; exact h f,
    trivial⟩
    (cast (by kernel_rfl) h)
def S_fettlelaw10_PrntTells_8 (x121 x122 x123 : Value) (M : Store) (Q : Value → Store → Prop) : Prop :=
  OP (ixA 1 x121 x123) fun t125 =>
  OP (ld 1 false t125 M) fun t126 =>
  R F.prnt_Parse #[t126] M fun t129 M1 =>
  OP (tup t129 0) fun t130 =>
  OP (tup t129 1) fun t131 =>
  OP (tup t129 2) fun t132 =>
  R F.fettleref10_Parse #[t126] M1 fun t135 M2 =>
  OP (tup t135 0) fun t136 =>
  OP (tup t135 1) fun t137 =>
  OP (tup t135 2) fun t138 =>
  R F.prnt_Value #[t126] M2 fun t141 M3 =>
  OP (tup t141 0) fun t142 =>
  OP (tup t141 1) fun t143 =>
  R F.fettleref10_Value #[t126] M3 fun t146 M4 =>
  OP (tup t146 0) fun t147 =>
  OP (tup t146 1) fun t148 =>
  OP (abin Try.prog false .neq Ty.bool t132 t138) fun t151 =>
  BR t151 (
  NTs [(.bool false)] ∧ Q (.bool false) M4
  ) (
  R F.fettleref4_SameAct #[t130, t136] M4 fun t155 M5 =>
  OP (aun .not t155) fun t156 =>
  BR t156 (
  NTs [(.bool false)] ∧ Q (.bool false) M5
  ) (
  R F.fettleref1_SameRows #[t131, t137] M5 fun t161 M6 =>
  OP (aun .not t161) fun t162 =>
  BR t162 (
  NTs [(.bool false)] ∧ Q (.bool false) M6
  ) (
  OP (abin Try.prog false .neq Ty.bool t143 t148) fun t167 =>
  BR t167 (
  NTs [(.bool false)] ∧ Q (.bool false) M6
  ) (
  OP (cvBS t142 M6) fun t171 =>
  OP (cvBS t147 M6) fun t173 =>
  OP (binS .neq t171 t173) fun t174 =>
  BR t174 (
  NTs [(.bool false)] ∧ Q (.bool false) M6
  ) (
  OP (binI .add x123 (.int .i64 1)) fun t176 =>
  P_fettlelaw10_PrntTells_7 x121 x122 t176 M6 Q
  )
  )
  )
  )
  )
theorem T_fettlelaw10_PrntTells_8 {x121 x122 x123 : Value} {M : Store} {Q : Value → Store → Prop} (h : S_fettlelaw10_PrntTells_8 x121 x122 x123 M Q) : P_fettlelaw10_PrntTells_8 x121 x122 x123 M Q := by
  intro f h121 h122 h123; subst h121; subst h122; subst h123
  unfold At
  exact rule (B := 1000) (N := 178) (ct := .no)
    [⟨0, fun a M => dfr a.defers (P_fettlelaw10_PrntTells_7 (a.get 121) (a.get 122) (a.get 123) M Q), fun a M => At Try.prog Ex none Try.f5 [1, 1, 1, 1, 1, 1, 1, 1, 1, 0, 1, 0] a M Q⟩,
    ⟨1, fun a M => kfin Try.prog Try.f5.results.toList Q 1 a M, fun a M => kfin Try.prog Try.f5.results.toList Q 1 a M⟩]
    [] [0, 1] (by kernel_rfl) (by kernel_rfl) (by kernel_rfl) (by kernel_rfl) (by kernel_rfl)
    ⟨fun a M hn h => by obtain ⟨⟨n, f⟩, ds⟩ := a; have hn : n = 178 := hn; subst hn; obtain ⟨hd, h⟩ := dfr_iff h; have hd : ds = [] := hd; subst hd; exact h f rfl rfl rfl,
    fun _ _ _ h => h,
    trivial⟩
    (cast (by kernel_rfl) h)
def S_fettlelaw10_PrntTells_9 (M : Store) (Q : Value → Store → Prop) : Prop :=
  R F.fettlelaw10_awake #[] M fun t177 M1 =>
  NTs [t177] ∧ Q t177 M1
theorem T_fettlelaw10_PrntTells_9 {M : Store} {Q : Value → Store → Prop} (h : S_fettlelaw10_PrntTells_9 M Q) : P_fettlelaw10_PrntTells_9 M Q := by
  intro f 
  unfold At
  exact rule (B := 1000) (N := 178) (ct := .no)
    [⟨1, fun a M => kfin Try.prog Try.f5.results.toList Q 1 a M, fun a M => kfin Try.prog Try.f5.results.toList Q 1 a M⟩]
    [] [1] (by kernel_rfl) (by kernel_rfl) (by kernel_rfl) (by kernel_rfl) (by kernel_rfl)
    ⟨fun _ _ _ h => h,
    trivial⟩
    (cast (by kernel_rfl) h)
end Go.G
