/-  -/
import Derived.Test.YtpacolplhcfamaaPGN
open Go.RowKit
namespace Go.G
open Go.Ab Go.Proofs
set_option linter.unusedVariables false
set_option maxRecDepth 100000
def S_fettlelaw15_made (x0 : Value) (M : Store) (Q : Value → Store → Prop) : Prop :=
  OP (binS .eql x0 (.string ⟨#[97]⟩)) fun t4 =>
  BR t4 (
  NTs [(.bool true)] ∧ Q (.bool true) M
  ) (
  OP (binS .eql x0 (.string ⟨#[98]⟩)) fun t7 =>
  NTs [t7] ∧ Q t7 M
  )
theorem T_fettlelaw15_made {x0 : Value} {M : Store} {Q : Value → Store → Prop} (h : S_fettlelaw15_made x0 M Q) : R F.fettlelaw15_made #[x0] M Q := by
  refine runs_of (c := bodyOf Try.f32) Try.func32 rfl (by kernel_rfl) (by kernel_rfl) ?_
  unfold At
  exact rule (B := 1000) (N := 9) (ct := .no)
    [⟨1, fun a M => kfin Try.prog Try.f32.results.toList Q 1 a M, fun a M => kfin Try.prog Try.f32.results.toList Q 1 a M⟩]
    [] [1] (by kernel_rfl) (by kernel_rfl) (by kernel_rfl) (by kernel_rfl) (by kernel_rfl)
    ⟨fun _ _ _ h => h,
    trivial⟩
    (cast (by kernel_rfl) h)
def P_fettleref1_SameInts_1 (x0 x1 x5 : Value) (M : Store) (Q : Value → Store → Prop) : Prop :=
  ∀ f : Nat → Value, f 0 = x0 → f 1 = x1 → f 5 = x5 → At Try.prog Ex none Try.f37 [1, 1, 0, 1, 0] ⟨⟨26, f⟩, []⟩ M Q
def P_fettleref1_SameInts_2 (x0 x1 x5 : Value) (M : Store) (Q : Value → Store → Prop) : Prop :=
  ∀ f : Nat → Value, f 0 = x0 → f 1 = x1 → f 5 = x5 → At Try.prog Ex none Try.f37 [1, 1, 0, 1, 0, 0, 1] ⟨⟨26, f⟩, []⟩ M Q
def P_fettleref1_SameInts_3 (M : Store) (Q : Value → Store → Prop) : Prop :=
  ∀ f : Nat → Value, At Try.prog Ex none Try.f37 [1, 1, 1] ⟨⟨26, f⟩, []⟩ M Q
def S_fettleref1_SameInts (x0 x1 : Value) (M : Store) (Q : Value → Store → Prop) : Prop :=
  OP (lenV x0) fun t7 =>
  OP (lenV x1) fun t9 =>
  OP (binI .neq t7 t9) fun t10 =>
  BR t10 (
  NTs [(.bool false)] ∧ Q (.bool false) M
  ) (
  P_fettleref1_SameInts_1 x0 x1 (.int .i64 0) M Q
  )
theorem T_fettleref1_SameInts {x0 x1 : Value} {M : Store} {Q : Value → Store → Prop} (h : S_fettleref1_SameInts x0 x1 M Q) : R F.fettleref1_SameInts #[x0, x1] M Q := by
  refine runs_of (c := bodyOf Try.f37) Try.func37 rfl (by kernel_rfl) (by kernel_rfl) ?_
  unfold At
  exact rule (B := 1000) (N := 26) (ct := (.two .no (.two .no (.two (.two .no (.two (.here 1000) .no)) (.here 1001)))))
    [⟨1002, fun a M => dfr a.defers (P_fettleref1_SameInts_1 (a.get 0) (a.get 1) (a.get 5) M Q), fun a M => At Try.prog Ex none Try.f37 [1, 1, 0, 1, 0] a M Q⟩,
    ⟨1003, fun _ _ => False, fun a M => At Try.prog Ex none Try.f37 [1, 1, 1] a M Q⟩,
    ⟨1, fun a M => kfin Try.prog Try.f37.results.toList Q 1 a M, fun a M => kfin Try.prog Try.f37.results.toList Q 1 a M⟩]
    [1000, 1001] [1] (by kernel_rfl) (by kernel_rfl) (by kernel_rfl) (by kernel_rfl) (by kernel_rfl)
    ⟨fun a M hn h => by obtain ⟨⟨n, f⟩, ds⟩ := a; have hn : n = 26 := hn; subst hn; obtain ⟨hd, h⟩ := dfr_iff h; have hd : ds = [] := hd; subst hd; exact h f rfl rfl rfl,
    fun _ _ _ h => h.elim,
    fun _ _ _ h => h,
    trivial⟩
    (cast (by kernel_rfl) h)
def S_fettleref1_SameInts_1 (x0 x1 x5 : Value) (M : Store) (Q : Value → Store → Prop) : Prop :=
  OP (lenV x0) fun t13 =>
  OP (binI .lss x5 t13) fun t14 =>
  BR t14 (
  P_fettleref1_SameInts_2 x0 x1 x5 M Q
  ) (
  P_fettleref1_SameInts_3 M Q
  )
theorem T_fettleref1_SameInts_1 {x0 x1 x5 : Value} {M : Store} {Q : Value → Store → Prop} (h : S_fettleref1_SameInts_1 x0 x1 x5 M Q) : P_fettleref1_SameInts_1 x0 x1 x5 M Q := by
  intro f h0 h1 h5; subst h0; subst h1; subst h5
  unfold At
  refine cast (by kernel_rfl) (CW.loop (P := Try.prog) (E := Ex) (rd := none) (x := sub (bodyOf Try.f37) [1, 1, 0, 1, 0, 0]) (a := ⟨⟨26, f⟩, []⟩) (M := M) (K := kcont Try.prog Ex none (bodyOf Try.f37) [1, 1, 0, 1, 0] (kfin Try.prog Try.f37.results.toList Q)) ?_)
  exact rule (B := 1000) (N := 26) (ct := (.two .no (.here 1000)))
    [⟨1002, fun a M => dfr a.defers (P_fettleref1_SameInts_2 (a.get 0) (a.get 1) (a.get 5) M Q), fun a M => At Try.prog Ex none Try.f37 [1, 1, 0, 1, 0, 0, 1] a M Q⟩,
    ⟨2, fun a M => dfr a.defers (P_fettleref1_SameInts_3 M Q), fun a M => At Try.prog Ex none Try.f37 [1, 1, 1] a M Q⟩]
    [1000] [2] (by kernel_rfl) (by kernel_rfl) (by kernel_rfl) (by kernel_rfl) (by kernel_rfl)
    ⟨fun a M hn h => by obtain ⟨⟨n, f⟩, ds⟩ := a; have hn : n = 26 := hn; subst hn; obtain ⟨hd, h⟩ := dfr_iff h; have hd : ds = [] := hd; subst hd; exact h f rfl rfl rfl,
    fun a M hn h => by obtain ⟨⟨n, f⟩, ds⟩ := a; have hn : n = 26 := hn; subst hn; obtain ⟨hd, h⟩ := dfr_iff h; have hd : ds = [] := hd; subst hd; exact h f,
    trivial⟩
    (cast (by kernel_rfl) h)
def S_fettleref1_SameInts_2 (x0 x1 x5 : Value) (M : Store) (Q : Value → Store → Prop) : Prop :=
  OP (ixA 1 x0 x5) fun t19 =>
  OP (ld 1 false t19 M) fun t20 =>
  OP (ixA 1 x1 x5) fun t23 =>
  OP (ld 1 false t23 M) fun t24 =>
  OP (binI .neq t20 t24) fun t25 =>
  BR t25 (
  NTs [(.bool false)] ∧ Q (.bool false) M
  ) (
  OP (binI .add x5 (.int .i64 1)) fun t16 =>
  P_fettleref1_SameInts_1 x0 x1 t16 M Q
  )
theorem T_fettleref1_SameInts_2 {x0 x1 x5 : Value} {M : Store} {Q : Value → Store → Prop} (h : S_fettleref1_SameInts_2 x0 x1 x5 M Q) : P_fettleref1_SameInts_2 x0 x1 x5 M Q := by
  intro f h0 h1 h5; subst h0; subst h1; subst h5
  unfold At
  exact rule (B := 1000) (N := 26) (ct := .no)
    [⟨0, fun a M => dfr a.defers (P_fettleref1_SameInts_1 (a.get 0) (a.get 1) (a.get 5) M Q), fun a M => At Try.prog Ex none Try.f37 [1, 1, 0, 1, 0] a M Q⟩,
    ⟨1, fun a M => kfin Try.prog Try.f37.results.toList Q 1 a M, fun a M => kfin Try.prog Try.f37.results.toList Q 1 a M⟩]
    [] [0, 1] (by kernel_rfl) (by kernel_rfl) (by kernel_rfl) (by kernel_rfl) (by kernel_rfl)
    ⟨fun a M hn h => by obtain ⟨⟨n, f⟩, ds⟩ := a; have hn : n = 26 := hn; subst hn; obtain ⟨hd, h⟩ := dfr_iff h; have hd : ds = [] := hd; subst hd; exact h f rfl rfl rfl,
    fun _ _ _ h => h,
    trivial⟩
    (cast (by kernel_rfl) h)
def S_fettleref1_SameInts_3 (M : Store) (Q : Value → Store → Prop) : Prop :=
  NTs [(.bool true)] ∧ Q (.bool true) M
theorem T_fettleref1_SameInts_3 {M : Store} {Q : Value → Store → Prop} (h : S_fettleref1_SameInts_3 M Q) : P_fettleref1_SameInts_3 M Q := by
  intro f 
  unfold At
  exact rule (B := 1000) (N := 26) (ct := .no)
    [⟨1, fun a M => kfin Try.prog Try.f37.results.toList Q 1 a M, fun a M => kfin Try.prog Try.f37.results.toList Q 1 a M⟩]
    [] [1] (by kernel_rfl) (by kernel_rfl) (by kernel_rfl) (by kernel_rfl) (by kernel_rfl)
    ⟨fun _ _ _ h => h,
    trivial⟩
    (cast (by kernel_rfl) h)
end Go.G
