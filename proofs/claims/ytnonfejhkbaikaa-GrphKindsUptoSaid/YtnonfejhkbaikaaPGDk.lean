/-  -/
import Derived.Test.YtnonfejhkbaikaaPGN
open Go.RowKit
namespace Go.G
open Go.Ab Go.Proofs
set_option linter.unusedVariables false
set_option maxRecDepth 100000
def P_fettlelaw8_GrphKinds_1 (ds : List Deferred) (x0 x1 : Value) (M : Store) (Q : Value → Store → Prop) : Prop :=
  ∀ f : Nat → Value, f 0 = x0 → f 1 = x1 → At Try.prog Ex none Try.f3 [1, 1] ⟨⟨117, f⟩, ds⟩ M Q
def P_fettlelaw8_GrphKinds_2 (ds : List Deferred) (x0 x1 x5 x27 x28 x29 : Value) (M : Store) (Q : Value → Store → Prop) : Prop :=
  ∀ f : Nat → Value, f 0 = x0 → f 1 = x1 → f 5 = x5 → f 27 = x27 → f 28 = x28 → f 29 = x29 → At Try.prog Ex none Try.f3 [1, 1, 1, 0, 1, 0] ⟨⟨117, f⟩, ds⟩ M Q
def P_fettlelaw8_GrphKinds_3 (ds : List Deferred) (x0 x1 x5 x27 x28 x29 : Value) (M : Store) (Q : Value → Store → Prop) : Prop :=
  ∀ f : Nat → Value, f 0 = x0 → f 1 = x1 → f 5 = x5 → f 27 = x27 → f 28 = x28 → f 29 = x29 → At Try.prog Ex none Try.f3 [1, 1, 1, 0, 1, 0, 0, 1, 1] ⟨⟨117, f⟩, ds⟩ M Q
def P_fettlelaw8_GrphKinds_4 (ds : List Deferred) (x0 x1 x5 : Value) (M : Store) (Q : Value → Store → Prop) : Prop :=
  ∀ f : Nat → Value, f 0 = x0 → f 1 = x1 → f 5 = x5 → At Try.prog Ex none Try.f3 [1, 1, 1, 1] ⟨⟨117, f⟩, ds⟩ M Q
def P_fettlelaw8_GrphKinds_5 (ds : List Deferred) (x0 x1 x5 x7 x8 x27 x28 x29 x33 x34 x35 : Value) (M : Store) (Q : Value → Store → Prop) : Prop :=
  ∀ f : Nat → Value, f 0 = x0 → f 1 = x1 → f 5 = x5 → f 7 = x7 → f 8 = x8 → f 27 = x27 → f 28 = x28 → f 29 = x29 → f 33 = x33 → f 34 = x34 → f 35 = x35 → At Try.prog Ex none Try.f3 [1, 1, 1, 0, 1, 0, 0, 1, 1, 0, 0, 1, 1, 0, 1, 0] ⟨⟨117, f⟩, ds⟩ M Q
def P_fettlelaw8_GrphKinds_6 (ds : List Deferred) (x0 x1 x5 x11 x53 x54 x55 : Value) (M : Store) (Q : Value → Store → Prop) : Prop :=
  ∀ f : Nat → Value, f 0 = x0 → f 1 = x1 → f 5 = x5 → f 11 = x11 → f 53 = x53 → f 54 = x54 → f 55 = x55 → At Try.prog Ex none Try.f3 [1, 1, 1, 1, 1, 0, 1, 0] ⟨⟨117, f⟩, ds⟩ M Q
def P_fettlelaw8_GrphKinds_7 (ds : List Deferred) (x0 x1 x5 x7 x8 x27 x28 x29 : Value) (M : Store) (Q : Value → Store → Prop) : Prop :=
  ∀ f : Nat → Value, f 0 = x0 → f 1 = x1 → f 5 = x5 → f 7 = x7 → f 8 = x8 → f 27 = x27 → f 28 = x28 → f 29 = x29 → At Try.prog Ex none Try.f3 [1, 1, 1, 0, 1, 0, 0, 1, 1, 0, 0, 1, 1, 1] ⟨⟨117, f⟩, ds⟩ M Q
def P_fettlelaw8_GrphKinds_8 (ds : List Deferred) (x0 x1 x5 x11 : Value) (M : Store) (Q : Value → Store → Prop) : Prop :=
  ∀ f : Nat → Value, f 0 = x0 → f 1 = x1 → f 5 = x5 → f 11 = x11 → At Try.prog Ex none Try.f3 [1, 1, 1, 1, 1, 1] ⟨⟨117, f⟩, ds⟩ M Q
def P_fettlelaw8_GrphKinds_9 (ds : List Deferred) (x0 x1 x5 x27 x28 x29 : Value) (M : Store) (Q : Value → Store → Prop) : Prop :=
  ∀ f : Nat → Value, f 0 = x0 → f 1 = x1 → f 5 = x5 → f 27 = x27 → f 28 = x28 → f 29 = x29 → At Try.prog Ex none Try.f3 [1, 1, 1, 0, 1, 0, 0, 1, 1, 1] ⟨⟨117, f⟩, ds⟩ M Q
def P_fettlelaw8_GrphKinds_10 (ds : List Deferred) (x0 x5 x11 x14 x67 x68 : Value) (M : Store) (Q : Value → Store → Prop) : Prop :=
  ∀ f : Nat → Value, f 0 = x0 → f 5 = x5 → f 11 = x11 → f 14 = x14 → f 67 = x67 → f 68 = x68 → At Try.prog Ex none Try.f3 [1, 1, 1, 1, 1, 1, 1, 0, 1, 0] ⟨⟨117, f⟩, ds⟩ M Q
def P_fettlelaw8_GrphKinds_11 (ds : List Deferred) (x0 x5 x14 : Value) (M : Store) (Q : Value → Store → Prop) : Prop :=
  ∀ f : Nat → Value, f 0 = x0 → f 5 = x5 → f 14 = x14 → At Try.prog Ex none Try.f3 [1, 1, 1, 1, 1, 1, 1, 1] ⟨⟨117, f⟩, ds⟩ M Q
def P_fettlelaw8_GrphKinds_12 (ds : List Deferred) (x5 x16 x17 x18 x19 x20 x92 : Value) (M : Store) (Q : Value → Store → Prop) : Prop :=
  ∀ f : Nat → Value, f 5 = x5 → f 16 = x16 → f 17 = x17 → f 18 = x18 → f 19 = x19 → f 20 = x20 → f 92 = x92 → At Try.prog Ex none Try.f3 [1, 1, 1, 1, 1, 1, 1, 1, 1, 1, 1, 1, 1, 0, 1, 0] ⟨⟨117, f⟩, ds⟩ M Q
def P_fettlelaw8_GrphKinds_13 (l : Nat) (x20 : Value) (M : Store) (Q : Value → Store → Prop) : Prop :=
  ∀ f : Nat → Value, f 20 = x20 → AtY Try.prog Ex l Try.f3 [1, 1, 1, 1, 1, 1, 1, 1, 1, 1, 1, 1, 1, 0, 1, 0, 1] [] ⟨⟨117, f⟩, []⟩ M Q
def P_fettlelaw8_GrphKinds_14 (ds : List Deferred) (x5 x16 x17 x18 x19 x20 : Value) (M : Store) (Q : Value → Store → Prop) : Prop :=
  ∀ f : Nat → Value, f 5 = x5 → f 16 = x16 → f 17 = x17 → f 18 = x18 → f 19 = x19 → f 20 = x20 → At Try.prog Ex none Try.f3 [1, 1, 1, 1, 1, 1, 1, 1, 1, 1, 1, 1, 1, 1] ⟨⟨117, f⟩, ds⟩ M Q
def S_fettlelaw8_GrphKinds (x0 x1 : Value) (M : Store) (Q : Value → Store → Prop) : Prop :=
  OP (lenV x0) fun t23 =>
  OP (binI .gtr t23 (.int .i64 20)) fun t24 =>
  BR t24 (
  OP (slV 1 Ty.string x0 none (some (.int .i64 20)) M) fun t26 =>
  P_fettlelaw8_GrphKinds_1 [] t26 x1 M Q
  ) (
  P_fettlelaw8_GrphKinds_1 [] x0 x1 M Q
  )
theorem T_fettlelaw8_GrphKinds {x0 x1 : Value} {M : Store} {Q : Value → Store → Prop} (h : S_fettlelaw8_GrphKinds x0 x1 M Q) : R F.fettlelaw8_GrphKinds #[x0, x1] M Q := by
  refine runs_of (c := bodyOf Try.f3) Try.func3 rfl (by kernel_rfl) (by kernel_rfl) ?_
  unfold At
  exact rule (B := 1000) (N := 117) (ct := (.two .no (.two .no (.here 1000))))
    [⟨1002, fun a M => P_fettlelaw8_GrphKinds_1 a.defers (a.get 0) (a.get 1) M Q, fun a M => At Try.prog Ex none Try.f3 [1, 1] a M Q⟩]
    [1000] [] (by kernel_rfl) (by kernel_rfl) (by kernel_rfl) (by kernel_rfl) (by kernel_rfl)
    ⟨fun a M hn h => by obtain ⟨⟨n, f⟩, ds⟩ := a; have hn : n = 117 := hn; subst hn; exact h f rfl rfl,
    trivial⟩
    (cast (by kernel_rfl) h)
def S_fettlelaw8_GrphKinds_1 (ds : List Deferred) (x0 x1 : Value) (M : Store) (Q : Value → Store → Prop) : Prop :=
  OP (lenV x0) fun t28 =>
  P_fettlelaw8_GrphKinds_2 ds x0 x1 (.slice none 0 0) x0 t28 (.int .i64 0) M Q
theorem T_fettlelaw8_GrphKinds_1 {ds : List Deferred} {x0 x1 : Value} {M : Store} {Q : Value → Store → Prop} (h : S_fettlelaw8_GrphKinds_1 ds x0 x1 M Q) : P_fettlelaw8_GrphKinds_1 ds x0 x1 M Q := by
  intro f h0 h1; subst h0; subst h1
  unfold At
  exact rule (B := 1000) (N := 117) (ct := (.two .no (.two (.two .no (.two (.here 1000) .no)) (.here 1001))))
    [⟨1002, fun a M => P_fettlelaw8_GrphKinds_2 a.defers (a.get 0) (a.get 1) (a.get 5) (a.get 27) (a.get 28) (a.get 29) M Q, fun a M => At Try.prog Ex none Try.f3 [1, 1, 1, 0, 1, 0] a M Q⟩,
    ⟨1003, fun _ _ => False, fun a M => At Try.prog Ex none Try.f3 [1, 1, 1, 1] a M Q⟩]
    [1000, 1001] [] (by kernel_rfl) (by kernel_rfl) (by kernel_rfl) (by kernel_rfl) (by kernel_rfl)
    ⟨fun a M hn h => by obtain ⟨⟨n, f⟩, ds⟩ := a; have hn : n = 117 := hn; subst hn; exact h f rfl rfl rfl rfl rfl rfl,
    fun _ _ _ h => h.elim,
    trivial⟩
    (cast (by kernel_rfl) h)
def S_fettlelaw8_GrphKinds_2 (ds : List Deferred) (x0 x1 x5 x27 x28 x29 : Value) (M : Store) (Q : Value → Store → Prop) : Prop :=
  OP (binI .lss x29 x28) fun t30 =>
  BR t30 (
  P_fettlelaw8_GrphKinds_3 ds x0 x1 x5 x27 x28 x29 M Q
  ) (
  P_fettlelaw8_GrphKinds_4 ds x0 x1 x5 M Q
  )
theorem T_fettlelaw8_GrphKinds_2 {ds : List Deferred} {x0 x1 x5 x27 x28 x29 : Value} {M : Store} {Q : Value → Store → Prop} (h : S_fettlelaw8_GrphKinds_2 ds x0 x1 x5 x27 x28 x29 M Q) : P_fettlelaw8_GrphKinds_2 ds x0 x1 x5 x27 x28 x29 M Q := by
  intro f h0 h1 h5 h27 h28 h29; subst h0; subst h1; subst h5; subst h27; subst h28; subst h29
  unfold At
  refine cast (by kernel_rfl) (CW.loop (P := Try.prog) (E := Ex) (rd := none) (x := sub (bodyOf Try.f3) [1, 1, 1, 0, 1, 0, 0]) (a := ⟨⟨117, f⟩, ds⟩) (M := M) (K := kcont Try.prog Ex none (bodyOf Try.f3) [1, 1, 1, 0, 1, 0] (kfin Try.prog Try.f3.results.toList Q)) ?_)
  exact rule (B := 1000) (N := 117) (ct := (.two .no (.two .no (.here 1000))))
    [⟨1002, fun a M => P_fettlelaw8_GrphKinds_3 a.defers (a.get 0) (a.get 1) (a.get 5) (a.get 27) (a.get 28) (a.get 29) M Q, fun a M => At Try.prog Ex none Try.f3 [1, 1, 1, 0, 1, 0, 0, 1, 1] a M Q⟩,
    ⟨2, fun a M => P_fettlelaw8_GrphKinds_4 a.defers (a.get 0) (a.get 1) (a.get 5) M Q, fun a M => At Try.prog Ex none Try.f3 [1, 1, 1, 1] a M Q⟩]
    [1000] [2] (by kernel_rfl) (by kernel_rfl) (by kernel_rfl) (by kernel_rfl) (by kernel_rfl)
    ⟨fun a M hn h => by obtain ⟨⟨n, f⟩, ds⟩ := a; have hn : n = 117 := hn; subst hn; exact h f rfl rfl rfl rfl rfl rfl,
    fun a M hn h => by obtain ⟨⟨n, f⟩, ds⟩ := a; have hn : n = 117 := hn; subst hn; exact h f rfl rfl rfl,
    trivial⟩
    (cast (by kernel_rfl) h)
def S_fettlelaw8_GrphKinds_3 (ds : List Deferred) (x0 x1 x5 x27 x28 x29 : Value) (M : Store) (Q : Value → Store → Prop) : Prop :=
  OP (ixA 1 x27 x29) fun t31 =>
  OP (ld 1 false t31 M) fun t32 =>
  OP (lenV x5) fun t34 =>
  P_fettlelaw8_GrphKinds_5 ds x0 x1 x5 t32 (.bool false) x27 x28 x29 x5 t34 (.int .i64 0) M Q
theorem T_fettlelaw8_GrphKinds_3 {ds : List Deferred} {x0 x1 x5 x27 x28 x29 : Value} {M : Store} {Q : Value → Store → Prop} (h : S_fettlelaw8_GrphKinds_3 ds x0 x1 x5 x27 x28 x29 M Q) : P_fettlelaw8_GrphKinds_3 ds x0 x1 x5 x27 x28 x29 M Q := by
  intro f h0 h1 h5 h27 h28 h29; subst h0; subst h1; subst h5; subst h27; subst h28; subst h29
  unfold At
  exact rule (B := 1000) (N := 117) (ct := (.two (.two (.two .no (.two .no (.two (.two .no (.two (.here 1000) .no)) (.here 1001)))) .no) (.here 1002)))
    [⟨1002, fun a M => P_fettlelaw8_GrphKinds_5 a.defers (a.get 0) (a.get 1) (a.get 5) (a.get 7) (a.get 8) (a.get 27) (a.get 28) (a.get 29) (a.get 33) (a.get 34) (a.get 35) M Q, fun a M => At Try.prog Ex none Try.f3 [1, 1, 1, 0, 1, 0, 0, 1, 1, 0, 0, 1, 1, 0, 1, 0] a M Q⟩,
    ⟨1003, fun _ _ => False, fun a M => At Try.prog Ex none Try.f3 [1, 1, 1, 0, 1, 0, 0, 1, 1, 0, 0, 1, 1, 1] a M Q⟩,
    ⟨1004, fun _ _ => False, fun a M => At Try.prog Ex none Try.f3 [1, 1, 1, 0, 1, 0, 0, 1, 1, 1] a M Q⟩]
    [1000, 1001, 1002] [] (by kernel_rfl) (by kernel_rfl) (by kernel_rfl) (by kernel_rfl) (by kernel_rfl)
    ⟨fun a M hn h => by obtain ⟨⟨n, f⟩, ds⟩ := a; have hn : n = 117 := hn; subst hn; exact h f rfl rfl rfl rfl rfl rfl rfl rfl rfl rfl rfl,
    fun _ _ _ h => h.elim,
    fun _ _ _ h => h.elim,
    trivial⟩
    (cast (by kernel_rfl) h)
def S_fettlelaw8_GrphKinds_4 (ds : List Deferred) (x0 x1 x5 : Value) (M : Store) (Q : Value → Store → Prop) : Prop :=
  OP (lenV x0) fun t54 =>
  P_fettlelaw8_GrphKinds_6 ds x0 x1 x5 (.string ⟨#[120]⟩) x0 t54 (.int .i64 0) M Q
theorem T_fettlelaw8_GrphKinds_4 {ds : List Deferred} {x0 x1 x5 : Value} {M : Store} {Q : Value → Store → Prop} (h : S_fettlelaw8_GrphKinds_4 ds x0 x1 x5 M Q) : P_fettlelaw8_GrphKinds_4 ds x0 x1 x5 M Q := by
  intro f h0 h1 h5; subst h0; subst h1; subst h5
  unfold At
  exact rule (B := 1000) (N := 117) (ct := (.two .no (.two (.two .no (.two (.here 1000) .no)) (.here 1001))))
    [⟨1002, fun a M => P_fettlelaw8_GrphKinds_6 a.defers (a.get 0) (a.get 1) (a.get 5) (a.get 11) (a.get 53) (a.get 54) (a.get 55) M Q, fun a M => At Try.prog Ex none Try.f3 [1, 1, 1, 1, 1, 0, 1, 0] a M Q⟩,
    ⟨1003, fun _ _ => False, fun a M => At Try.prog Ex none Try.f3 [1, 1, 1, 1, 1, 1] a M Q⟩]
    [1000, 1001] [] (by kernel_rfl) (by kernel_rfl) (by kernel_rfl) (by kernel_rfl) (by kernel_rfl)
    ⟨fun a M hn h => by obtain ⟨⟨n, f⟩, ds⟩ := a; have hn : n = 117 := hn; subst hn; exact h f rfl rfl rfl rfl rfl rfl rfl,
    fun _ _ _ h => h.elim,
    trivial⟩
    (cast (by kernel_rfl) h)
def S_fettlelaw8_GrphKinds_5 (ds : List Deferred) (x0 x1 x5 x7 x8 x27 x28 x29 x33 x34 x35 : Value) (M : Store) (Q : Value → Store → Prop) : Prop :=
  OP (binI .lss x35 x34) fun t36 =>
  BR t36 (
  OP (ixA 1 x33 x35) fun t37 =>
  OP (ld 1 false t37 M) fun t38 =>
  BR x8 (
  OP (binI .add x35 (.int .i64 1)) fun t45 =>
  P_fettlelaw8_GrphKinds_5 ds x0 x1 x5 x7 (.bool true) x27 x28 x29 x33 x34 t45 M Q
  ) (
  OP (binS .eql t38 x7) fun t43 =>
  OP (binI .add x35 (.int .i64 1)) fun t45_1 =>
  P_fettlelaw8_GrphKinds_5 ds x0 x1 x5 x7 t43 x27 x28 x29 x33 x34 t45_1 M Q
  )
  ) (
  P_fettlelaw8_GrphKinds_7 ds x0 x1 x5 x7 x8 x27 x28 x29 M Q
  )
theorem T_fettlelaw8_GrphKinds_5 {ds : List Deferred} {x0 x1 x5 x7 x8 x27 x28 x29 x33 x34 x35 : Value} {M : Store} {Q : Value → Store → Prop} (h : S_fettlelaw8_GrphKinds_5 ds x0 x1 x5 x7 x8 x27 x28 x29 x33 x34 x35 M Q) : P_fettlelaw8_GrphKinds_5 ds x0 x1 x5 x7 x8 x27 x28 x29 x33 x34 x35 M Q := by
  intro f h0 h1 h5 h7 h8 h27 h28 h29 h33 h34 h35; subst h0; subst h1; subst h5; subst h7; subst h8; subst h27; subst h28; subst h29; subst h33; subst h34; subst h35
  unfold At
  refine cast (by kernel_rfl) (CW.loop (P := Try.prog) (E := Ex) (rd := none) (x := sub (bodyOf Try.f3) [1, 1, 1, 0, 1, 0, 0, 1, 1, 0, 0, 1, 1, 0, 1, 0, 0]) (a := ⟨⟨117, f⟩, ds⟩) (M := M) (K := kcont Try.prog Ex none (bodyOf Try.f3) [1, 1, 1, 0, 1, 0, 0, 1, 1, 0, 0, 1, 1, 0, 1, 0] (kfin Try.prog Try.f3.results.toList Q)) ?_)
  exact rule (B := 1000) (N := 117) (ct := .no)
    [⟨0, fun a M => P_fettlelaw8_GrphKinds_5 a.defers (a.get 0) (a.get 1) (a.get 5) (a.get 7) (a.get 8) (a.get 27) (a.get 28) (a.get 29) (a.get 33) (a.get 34) (a.get 35) M Q, fun a M => At Try.prog Ex none Try.f3 [1, 1, 1, 0, 1, 0, 0, 1, 1, 0, 0, 1, 1, 0, 1, 0] a M Q⟩,
    ⟨4, fun a M => P_fettlelaw8_GrphKinds_7 a.defers (a.get 0) (a.get 1) (a.get 5) (a.get 7) (a.get 8) (a.get 27) (a.get 28) (a.get 29) M Q, fun a M => At Try.prog Ex none Try.f3 [1, 1, 1, 0, 1, 0, 0, 1, 1, 0, 0, 1, 1, 1] a M Q⟩]
    [] [0, 4] (by kernel_rfl) (by kernel_rfl) (by kernel_rfl) (by kernel_rfl) (by kernel_rfl)
    ⟨fun a M hn h => by obtain ⟨⟨n, f⟩, ds⟩ := a; have hn : n = 117 := hn; subst hn; exact h f rfl rfl rfl rfl rfl rfl rfl rfl rfl rfl rfl,
    fun a M hn h => by obtain ⟨⟨n, f⟩, ds⟩ := a; have hn : n = 117 := hn; subst hn; exact h f rfl rfl rfl rfl rfl rfl rfl rfl,
    trivial⟩
    (cast (by kernel_rfl) h)
def S_fettlelaw8_GrphKinds_6 (ds : List Deferred) (x0 x1 x5 x11 x53 x54 x55 : Value) (M : Store) (Q : Value → Store → Prop) : Prop :=
  OP (binI .lss x55 x54) fun t56 =>
  BR t56 (
  OP (ixA 1 x53 x55) fun t57 =>
  OP (ld 1 false t57 M) fun t58 =>
  OP (binS .add x11 t58) fun t61 =>
  OP (binI .add x55 (.int .i64 1)) fun t62 =>
  P_fettlelaw8_GrphKinds_6 ds x0 x1 x5 t61 x53 x54 t62 M Q
  ) (
  P_fettlelaw8_GrphKinds_8 ds x0 x1 x5 x11 M Q
  )
theorem T_fettlelaw8_GrphKinds_6 {ds : List Deferred} {x0 x1 x5 x11 x53 x54 x55 : Value} {M : Store} {Q : Value → Store → Prop} (h : S_fettlelaw8_GrphKinds_6 ds x0 x1 x5 x11 x53 x54 x55 M Q) : P_fettlelaw8_GrphKinds_6 ds x0 x1 x5 x11 x53 x54 x55 M Q := by
  intro f h0 h1 h5 h11 h53 h54 h55; subst h0; subst h1; subst h5; subst h11; subst h53; subst h54; subst h55
  unfold At
  refine cast (by kernel_rfl) (CW.loop (P := Try.prog) (E := Ex) (rd := none) (x := sub (bodyOf Try.f3) [1, 1, 1, 1, 1, 0, 1, 0, 0]) (a := ⟨⟨117, f⟩, ds⟩) (M := M) (K := kcont Try.prog Ex none (bodyOf Try.f3) [1, 1, 1, 1, 1, 0, 1, 0] (kfin Try.prog Try.f3.results.toList Q)) ?_)
  exact rule (B := 1000) (N := 117) (ct := .no)
    [⟨0, fun a M => P_fettlelaw8_GrphKinds_6 a.defers (a.get 0) (a.get 1) (a.get 5) (a.get 11) (a.get 53) (a.get 54) (a.get 55) M Q, fun a M => At Try.prog Ex none Try.f3 [1, 1, 1, 1, 1, 0, 1, 0] a M Q⟩,
    ⟨6, fun a M => P_fettlelaw8_GrphKinds_8 a.defers (a.get 0) (a.get 1) (a.get 5) (a.get 11) M Q, fun a M => At Try.prog Ex none Try.f3 [1, 1, 1, 1, 1, 1] a M Q⟩]
    [] [0, 6] (by kernel_rfl) (by kernel_rfl) (by kernel_rfl) (by kernel_rfl) (by kernel_rfl)
    ⟨fun a M hn h => by obtain ⟨⟨n, f⟩, ds⟩ := a; have hn : n = 117 := hn; subst hn; exact h f rfl rfl rfl rfl rfl rfl rfl,
    fun a M hn h => by obtain ⟨⟨n, f⟩, ds⟩ := a; have hn : n = 117 := hn; subst hn; exact h f rfl rfl rfl rfl,
    trivial⟩
    (cast (by kernel_rfl) h)
def S_fettlelaw8_GrphKinds_7 (ds : List Deferred) (x0 x1 x5 x7 x8 x27 x28 x29 : Value) (M : Store) (Q : Value → Store → Prop) : Prop :=
  OP (aun .not x8) fun t47 =>
  BR t47 (
  OP (bldL (.string ⟨#[]⟩) 1 1 [(0, x7)]) fun c =>
  LT (.slice (some ⟨M.n, 0, none⟩) 1 1) (M.push (some (.inl (c, Ty.string, true)))) fun t50 M1 =>
  OP2 (appV 1 Ty.string x5 t50 M1) fun t51 M2 =>
  P_fettlelaw8_GrphKinds_9 ds x0 x1 t51 x27 x28 x29 M2 Q
  ) (
  P_fettlelaw8_GrphKinds_9 ds x0 x1 x5 x27 x28 x29 M Q
  )
theorem T_fettlelaw8_GrphKinds_7 {ds : List Deferred} {x0 x1 x5 x7 x8 x27 x28 x29 : Value} {M : Store} {Q : Value → Store → Prop} (h : S_fettlelaw8_GrphKinds_7 ds x0 x1 x5 x7 x8 x27 x28 x29 M Q) : P_fettlelaw8_GrphKinds_7 ds x0 x1 x5 x7 x8 x27 x28 x29 M Q := by
  intro f h0 h1 h5 h7 h8 h27 h28 h29; subst h0; subst h1; subst h5; subst h7; subst h8; subst h27; subst h28; subst h29
  unfold At
  exact rule (B := 1000) (N := 117) (ct := .no)
    [⟨0, fun a M => P_fettlelaw8_GrphKinds_9 a.defers (a.get 0) (a.get 1) (a.get 5) (a.get 27) (a.get 28) (a.get 29) M Q, fun a M => At Try.prog Ex none Try.f3 [1, 1, 1, 0, 1, 0, 0, 1, 1, 1] a M Q⟩]
    [] [0] (by kernel_rfl) (by kernel_rfl) (by kernel_rfl) (by kernel_rfl) (by kernel_rfl)
    ⟨fun a M hn h => by obtain ⟨⟨n, f⟩, ds⟩ := a; have hn : n = 117 := hn; subst hn; exact h f rfl rfl rfl rfl rfl rfl,
    trivial⟩
    (cast (by kernel_rfl) h)
def S_fettlelaw8_GrphKinds_8 (ds : List Deferred) (x0 x1 x5 x11 : Value) (M : Store) (Q : Value → Store → Prop) : Prop :=
  OP (binI .and x1 (.int .i64 3)) fun t64 =>
  OP2 (mkS (.string ⟨#[]⟩) 1 16 Ty.string t64 t64 M) fun t65 M1 =>
  LT (.pointer (some ⟨M1.n, 0, none⟩)) (M1.push (some (.inl ([(.slice none 0 0)], Ty.sl_string, true)))) fun t14 M2 =>
  OP (st 1 t14 t65 M2) fun M3 =>
  OP (ld 1 false t14 M3) fun t66 =>
  OP (lenV t66) fun t67 =>
  P_fettlelaw8_GrphKinds_10 ds x0 x5 x11 t14 t67 (.int .i64 0) M3 Q
theorem T_fettlelaw8_GrphKinds_8 {ds : List Deferred} {x0 x1 x5 x11 : Value} {M : Store} {Q : Value → Store → Prop} (h : S_fettlelaw8_GrphKinds_8 ds x0 x1 x5 x11 M Q) : P_fettlelaw8_GrphKinds_8 ds x0 x1 x5 x11 M Q := by
  intro f h0 h1 h5 h11; subst h0; subst h1; subst h5; subst h11
  unfold At
  exact rule (B := 1000) (N := 117) (ct := (.two .no (.two (.two .no (.two (.here 1000) .no)) (.here 1001))))
    [⟨1002, fun a M => P_fettlelaw8_GrphKinds_10 a.defers (a.get 0) (a.get 5) (a.get 11) (a.get 14) (a.get 67) (a.get 68) M Q, fun a M => At Try.prog Ex none Try.f3 [1, 1, 1, 1, 1, 1, 1, 0, 1, 0] a M Q⟩,
    ⟨1003, fun _ _ => False, fun a M => At Try.prog Ex none Try.f3 [1, 1, 1, 1, 1, 1, 1, 1] a M Q⟩]
    [1000, 1001] [] (by kernel_rfl) (by kernel_rfl) (by kernel_rfl) (by kernel_rfl) (by kernel_rfl)
    ⟨fun a M hn h => by obtain ⟨⟨n, f⟩, ds⟩ := a; have hn : n = 117 := hn; subst hn; exact h f rfl rfl rfl rfl rfl rfl,
    fun _ _ _ h => h.elim,
    trivial⟩
    (cast (by kernel_rfl) h)
def S_fettlelaw8_GrphKinds_9 (ds : List Deferred) (x0 x1 x5 x27 x28 x29 : Value) (M : Store) (Q : Value → Store → Prop) : Prop :=
  OP (binI .add x29 (.int .i64 1)) fun t52 =>
  P_fettlelaw8_GrphKinds_2 ds x0 x1 x5 x27 x28 t52 M Q
theorem T_fettlelaw8_GrphKinds_9 {ds : List Deferred} {x0 x1 x5 x27 x28 x29 : Value} {M : Store} {Q : Value → Store → Prop} (h : S_fettlelaw8_GrphKinds_9 ds x0 x1 x5 x27 x28 x29 M Q) : P_fettlelaw8_GrphKinds_9 ds x0 x1 x5 x27 x28 x29 M Q := by
  intro f h0 h1 h5 h27 h28 h29; subst h0; subst h1; subst h5; subst h27; subst h28; subst h29
  unfold At
  exact rule (B := 1000) (N := 117) (ct := .no)
    [⟨0, fun a M => P_fettlelaw8_GrphKinds_2 a.defers (a.get 0) (a.get 1) (a.get 5) (a.get 27) (a.get 28) (a.get 29) M Q, fun a M => At Try.prog Ex none Try.f3 [1, 1, 1, 0, 1, 0] a M Q⟩]
    [] [0] (by kernel_rfl) (by kernel_rfl) (by kernel_rfl) (by kernel_rfl) (by kernel_rfl)
    ⟨fun a M hn h => by obtain ⟨⟨n, f⟩, ds⟩ := a; have hn : n = 117 := hn; subst hn; exact h f rfl rfl rfl rfl rfl rfl,
    trivial⟩
    (cast (by kernel_rfl) h)
def S_fettlelaw8_GrphKinds_10 (ds : List Deferred) (x0 x5 x11 x14 x67 x68 : Value) (M : Store) (Q : Value → Store → Prop) : Prop :=
  OP (binI .lss x68 x67) fun t69 =>
  BR t69 (
  OP (ld 1 false x14 M) fun t71 =>
  R F.fettleref4_Dec #[x68] M fun t75 M1 =>
  TDj [3] [M.n, M.n, M.n, M.n, M.n] M M1 ∧
  OP (binS .add x11 t75) fun t76 =>
  OP (ixA 1 t71 x68) fun t77 =>
  OP (st 1 t77 t76 M1) fun M2 =>
  TDx [0, 0, 0, 0, 8, 28, 63, 127] [M.n, M.n, M.n, M.n, M.n, M1.n, M1.n, M1.n] 7 M1 M2 ∧
  OP (binI .add x68 (.int .i64 1)) fun t78 =>
  P_fettlelaw8_GrphKinds_10 ds x0 x5 x11 x14 x67 t78 M2 Q
  ) (
  P_fettlelaw8_GrphKinds_11 ds x0 x5 x14 M Q
  )
theorem T_fettlelaw8_GrphKinds_10 {ds : List Deferred} {x0 x5 x11 x14 x67 x68 : Value} {M : Store} {Q : Value → Store → Prop} (h : S_fettlelaw8_GrphKinds_10 ds x0 x5 x11 x14 x67 x68 M Q) : P_fettlelaw8_GrphKinds_10 ds x0 x5 x11 x14 x67 x68 M Q := by
  intro f h0 h5 h11 h14 h67 h68; subst h0; subst h5; subst h11; subst h14; subst h67; subst h68
  unfold At
  refine cast (by kernel_rfl) (CW.loop (P := Try.prog) (E := Ex) (rd := none) (x := sub (bodyOf Try.f3) [1, 1, 1, 1, 1, 1, 1, 0, 1, 0, 0]) (a := ⟨⟨117, f⟩, ds⟩) (M := M) (K := kcont Try.prog Ex none (bodyOf Try.f3) [1, 1, 1, 1, 1, 1, 1, 0, 1, 0] (kfin Try.prog Try.f3.results.toList Q)) ?_)
  exact rule (B := 1000) (N := 117) (ct := .no)
    [⟨0, fun a M => P_fettlelaw8_GrphKinds_10 a.defers (a.get 0) (a.get 5) (a.get 11) (a.get 14) (a.get 67) (a.get 68) M Q, fun a M => At Try.prog Ex none Try.f3 [1, 1, 1, 1, 1, 1, 1, 0, 1, 0] a M Q⟩,
    ⟨8, fun a M => P_fettlelaw8_GrphKinds_11 a.defers (a.get 0) (a.get 5) (a.get 14) M Q, fun a M => At Try.prog Ex none Try.f3 [1, 1, 1, 1, 1, 1, 1, 1] a M Q⟩]
    [] [0, 8] (by kernel_rfl) (by kernel_rfl) (by kernel_rfl) (by kernel_rfl) (by kernel_rfl)
    ⟨fun a M hn h => by obtain ⟨⟨n, f⟩, ds⟩ := a; have hn : n = 117 := hn; subst hn; exact h f rfl rfl rfl rfl rfl rfl,
    fun a M hn h => by obtain ⟨⟨n, f⟩, ds⟩ := a; have hn : n = 117 := hn; subst hn; exact h f rfl rfl rfl,
    trivial⟩
    (cast (by kernel_rfl) h)
def S_fettlelaw8_GrphKinds_11 (ds : List Deferred) (x0 x5 x14 : Value) (M : Store) (Q : Value → Store → Prop) : Prop :=
  OP (mkF (.func F.fettlelaw8_GrphKinds_c1) [] [x14]) fun t81 =>
  R F.grph_Order_string #[x0, t81] M fun t82 M1 =>
  OP (tup t82 0) fun t83 =>
  OP (tup t82 1) fun t84 =>
  R F.grph_Order_int #[(.slice none 0 0), (.func (.func F.fettlelaw8_GrphKinds_c2) #[] #[])] M1 fun t86 M2 =>
  OP (tup t86 0) fun t87 =>
  OP (tup t86 1) fun t88 =>
  LT (.pointer (some ⟨M2.n, 0, none⟩)) (M2.push (some (.inl ([(.int .i64 0)], Ty.int, true)))) fun t20 M3 =>
  OP (st 1 t20 (.int .i64 0) M3) fun M4 =>
  R F.grph_Reach_int #[(.slice none 0 0), (.func (.func F.fettlelaw8_GrphKinds_c3) #[] #[])] M4 fun t89 M5 =>
  OP (abin Try.prog true .eql Ty.iter_Seq_int t89 .nilFunc) fun t91 =>
  BR t91 (
  OP (atake ds M5) fun M6 =>
  NTs [(.bool false)] ∧ Q (.bool false) M6
  ) (
  P_fettlelaw8_GrphKinds_12 ds x5 t83 t84 t87 t88 t20 t89 M5 Q
  )
theorem T_fettlelaw8_GrphKinds_11 {ds : List Deferred} {x0 x5 x14 : Value} {M : Store} {Q : Value → Store → Prop} (h : S_fettlelaw8_GrphKinds_11 ds x0 x5 x14 M Q) : P_fettlelaw8_GrphKinds_11 ds x0 x5 x14 M Q := by
  intro f h0 h5 h14; subst h0; subst h5; subst h14
  unfold At
  exact rule (B := 1000) (N := 117) (ct := (.two .no (.two .no (.two .no (.two .no (.two .no (.two (.two .no (.two (.here 1000) .no)) (.here 1001))))))))
    [⟨1002, fun a M => P_fettlelaw8_GrphKinds_12 a.defers (a.get 5) (a.get 16) (a.get 17) (a.get 18) (a.get 19) (a.get 20) (a.get 92) M Q, fun a M => At Try.prog Ex none Try.f3 [1, 1, 1, 1, 1, 1, 1, 1, 1, 1, 1, 1, 1, 0, 1, 0] a M Q⟩,
    ⟨1003, fun _ _ => False, fun a M => At Try.prog Ex none Try.f3 [1, 1, 1, 1, 1, 1, 1, 1, 1, 1, 1, 1, 1, 1] a M Q⟩,
    ⟨1, fun a M => kfin Try.prog Try.f3.results.toList Q 1 a M, fun a M => kfin Try.prog Try.f3.results.toList Q 1 a M⟩]
    [1000, 1001] [1] (by kernel_rfl) (by kernel_rfl) (by kernel_rfl) (by kernel_rfl) (by kernel_rfl)
    ⟨fun a M hn h => by obtain ⟨⟨n, f⟩, ds⟩ := a; have hn : n = 117 := hn; subst hn; exact h f rfl rfl rfl rfl rfl rfl rfl,
    fun _ _ _ h => h.elim,
    fun _ _ _ h => h,
    trivial⟩
    (cast (by kernel_rfl) h)
/-- The record of the range, and a round. -/
def RC_fettlelaw8_GrphKinds_12 (x20 : Value) (st : LoopState) (pe : Nat) (rc : LRec) : Prop := ∃ f : Nat → Value, f 20 = x20 ∧ rc = ⟨st, pe, ⟨117, f⟩, #[93], (sub (bodyOf Try.f3) [1, 1, 1, 1, 1, 1, 1, 1, 1, 1, 1, 1, 1, 0, 1, 0, 0]), (sub (bodyOf Try.f3) [1, 1, 1, 1, 1, 1, 1, 1, 1, 1, 1, 1, 1, 0, 1, 0, 1])⟩
def SY_fettlelaw8_GrphKinds_12 (l : Nat) (x20 : Value) (y93 : Value) (M : Store) (Q : Value → Store → Prop) : Prop :=
  OP (recOf M l) fun r => r.st = .ready ∧
  P_fettlelaw8_GrphKinds_13 l x20 (putRec M l { r with st := .busy }) Q
theorem Y_fettlelaw8_GrphKinds_12 {l pe : Nat} {x20 : Value} {y93 : Value} {M : Store} {Q : Value → Store → Prop} {rc : LRec} (hr : recOf M l = some rc) (hc : RC_fettlelaw8_GrphKinds_12 x20 .ready pe rc) (h : SY_fettlelaw8_GrphKinds_12 l x20 y93 M Q) : RunsY Try.prog Ex l #[y93] M Q := by
  obtain ⟨f, h20, hc⟩ := hc; subst h20; subst hc
  refine runsY_of (args := [y93]) hr (by kernel_rfl) ?_
  exact rule (B := 1000) (N := 117) (ct := .no)
    [⟨0, fun a M => OP (recOf M l) fun r => r.st = .ready ∧ dfr a.defers (P_fettlelaw8_GrphKinds_13 l (a.get 20) (putRec M l { r with st := .busy }) Q), fun a M => kmid Try.prog Ex l (sub (bodyOf Try.f3) [1, 1, 1, 1, 1, 1, 1, 1, 1, 1, 1, 1, 1, 0, 1, 0, 1]) Q 0 a M⟩]
    [] [0] (by kernel_rfl) (by kernel_rfl) (by kernel_rfl) (by kernel_rfl) (by kernel_rfl)
    ⟨fun a M hn h => by obtain ⟨⟨n, f⟩, ds⟩ := a; have hn : n = 117 := hn; subst hn; obtain ⟨r, hr, hs, h⟩ := OP_iff.1 h; obtain ⟨hd, h⟩ := dfr_iff h; have hd : ds = [] := hd; subst hd; exact OP_iff.2 ⟨r, hr, hs, cast (by kernel_rfl) (h f rfl)⟩, trivial⟩
    (cast (by kernel_rfl) h)
def S_fettlelaw8_GrphKinds_12 (ds : List Deferred) (x5 x16 x17 x18 x19 x20 x92 : Value) (M : Store) (Q : Value → Store → Prop) : Prop :=
  ∀ rc : LRec, RC_fettlelaw8_GrphKinds_12 x20 .ready 0 rc →
  rfc Try.prog Ex x92 (M.n + 1) ((M.push (some (.inr (.inr none)))).push (some (.inr (.inr (some rc))))) fun _ M1 =>
  OP (recOf M1 (M.n + 1)) fun r => r.st ≠ .busy ∧
  bif Nat.beq 0 r.pe then (
  P_fettlelaw8_GrphKinds_14 ({ target := .collected M.n, args := #[] } :: ds) x5 x16 x17 x18 x19 x20 (putRec M1 (M.n + 1) { r with st := .exhausted }) Q
  ) else
  False
theorem T_fettlelaw8_GrphKinds_12 {ds : List Deferred} {x5 x16 x17 x18 x19 x20 x92 : Value} {M : Store} {Q : Value → Store → Prop} (h : S_fettlelaw8_GrphKinds_12 ds x5 x16 x17 x18 x19 x20 x92 M Q) : P_fettlelaw8_GrphKinds_12 ds x5 x16 x17 x18 x19 x20 x92 M Q := by
  intro f h5 h16 h17 h18 h19 h20 h92; subst h5; subst h16; subst h17; subst h18; subst h19; subst h20; subst h92
  unfold At
  refine cast (by kernel_rfl) (CW.rf (P := Try.prog) (E := Ex) (g := .tmp 92) (ps := #[93]) (x := (sub (bodyOf Try.f3) [1, 1, 1, 1, 1, 1, 1, 1, 1, 1, 1, 1, 1, 0, 1, 0, 0])) (y := (sub (bodyOf Try.f3) [1, 1, 1, 1, 1, 1, 1, 1, 1, 1, 1, 1, 1, 0, 1, 0, 1])) (a := ⟨⟨117, f⟩, ds⟩) (M := M) (K := kcont Try.prog Ex none (bodyOf Try.f3) [1, 1, 1, 1, 1, 1, 1, 1, 1, 1, 1, 1, 1, 0, 1, 0] (kfin Try.prog Try.f3.results.toList Q)) ?_)
  refine cast (by kernel_rfl) (rfc_mono (k' := fun _ M' => OP (recOf M' (M.n + 1)) fun r => r.st ≠ .busy ∧ kcont Try.prog Ex none (bodyOf Try.f3) [1, 1, 1, 1, 1, 1, 1, 1, 1, 1, 1, 1, 1, 0, 1, 0] (kfin Try.prog Try.f3.results.toList Q) r.pe ⟨⟨117, f⟩, { target := .collected M.n, args := #[] } :: ds⟩ (putRec M' (M.n + 1) { r with st := .exhausted })) (h ⟨.ready, 0, ⟨117, f⟩, #[93], (sub (bodyOf Try.f3) [1, 1, 1, 1, 1, 1, 1, 1, 1, 1, 1, 1, 1, 0, 1, 0, 0]), (sub (bodyOf Try.f3) [1, 1, 1, 1, 1, 1, 1, 1, 1, 1, 1, 1, 1, 0, 1, 0, 1])⟩ ⟨f, rfl, rfl⟩) ?_)
  intro _ M1 h
  obtain ⟨r, hr, hs, h⟩ := OP_iff.1 h
  refine OP_iff.2 ⟨r, hr, hs, ?_⟩
  exact disp_K (N := 117) (L := [⟨0, fun a M => P_fettlelaw8_GrphKinds_14 a.defers (a.get 5) (a.get 16) (a.get 17) (a.get 18) (a.get 19) (a.get 20) M Q, fun a M => At Try.prog Ex none Try.f3 [1, 1, 1, 1, 1, 1, 1, 1, 1, 1, 1, 1, 1, 1] a M Q⟩])
    [0] (by kernel_rfl) (by kernel_rfl)
    ⟨fun a M hn h => by obtain ⟨⟨n, f⟩, ds⟩ := a; have hn : n = 117 := hn; subst hn; exact h f rfl rfl rfl rfl rfl rfl,
    trivial⟩
    rfl (cast (by kernel_rfl) h)
def S_fettlelaw8_GrphKinds_13 (l : Nat) (x20 : Value) (M : Store) (Q : Value → Store → Prop) : Prop :=
  OP (ld 1 false x20 M) fun t94 =>
  OP (binI .add t94 (.int .i64 1)) fun t95 =>
  OP (st 1 x20 t95 M) fun M1 =>
  YE l 0 M1 Q
theorem T_fettlelaw8_GrphKinds_13 {l : Nat} {x20 : Value} {M : Store} {Q : Value → Store → Prop} (h : S_fettlelaw8_GrphKinds_13 l x20 M Q) : P_fettlelaw8_GrphKinds_13 l x20 M Q := by
  intro f h20; subst h20
  unfold AtY
  exact rule (B := 1000) (N := 117) (ct := .no)
    [⟨0, fun a M => kfinY l Q 0 a M, fun a M => kfinY l Q 0 a M⟩]
    [] [0] (by kernel_rfl) (by kernel_rfl) (by kernel_rfl) (by kernel_rfl) (by kernel_rfl)
    ⟨fun _ _ _ h => h,
    trivial⟩
    (cast (by kernel_rfl) h)
def S_fettlelaw8_GrphKinds_14 (ds : List Deferred) (x5 x16 x17 x18 x19 x20 : Value) (M : Store) (Q : Value → Store → Prop) : Prop :=
  BR x17 (
  R F.fettleref1_SameTexts #[x16, x5] M fun t100 M1 =>
  BR t100 (
  BR x19 (
  OP (lenV x18) fun t107 =>
  OP (binI .eql t107 (.int .i64 0)) fun t108 =>
  BR t108 (
  OP (ld 1 false x20 M1) fun t111 =>
  OP (binI .eql t111 (.int .i64 0)) fun t112 =>
  BR t112 (
  R F.fettlelaw8_awake #[] M1 fun t115 M2 =>
  OP (atake ds M2) fun M3 =>
  NTs [t115] ∧ Q t115 M3
  ) (
  OP (atake ds M1) fun M4 =>
  NTs [(.bool false)] ∧ Q (.bool false) M4
  )
  ) (
  OP (atake ds M1) fun M5 =>
  NTs [(.bool false)] ∧ Q (.bool false) M5
  )
  ) (
  OP (atake ds M1) fun M6 =>
  NTs [(.bool false)] ∧ Q (.bool false) M6
  )
  ) (
  OP (atake ds M1) fun M7 =>
  NTs [(.bool false)] ∧ Q (.bool false) M7
  )
  ) (
  OP (atake ds M) fun M8 =>
  NTs [(.bool false)] ∧ Q (.bool false) M8
  )
theorem T_fettlelaw8_GrphKinds_14 {ds : List Deferred} {x5 x16 x17 x18 x19 x20 : Value} {M : Store} {Q : Value → Store → Prop} (h : S_fettlelaw8_GrphKinds_14 ds x5 x16 x17 x18 x19 x20 M Q) : P_fettlelaw8_GrphKinds_14 ds x5 x16 x17 x18 x19 x20 M Q := by
  intro f h5 h16 h17 h18 h19 h20; subst h5; subst h16; subst h17; subst h18; subst h19; subst h20
  unfold At
  exact rule (B := 1000) (N := 117) (ct := .no)
    [⟨1, fun a M => kfin Try.prog Try.f3.results.toList Q 1 a M, fun a M => kfin Try.prog Try.f3.results.toList Q 1 a M⟩]
    [] [1] (by kernel_rfl) (by kernel_rfl) (by kernel_rfl) (by kernel_rfl) (by kernel_rfl)
    ⟨fun _ _ _ h => h,
    trivial⟩
    (cast (by kernel_rfl) h)
def S_fettlelaw8_GrphKinds_c1 (x0 x1 : Value) (M : Store) (Q : Value → Store → Prop) : Prop :=
  OP (ld 1 false x1 M) fun t4 =>
  NTs [t4] ∧ Q t4 M
theorem T_fettlelaw8_GrphKinds_c1 {x0 x1 : Value} {M : Store} {Q : Value → Store → Prop} (h : S_fettlelaw8_GrphKinds_c1 x0 x1 M Q) : R F.fettlelaw8_GrphKinds_c1 #[x0, x1] M Q := by
  refine runs_of (c := bodyOf Try.f12) Try.func12 rfl (by kernel_rfl) (by kernel_rfl) ?_
  unfold At
  exact rule (B := 1000) (N := 5) (ct := .no)
    [⟨1, fun a M => kfin Try.prog Try.f12.results.toList Q 1 a M, fun a M => kfin Try.prog Try.f12.results.toList Q 1 a M⟩]
    [] [1] (by kernel_rfl) (by kernel_rfl) (by kernel_rfl) (by kernel_rfl) (by kernel_rfl)
    ⟨fun _ _ _ h => h,
    trivial⟩
    (cast (by kernel_rfl) h)
def S_fettlelaw8_GrphKinds_c2 (x0 : Value) (M : Store) (Q : Value → Store → Prop) : Prop :=
  OP (bldL (.int .i64 0) 1 1 [(0, x0)]) fun c =>
  LT (.slice (some ⟨M.n, 0, none⟩) 1 1) (M.push (some (.inl (c, Ty.int, true)))) fun t4 M1 =>
  NTs [t4] ∧ Q t4 M1
theorem T_fettlelaw8_GrphKinds_c2 {x0 : Value} {M : Store} {Q : Value → Store → Prop} (h : S_fettlelaw8_GrphKinds_c2 x0 M Q) : R F.fettlelaw8_GrphKinds_c2 #[x0] M Q := by
  refine runs_of (c := bodyOf Try.f14) Try.func14 rfl (by kernel_rfl) (by kernel_rfl) ?_
  unfold At
  exact rule (B := 1000) (N := 5) (ct := .no)
    [⟨1, fun a M => kfin Try.prog Try.f14.results.toList Q 1 a M, fun a M => kfin Try.prog Try.f14.results.toList Q 1 a M⟩]
    [] [1] (by kernel_rfl) (by kernel_rfl) (by kernel_rfl) (by kernel_rfl) (by kernel_rfl)
    ⟨fun _ _ _ h => h,
    trivial⟩
    (cast (by kernel_rfl) h)
def S_fettlelaw8_GrphKinds_c3 (x0 : Value) (M : Store) (Q : Value → Store → Prop) : Prop :=
  OP (binI .add x0 (.int .i64 1)) fun t4 =>
  OP (bldL (.int .i64 0) 1 1 [(0, t4)]) fun c =>
  LT (.slice (some ⟨M.n, 0, none⟩) 1 1) (M.push (some (.inl (c, Ty.int, true)))) fun t5 M1 =>
  NTs [t5] ∧ Q t5 M1
theorem T_fettlelaw8_GrphKinds_c3 {x0 : Value} {M : Store} {Q : Value → Store → Prop} (h : S_fettlelaw8_GrphKinds_c3 x0 M Q) : R F.fettlelaw8_GrphKinds_c3 #[x0] M Q := by
  refine runs_of (c := bodyOf Try.f16) Try.func16 rfl (by kernel_rfl) (by kernel_rfl) ?_
  unfold At
  exact rule (B := 1000) (N := 6) (ct := .no)
    [⟨1, fun a M => kfin Try.prog Try.f16.results.toList Q 1 a M, fun a M => kfin Try.prog Try.f16.results.toList Q 1 a M⟩]
    [] [1] (by kernel_rfl) (by kernel_rfl) (by kernel_rfl) (by kernel_rfl) (by kernel_rfl)
    ⟨fun _ _ _ h => h,
    trivial⟩
    (cast (by kernel_rfl) h)
end Go.G
