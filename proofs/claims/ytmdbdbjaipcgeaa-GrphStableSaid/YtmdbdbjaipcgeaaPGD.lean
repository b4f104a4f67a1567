/-  -/
import Derived.Test.YtmdbdbjaipcgeaaPGN
open Go.RowKit
namespace Go.G
open Go.Ab Go.Proofs
set_option linter.unusedVariables false
set_option maxRecDepth 100000
def P_fettlelaw8_GrphKinds_1 (ds : List Deferred) (x0 x1 : Value) (M : Store) (Q : Value → Store → Prop) : Prop :=
  ∀ f : Nat → Value, f 0 = x0 → f 1 = x1 → At Try.prog Ex none Try.f8 [1, 1] ⟨⟨117, f⟩, ds⟩ M Q
def P_fettlelaw8_GrphKinds_2 (ds : List Deferred) (x0 x1 x5 x27 x28 x29 : Value) (M : Store) (Q : Value → Store → Prop) : Prop :=
  ∀ f : Nat → Value, f 0 = x0 → f 1 = x1 → f 5 = x5 → f 27 = x27 → f 28 = x28 → f 29 = x29 → At Try.prog Ex none Try.f8 [1, 1, 1, 0, 1, 0] ⟨⟨117, f⟩, ds⟩ M Q
def P_fettlelaw8_GrphKinds_3 (ds : List Deferred) (x0 x1 x5 x27 x28 x29 : Value) (M : Store) (Q : Value → Store → Prop) : Prop :=
  ∀ f : Nat → Value, f 0 = x0 → f 1 = x1 → f 5 = x5 → f 27 = x27 → f 28 = x28 → f 29 = x29 → At Try.prog Ex none Try.f8 [1, 1, 1, 0, 1, 0, 0, 1, 1] ⟨⟨117, f⟩, ds⟩ M Q
def P_fettlelaw8_GrphKinds_4 (ds : List Deferred) (x0 x1 x5 : Value) (M : Store) (Q : Value → Store → Prop) : Prop :=
  ∀ f : Nat → Value, f 0 = x0 → f 1 = x1 → f 5 = x5 → At Try.prog Ex none Try.f8 [1, 1, 1, 1] ⟨⟨117, f⟩, ds⟩ M Q
def P_fettlelaw8_GrphKinds_5 (ds : List Deferred) (x0 x1 x5 x7 x8 x27 x28 x29 x33 x34 x35 : Value) (M : Store) (Q : Value → Store → Prop) : Prop :=
  ∀ f : Nat → Value, f 0 = x0 → f 1 = x1 → f 5 = x5 → f 7 = x7 → f 8 = x8 → f 27 = x27 → f 28 = x28 → f 29 = x29 → f 33 = x33 → f 34 = x34 → f 35 = x35 → At Try.prog Ex none Try.f8 [1, 1, 1, 0, 1, 0, 0, 1, 1, 0, 0, 1, 1, 0, 1, 0] ⟨⟨117, f⟩, ds⟩ M Q
def P_fettlelaw8_GrphKinds_6 (ds : List Deferred) (x0 x1 x5 x11 x53 x54 x55 : Value) (M : Store) (Q : Value → Store → Prop) : Prop :=
  ∀ f : Nat → Value, f 0 = x0 → f 1 = x1 → f 5 = x5 → f 11 = x11 → f 53 = x53 → f 54 = x54 → f 55 = x55 → At Try.prog Ex none Try.f8 [1, 1, 1, 1, 1, 0, 1, 0] ⟨⟨117, f⟩, ds⟩ M Q
def P_fettlelaw8_GrphKinds_7 (ds : List Deferred) (x0 x1 x5 x7 x8 x27 x28 x29 : Value) (M : Store) (Q : Value → Store → Prop) : Prop :=
  ∀ f : Nat → Value, f 0 = x0 → f 1 = x1 → f 5 = x5 → f 7 = x7 → f 8 = x8 → f 27 = x27 → f 28 = x28 → f 29 = x29 → At Try.prog Ex none Try.f8 [1, 1, 1, 0, 1, 0, 0, 1, 1, 0, 0, 1, 1, 1] ⟨⟨117, f⟩, ds⟩ M Q
def P_fettlelaw8_GrphKinds_8 (ds : List Deferred) (x0 x1 x5 x11 : Value) (M : Store) (Q : Value → Store → Prop) : Prop :=
  ∀ f : Nat → Value, f 0 = x0 → f 1 = x1 → f 5 = x5 → f 11 = x11 → At Try.prog Ex none Try.f8 [1, 1, 1, 1, 1, 1] ⟨⟨117, f⟩, ds⟩ M Q
def P_fettlelaw8_GrphKinds_9 (ds : List Deferred) (x0 x1 x5 x27 x28 x29 : Value) (M : Store) (Q : Value → Store → Prop) : Prop :=
  ∀ f : Nat → Value, f 0 = x0 → f 1 = x1 → f 5 = x5 → f 27 = x27 → f 28 = x28 → f 29 = x29 → At Try.prog Ex none Try.f8 [1, 1, 1, 0, 1, 0, 0, 1, 1, 1] ⟨⟨117, f⟩, ds⟩ M Q
def P_fettlelaw8_GrphKinds_10 (ds : List Deferred) (x0 x5 x11 x14 x67 x68 : Value) (M : Store) (Q : Value → Store → Prop) : Prop :=
  ∀ f : Nat → Value, f 0 = x0 → f 5 = x5 → f 11 = x11 → f 14 = x14 → f 67 = x67 → f 68 = x68 → At Try.prog Ex none Try.f8 [1, 1, 1, 1, 1, 1, 1, 0, 1, 0] ⟨⟨117, f⟩, ds⟩ M Q
def P_fettlelaw8_GrphKinds_11 (ds : List Deferred) (x0 x5 x14 : Value) (M : Store) (Q : Value → Store → Prop) : Prop :=
  ∀ f : Nat → Value, f 0 = x0 → f 5 = x5 → f 14 = x14 → At Try.prog Ex none Try.f8 [1, 1, 1, 1, 1, 1, 1, 1] ⟨⟨117, f⟩, ds⟩ M Q
def P_fettlelaw8_GrphKinds_12 (ds : List Deferred) (x5 x16 x17 x18 x19 x20 x92 : Value) (M : Store) (Q : Value → Store → Prop) : Prop :=
  ∀ f : Nat → Value, f 5 = x5 → f 16 = x16 → f 17 = x17 → f 18 = x18 → f 19 = x19 → f 20 = x20 → f 92 = x92 → At Try.prog Ex none Try.f8 [1, 1, 1, 1, 1, 1, 1, 1, 1, 1, 1, 1, 1, 0, 1, 0] ⟨⟨117, f⟩, ds⟩ M Q
def P_fettlelaw8_GrphKinds_13 (l : Nat) (x20 : Value) (M : Store) (Q : Value → Store → Prop) : Prop :=
  ∀ f : Nat → Value, f 20 = x20 → AtY Try.prog Ex l Try.f8 [1, 1, 1, 1, 1, 1, 1, 1, 1, 1, 1, 1, 1, 0, 1, 0, 1] [] ⟨⟨117, f⟩, []⟩ M Q
def P_fettlelaw8_GrphKinds_14 (ds : List Deferred) (x5 x16 x17 x18 x19 x20 : Value) (M : Store) (Q : Value → Store → Prop) : Prop :=
  ∀ f : Nat → Value, f 5 = x5 → f 16 = x16 → f 17 = x17 → f 18 = x18 → f 19 = x19 → f 20 = x20 → At Try.prog Ex none Try.f8 [1, 1, 1, 1, 1, 1, 1, 1, 1, 1, 1, 1, 1, 1] ⟨⟨117, f⟩, ds⟩ M Q
def S_fettlelaw8_GrphKinds (x0 x1 : Value) (M : Store) (Q : Value → Store → Prop) : Prop :=
  OP (lenV x0) fun t23 =>
  OP (binI .gtr t23 (.int .i64 20)) fun t24 =>
  BR t24 (
  OP (slV 1 Ty.string x0 none (some (.int .i64 20)) M) fun t26 =>
  P_fettlelaw8_GrphKinds_1 [] t26 x1 M Q
  ) (
  P_fettlelaw8_GrphKinds_1 [] x0 x1 M Q
  )
theorem T_fettlelaw8_GrphKinds {x0 x1 : Value} {M : Store} {Q : Value → Store → Prop} (h : S_fettlelaw8_GrphKinds x0 x1 M Q) : R F.fettlelaw8_GrphKinds #[x0, x1] M Q := by
  refine runs_of (c := bodyOf Try.f8) Try.func8 rfl (by kernel_rfl) (by kernel_rfl) ?_
  unfold At
  exact rule (B := 1000) (N := 117) (ct := (.two .no (.two .no (.here 1000))))
    [⟨1002, fun a M => P_fettlelaw8_GrphKinds_1 a.defers (a.get 0) (a.get 1) M Q, fun a M => At Try.prog Ex none Try.f8 [1, 1] a M Q⟩]
    [1000] [] (by kernel_rfl) (by kernel_rfl) (by kernel_rfl) (by kernel_rfl) (by kernel_rfl)
    ⟨fun a M hn h => by obtain ⟨⟨n, f⟩, ds⟩ := a; have hn : n = 117 := hn; subst hn; exact h f rfl rfl,
    trivial⟩
    (cast (by kernel_rfl) h)
def S_fettlelaw8_GrphKinds_1 (ds : List Deferred) (x0 x1 : Value) (M : Store) (Q : Value → Store → Prop) : Prop :=
  OP (lenV x0) fun t28 =>
  P_fettlelaw8_GrphKinds_2 ds x0 x1 (.slice none 0 0) x0 t28 (.int .i64 0) M Q
theorem T_fettlelaw8_GrphKinds_1 {ds : List Deferred} {x0 x1 : Value} {M : Store} {Q : Value → Store → Prop} (h : S_fettlelaw8_GrphKinds_1 ds x0 x1 M Q) : P_fettlelaw8_GrphKinds_1 ds x0 x1 M Q := by
  intro f h0 h1; subst h0; subst h1
  unfold At
  exact rule (B := 1000) (N := 117) (ct := (.two .no (.two (.two .no (.two (.here 1000) .no)) (.here 1001))))
    [⟨1002, fun a M => P_fettlelaw8_GrphKinds_2 a.defers (a.get 0) (a.get 1) (a.get 5) (a.get 27) (a.get 28) (a.get 29) M Q, fun a M => At Try.prog Ex none Try.f8 [1, 1, 1, 0, 1, 0] a M Q⟩,
    ⟨1003, fun _ _ => False, fun a M => At Try.prog Ex none Try.f8 [1, 1, 1, 1] a M Q⟩]
    [1000, 1001] [] (by kernel_rfl) (by kernel_rfl) (by kernel_rfl) (by kernel_rfl) (by kernel_rfl)
    ⟨fun a M hn h => by obtain ⟨⟨n, f⟩, ds⟩ := a; have hn : n = 117 := hn; subst hn; exact h f rfl rfl rfl rfl rfl rfl,
    fun _ _ _ h => h.elim,
    trivial⟩
    (cast (by kernel_rfl) h)
def S_fettlelaw8_GrphKinds_2 (ds : List Deferred) (x0 x1 x5 x27 x28 x29 : Value) (M : Store) (Q : Value → Store → Prop) : Prop :=
  OP (binI .lss x29 x28) fun t30 =>
  BR t30 (
  P_fettlelaw8_GrphKinds_3 ds x0 x1 x5 x27 x28 x29 M Q
  ) (
  P_fettlelaw8_GrphKinds_4 ds x0 x1 x5 M Q
  )
theorem T_fettlelaw8_GrphKinds_2 {ds : List Deferred} {x0 x1 x5 x27 x28 x29 : Value} {M : Store} {Q : Value → Store → Prop} (h : S_fettlelaw8_GrphKinds_2 ds x0 x1 x5 x27 x28 x29 M Q) : P_fettlelaw8_GrphKinds_2 ds x0 x1 x5 x27 x28 x29 M Q := by
  intro f h0 h1 h5 h27 h28 h29; subst h0; subst h1; subst h5; subst h27; subst h28; subst h29
  unfold At
  refine cast (by kernel_rfl) (CW.loop (P := Try.prog) (E := Ex) (rd := none) (x := sub (bodyOf Try.f8) [1, 1, 1, 0, 1, 0, 0]) (a := ⟨⟨117, f⟩, ds⟩) (M := M) (K := kcont Try.prog Ex none (bodyOf Try.f8) [1, 1, 1, 0, 1, 0] (kfin Try.prog Try.f8.results.toList Q)) ?_)
  exact rule (B := 1000) (N := 117) (ct := (.two .no (.two .no (.here 1000))))
    [⟨1002, fun a M => P_fettlelaw8_GrphKinds_3 a.defers (a.get 0) (a.get 1) (a.get 5) (a.get 27) (a.get 28) (a.get 29) M Q, fun a M => At Try.prog Ex none Try.f8 [1, 1, 1, 0, 1, 0, 0, 1, 1] a M Q⟩,
    ⟨2, fun a M => P_fettlelaw8_GrphKinds_4 a.defers (a.get 0) (a.get 1) (a.get 5) M Q, fun a M => At Try.prog Ex none Try.f8 [1, 1, 1, 1] a M Q⟩]
    [1000] [2] (by kernel_rfl) (by kernel_rfl) (by kernel_rfl) (by kernel_rfl) (by kernel_rfl)
    ⟨fun a M hn h => by obtain ⟨⟨n, f⟩, ds⟩ := a; have hn : n = 117 := hn; subst hn; exact h f rfl rfl rfl rfl rfl rfl,
    fun a M hn h => by obtain ⟨⟨n, f⟩, ds⟩ := a; have hn : n = 117 := hn; subst hn; exact h f rfl rfl rfl,
    trivial⟩
    (cast (by kernel_rfl) h)
def S_fettlelaw8_GrphKinds_3 (ds : List Deferred) (x0 x1 x5 x27 x28 x29 : Value) (M : Store) (Q : Value → Store → Prop) : Prop :=
  OP (ixA 1 x27 x29) fun t31 =>
  OP (ld 1 false t31 M) fun t32 =>
  OP (lenV x5) fun t34 =>
  P_fettlelaw8_GrphKinds_5 ds x0 x1 x5 t32 (.bool false) x27 x28 x29 x5 t34 (.int .i64 0) M Q
theorem T_fettlelaw8_GrphKinds_3 {ds : List Deferred} {x0 x1 x5 x27 x28 x29 : Value} {M : Store} {Q : Value → Store → Prop} (h : S_fettlelaw8_GrphKinds_3 ds x0 x1 x5 x27 x28 x29 M Q) : P_fettlelaw8_GrphKinds_3 ds x0 x1 x5 x27 x28 x29 M Q := by
  intro f h0 h1 h5 h27 h28 h29; subst h0; subst h1; subst h5; subst h27; subst h28; subst h29
  unfold At
  exact rule (B := 1000) (N := 117) (ct := (.two (.two (.two .no (.two .no (.two (.two .no (.two (.here 1000) .no)) (.here 1001)))) .no) (.here 1002)))
    [⟨1002, fun a M => P_fettlelaw8_GrphKinds_5 a.defers (a.get 0) (a.get 1) (a.get 5) (a.get 7) (a.get 8) (a.get 27) (a.get 28) (a.get 29) (a.get 33) (a.get 34) (a.get 35) M Q, fun a M => At Try.prog Ex none Try.f8 [1, 1, 1, 0, 1, 0, 0, 1, 1, 0, 0, 1, 1, 0, 1, 0] a M Q⟩,
    ⟨1003, fun _ _ => False, fun a M => At Try.prog Ex none Try.f8 [1, 1, 1, 0, 1, 0, 0, 1, 1, 0, 0, 1, 1, 1] a M Q⟩,
    ⟨1004, fun _ _ => False, fun a M => At Try.prog Ex none Try.f8 [1, 1, 1, 0, 1, 0, 0, 1, 1, 1] a M Q⟩]
    [1000, 1001, 1002] [] (by kernel_rfl) (by kernel_rfl) (by kernel_rfl) (by kernel_rfl) (by kernel_rfl)
    ⟨fun a M hn h => by obtain ⟨⟨n, f⟩, ds⟩ := a; have hn : n = 117 := hn; subst hn; exact h f rfl rfl rfl rfl rfl rfl rfl rfl rfl rfl rfl,
    fun _ _ _ h => h.elim,
    fun _ _ _ h => h.elim,
    trivial⟩
    (cast (by kernel_rfl) h)
def S_fettlelaw8_GrphKinds_4 (ds : List Deferred) (x0 x1 x5 : Value) (M : Store) (Q : Value → Store → Prop) : Prop :=
  OP (lenV x0) fun t54 =>
  P_fettlelaw8_GrphKinds_6 ds x0 x1 x5 (.string ⟨#[120]⟩) x0 t54 (.int .i64 0) M Q
theorem T_fettlelaw8_GrphKinds_4 {ds : List Deferred} {x0 x1 x5 : Value} {M : Store} {Q : Value → Store → Prop} (h : S_fettlelaw8_GrphKinds_4 ds x0 x1 x5 M Q) : P_fettlelaw8_GrphKinds_4 ds x0 x1 x5 M Q := by
  intro f h0 h1 h5; subst h0; subst h1; subst h5
  unfold At
  exact rule (B := 1000) (N := 117) (ct := (.two .no (.two (.two .no (.two (.here 1000) .no)) (.here 1001))))
    [⟨1002, fun a M => P_fettlelaw8_GrphKinds_6 a.defers (a.get 0) (a.get 1) (a.get 5) (a.get 11) (a.get 53) (a.get 54) (a.get 55) M Q, fun a M => At Try.prog Ex none Try.f8 [1, 1, 1, 1, 1, 0, 1, 0] a M Q⟩,
    ⟨1003, fun _ _ => False, fun a M => At Try.prog Ex none Try.f8 [1, 1, 1, 1, 1, 1] a M Q⟩]
    [1000, 1001] [] (by kernel_rfl) (by kernel_rfl) (by kernel_rfl) (by kernel_rfl) (by kernel_rfl)
    ⟨fun a M hn h => by obtain ⟨⟨n, f⟩, ds⟩ := a; have hn : n = 117 := hn; subst hn; exact h f rfl rfl rfl rfl rfl rfl rfl,
    fun _ _ _ h => h.elim,
    trivial⟩
    (cast (by kernel_rfl) h)
def S_fettlelaw8_GrphKinds_5 (ds : List Deferred) (x0 x1 x5 x7 x8 x27 x28 x29 x33 x34 x35 : Value) (M : Store) (Q : Value → Store → Prop) : Prop :=
  OP (binI .lss x35 x34) fun t36 =>
  BR t36 (
  OP (ixA 1 x33 x35) fun t37 =>
  OP (ld 1 false t37 M) fun t38 =>
  BR x8 (
  OP (binI .add x35 (.int .i64 1)) fun t45 =>
  P_fettlelaw8_GrphKinds_5 ds x0 x1 x5 x7 (.bool true) x27 x28 x29 x33 x34 t45 M Q
  ) (
  OP (binS .eql t38 x7) fun t43 =>
  OP (binI .add x35 (.int .i64 1)) fun t45_1 =>
  P_fettlelaw8_GrphKinds_5 ds x0 x1 x5 x7 t43 x27 x28 x29 x33 x34 t45_1 M Q
  )
  ) (
  P_fettlelaw8_GrphKinds_7 ds x0 x1 x5 x7 x8 x27 x28 x29 M Q
  )
theorem T_fettlelaw8_GrphKinds_5 {ds : List Deferred} {x0 x1 x5 x7 x8 x27 x28 x29 x33 x34 x35 : Value} {M : Store} {Q : Value → Store → Prop} (h : S_fettlelaw8_GrphKinds_5 ds x0 x1 x5 x7 x8 x27 x28 x29 x33 x34 x35 M Q) : P_fettlelaw8_GrphKinds_5 ds x0 x1 x5 x7 x8 x27 x28 x29 x33 x34 x35 M Q := by
  intro f h0 h1 h5 h7 h8 h27 h28 h29 h33 h34 h35; subst h0; subst h1; subst h5; subst h7; subst h8; subst h27; subst h28; subst h29; subst h33; subst h34; subst h35
  unfold At
  refine cast (by kernel_rfl) (CW.loop (P := Try.prog) (E := Ex) (rd := none) (x := sub (bodyOf Try.f8) [1, 1, 1, 0, 1, 0, 0, 1, 1, 0, 0, 1, 1, 0, 1, 0, 0]) (a := ⟨⟨117, f⟩, ds⟩) (M := M) (K := kcont Try.prog Ex none (bodyOf Try.f8) [1, 1, 1, 0, 1, 0, 0, 1, 1, 0, 0, 1, 1, 0, 1, 0] (kfin Try.prog Try.f8.results.toList Q)) ?_)
  exact rule (B := 1000) (N := 117) (ct := .no)
    [⟨0, fun a M => P_fettlelaw8_GrphKinds_5 a.defers (a.get 0) (a.get 1) (a.get 5) (a.get 7) (a.get 8) (a.get 27) (a.get 28) (a.get 29) (a.get 33) (a.get 34) (a.get 35) M Q, fun a M => At Try.prog Ex none Try.f8 [1, 1, 1, 0, 1, 0, 0, 1, 1, 0, 0, 1, 1, 0, 1, 0] a M Q⟩,
    ⟨4, fun a M => P_fettlelaw8_GrphKinds_7 a.defers (a.get 0) (a.get 1) (a.get 5) (a.get 7) (a.get 8) (a.get 27) (a.get 28) (a.get 29) M Q, fun a M => At Try.prog Ex none Try.f8 [1, 1, 1, 0, 1, 0, 0, 1, 1, 0, 0, 1, 1, 1] a M Q⟩]
    [] [0, 4] (by kernel_rfl) (by kernel_rfl) (by kernel_rfl) (by kernel_rfl) (by kernel_rfl)
    ⟨fun a M hn h => by obtain ⟨⟨n, f⟩, ds⟩ := a; have hn : n = 117 := hn; subst hn; exact h f rfl rfl rfl rfl rfl rfl rfl rfl rfl rfl rfl,
    fun a M hn h => by obtain ⟨⟨n, f⟩, ds⟩ := a; have hn : n = 117 := hn; subst hn; exact h f rfl rfl rfl rfl rfl rfl rfl rfl,
    trivial⟩
    (cast (by kernel_rfl) h)
def S_fettlelaw8_GrphKinds_6 (ds : List Deferred) (x0 x1 x5 x11 x53 x54 x55 : Value) (M : Store) (Q : Value → Store → Prop) : Prop :=
  OP (binI .lss x55 x54) fun t56 =>
  BR t56 (
  OP (ixA 1 x53 x55) fun t57 =>
  OP (ld 1 false t57 M) fun t58 =>
  OP (binS .add x11 t58) fun t61 =>
  OP (binI .add x55 (.int .i64 1)) fun t62 =>
  P_fettlelaw8_GrphKinds_6 ds x0 x1 x5 t61 x53 x54 t62 M Q
  ) (
  P_fettlelaw8_GrphKinds_8 ds x0 x1 x5 x11 M Q
  )
theorem T_fettlelaw8_GrphKinds_6 {ds : List Deferred} {x0 x1 x5 x11 x53 x54 x55 : Value} {M : Store} {Q : Value → Store → Prop} (h : S_fettlelaw8_GrphKinds_6 ds x0 x1 x5 x11 x53 x54 x55 M Q) : P_fettlelaw8_GrphKinds_6 ds x0 x1 x5 x11 x53 x54 x55 M Q := by
  intro f h0 h1 h5 h11 h53 h54 h55; subst h0; subst h1; subst h5; subst h11; subst h53; subst h54; subst h55
  unfold At
  refine cast (by kernel_rfl) (CW.loop (P := Try.prog) (E := Ex) (rd := none) (x := sub (bodyOf Try.f8) [1, 1, 1, 1, 1, 0, 1, 0, 0]) (a := ⟨⟨117, f⟩, ds⟩) (M := M) (K := kcont Try.prog Ex none (bodyOf Try.f8) [1, 1, 1, 1, 1, 0, 1, 0] (kfin Try.prog Try.f8.results.toList Q)) ?_)
  exact rule (B := 1000) (N := 117) (ct := .no)
    [⟨0, fun a M => P_fettlelaw8_GrphKinds_6 a.defers (a.get 0) (a.get 1) (a.get 5) (a.get 11) (a.get 53) (a.get 54) (a.get 55) M Q, fun a M => At Try.prog Ex none Try.f8 [1, 1, 1, 1, 1, 0, 1, 0] a M Q⟩,
    ⟨6, fun a M => P_fettlelaw8_GrphKinds_8 a.defers (a.get 0) (a.get 1) (a.get 5) (a.get 11) M Q, fun a M => At Try.prog Ex none Try.f8 [1, 1, 1, 1, 1, 1] a M Q⟩]
    [] [0, 6] (by kernel_rfl) (by kernel_rfl) (by kernel_rfl) (by kernel_rfl) (by kernel_rfl)
    ⟨fun a M hn h => by obtain ⟨⟨n, f⟩, ds⟩ := a; have hn : n = 117 := hn; subst hn; exact h f rfl rfl rfl rfl rfl rfl rfl,
    fun a M hn h => by obtain ⟨⟨n, f⟩, ds⟩ := a; have hn : n = 117 := hn; subst hn; exact h f rfl rfl rfl rfl,
    trivial⟩
    (cast (by kernel_rfl) h)
def S_fettlelaw8_GrphKinds_7 (ds : List Deferred) (x0 x1 x5 x7 x8 x27 x28 x29 : Value) (M : Store) (Q : Value → Store → Prop) : Prop :=
  OP (aun .not x8) fun t47 =>
  BR t47 (
  OP (bldL (.string ⟨#[]⟩) 1 1 [(0, x7)]) fun c =>
  LT (.slice (some ⟨M.n, 0, none⟩) 1 1) (M.push (some (.inl (c, Ty.string, true)))) fun t50 M1 =>
  OP2 (appV 1 Ty.string x5 t50 M1) fun t51 M2 =>
  P_fettlelaw8_GrphKinds_9 ds x0 x1 t51 x27 x28 x29 M2 Q
  ) (
  P_fettlelaw8_GrphKinds_9 ds x0 x1 x5 x27 x28 x29 M Q
  )
theorem T_fettlelaw8_GrphKinds_7 {ds : List Deferred} {x0 x1 x5 x7 x8 x27 x28 x29 : Value} {M : Store} {Q : Value → Store → Prop} (h : S_fettlelaw8_GrphKinds_7 ds x0 x1 x5 x7 x8 x27 x28 x29 M Q) : P_fettlelaw8_GrphKinds_7 ds x0 x1 x5 x7 x8 x27 x28 x29 M Q := by
  intro f h0 h1 h5 h7 h8 h27 h28 h29; subst h0; subst h1; subst h5; subst h7; subst h8; subst h27; subst h28; subst h29
  unfold At
  exact rule (B := 1000) (N := 117) (ct := .no)
    [⟨0, fun a M => P_fettlelaw8_GrphKinds_9 a.defers (a.get 0) (a.get 1) (a.get 5) (a.get 27) (a.get 28) (a.get 29) M Q, fun a M => At Try.prog Ex none Try.f8 [1, 1, 1, 0, 1, 0, 0, 1, 1, 1] a M Q⟩]
    [] [0] (by kernel_rfl) (by kernel_rfl) (by kernel_rfl) (by kernel_rfl) (by kernel_rfl)
    ⟨fun a M hn h => by obtain ⟨⟨n, f⟩, ds⟩ := a; have hn : n = 117 := hn; subst hn; exact h f rfl rfl rfl rfl rfl rfl,
    trivial⟩
    (cast (by kernel_rfl) h)
def S_fettlelaw8_GrphKinds_8 (ds : List Deferred) (x0 x1 x5 x11 : Value) (M : Store) (Q : Value → Store → Prop) : Prop :=
  OP (binI .and x1 (.int .i64 3)) fun t64 =>
  OP2 (mkS (.string ⟨#[]⟩) 1 16 Ty.string t64 t64 M) fun t65 M1 =>
  LT (.pointer (some ⟨M1.n, 0, none⟩)) (M1.push (some (.inl ([(.slice none 0 0)], Ty.sl_string, true)))) fun t14 M2 =>
  OP (st 1 t14 t65 M2) fun M3 =>
  OP (ld 1 false t14 M3) fun t66 =>
  OP (lenV t66) fun t67 =>
  P_fettlelaw8_GrphKinds_10 ds x0 x5 x11 t14 t67 (.int .i64 0) M3 Q
theorem T_fettlelaw8_GrphKinds_8 {ds : List Deferred} {x0 x1 x5 x11 : Value} {M : Store} {Q : Value → Store → Prop} (h : S_fettlelaw8_GrphKinds_8 ds x0 x1 x5 x11 M Q) : P_fettlelaw8_GrphKinds_8 ds x0 x1 x5 x11 M Q := by
  intro f h0 h1 h5 h11; subst h0; subst h1; subst h5; subst h11
  unfold At
  exact rule (B := 1000) (N := 117) (ct := (.two .no (.two (.two .no (.two (.here 1000) .no)) (.here 1001))))
    [⟨1002, fun a M => P_fettlelaw8_GrphKinds_10 a.defers (a.get 0) (a.get 5) (a.get 11) (a.get 14) (a.get 67) (a.get 68) M Q, fun a M => At Try.prog Ex none Try.f8 [1, 1, 1, 1, 1, 1, 1, 0, 1, 0] a M Q⟩,
    ⟨1003, fun _ _ => False, fun a M => At Try.prog Ex none Try.f8 [1, 1, 1, 1, 1, 1, 1, 1] a M Q⟩]
    [1000, 1001] [] (by kernel_rfl) (by kernel_rfl) (by kernel_rfl) (by kernel_rfl) (by kernel_rfl)
    ⟨fun a M hn h => by obtain ⟨⟨n, f⟩, ds⟩ := a; have hn : n = 117 := hn; subst hn; exact h f rfl rfl rfl rfl rfl rfl,
    fun _ _ _ h => h.elim,
    trivial⟩
    (cast (by kernel_rfl) h)
def S_fettlelaw8_GrphKinds_9 (ds : List Deferred) (x0 x1 x5 x27 x28 x29 : Value) (M : Store) (Q : Value → Store → Prop) : Prop :=
  OP (binI .add x29 (.int .i64 1)) fun t52 =>
  P_fettlelaw8_GrphKinds_2 ds x0 x1 x5 x27 x28 t52 M Q
theorem T_fettlelaw8_GrphKinds_9 {ds : List Deferred} {x0 x1 x5 x27 x28 x29 : Value} {M : Store} {Q : Value → Store → Prop} (h : S_fettlelaw8_GrphKinds_9 ds x0 x1 x5 x27 x28 x29 M Q) : P_fettlelaw8_GrphKinds_9 ds x0 x1 x5 x27 x28 x29 M Q := by
  intro f h0 h1 h5 h27 h28 h29; subst h0; subst h1; subst h5; subst h27; subst h28; subst h29
  unfold At
  exact rule (B := 1000) (N := 117) (ct := .no)
    [⟨0, fun a M => P_fettlelaw8_GrphKinds_2 a.defers (a.get 0) (a.get 1) (a.get 5) (a.get 27) (a.get 28) (a.get 29) M Q, fun a M => At Try.prog Ex none Try.f8 [1, 1, 1, 0, 1, 0] a M Q⟩]
    [] [0] (by kernel_rfl) (by kernel_rfl) (by kernel_rfl) (by kernel_rfl) (by kernel_rfl)
    ⟨fun a M hn h => by obtain ⟨⟨n, f⟩, ds⟩ := a; have hn : n = 117 := hn; subst hn; exact h f rfl rfl rfl rfl rfl rfl,
    trivial⟩
    (cast (by kernel_rfl) h)
def S_fettlelaw8_GrphKinds_10 (ds : List Deferred) (x0 x5 x11 x14 x67 x68 : Value) (M : Store) (Q : Value → Store → Prop) : Prop :=
  OP (binI .lss x68 x67) fun t69 =>
  BR t69 (
  OP (ld 1 false x14 M) fun t71 =>
  R F.fettleref4_Dec #[x68] M fun t75 M1 =>
  TDj [3] [M.n, M.n, M.n, M.n, M.n] M M1 ∧
  OP (binS .add x11 t75) fun t76 =>
  OP (ixA 1 t71 x68) fun t77 =>
  OP (st 1 t77 t76 M1) fun M2 =>
  TDx [0, 0, 0, 0, 8, 28, 63, 127] [M.n, M.n, M.n, M.n, M.n, M1.n, M1.n, M1.n] 7 M1 M2 ∧
  OP (binI .add x68 (.int .i64 1)) fun t78 =>
  P_fettlelaw8_GrphKinds_10 ds x0 x5 x11 x14 x67 t78 M2 Q
  ) (
  P_fettlelaw8_GrphKinds_11 ds x0 x5 x14 M Q
  )
theorem T_fettlelaw8_GrphKinds_10 {ds : List Deferred} {x0 x5 x11 x14 x67 x68 : Value} {M : Store} {Q : Value → Store → Prop} (h : S_fettlelaw8_GrphKinds_10 ds x0 x5 x11 x14 x67 x68 M Q) : P_fettlelaw8_GrphKinds_10 ds x0 x5 x11 x14 x67 x68 M Q := by
  intro f h0 h5 h11 h14 h67 h68; subst h0; subst h5; subst h11; subst h14; subst h67; subst h68
  unfold At
  refine cast (by kernel_rfl) (CW.loop (P := Try.prog) (E := Ex) (rd := none) (x := sub (bodyOf Try.f8) [1, 1, 1, 1, 1, 1, 1, 0, 1, 0, 0]) (a := ⟨⟨117, f⟩, ds⟩) (M := M) (K := kcont Try.prog Ex none (bodyOf Try.f8) [1, 1, 1, 1, 1, 1, 1, 0, 1, 0] (kfin Try.prog Try.f8.results.toList Q)) ?_)
  exact rule (B := 1000) (N := 117) (ct := .no)
    [⟨0, fun a M => P_fettlelaw8_GrphKinds_10 a.defers (a.get 0) (a.get 5) (a.get 11) (a.get 14) (a.get 67) (a.get 68) M Q, fun a M => At Try.prog Ex none Try.f8 [1, 1, 1, 1, 1, 1, 1, 0, 1, 0] a M Q⟩,
    ⟨8, fun a M => P_fettlelaw8_GrphKinds_11 a.defers (a.get 0) (a.get 5) (a.get 14) M Q, fun a M => At Try.prog Ex none Try.f8 [1, 1, 1, 1, 1, 1, 1, 1] a M Q⟩]
    [] [0, 8] (by kernel_rfl) (by kernel_rfl) (by kernel_rfl) (by kernel_rfl) (by kernel_rfl)
    ⟨fun a M hn h => by obtain ⟨⟨n, f⟩, ds⟩ := a; have hn : n = 117 := hn; subst hn; exact h f rfl rfl rfl rfl rfl rfl,
    fun a M hn h => by obtain ⟨⟨n, f⟩, ds⟩ := a; have hn : n = 117 := hn; subst hn; exact h f rfl rfl rfl,
    trivial⟩
    (cast (by kernel_rfl) h)
def S_fettlelaw8_GrphKinds_11 (ds : List Deferred) (x0 x5 x14 : Value) (M : Store) (Q : Value → Store → Prop) : Prop :=
  OP (mkF (.func F.fettlelaw8_GrphKinds_c1) [] [x14]) fun t81 =>
  R F.grph_Order_string #[x0, t81] M fun t82 M1 =>
  OP (tup t82 0) fun t83 =>
  OP (tup t82 1) fun t84 =>
  R F.grph_Order_int #[(.slice none 0 0), (.func (.func F.fettlelaw8_GrphKinds_c2) #[] #[])] M1 fun t86 M2 =>
  OP (tup t86 0) fun t87 =>
  OP (tup t86 1) fun t88 =>
  LT (.pointer (some ⟨M2.n, 0, none⟩)) (M2.push (some (.inl ([(.int .i64 0)], Ty.int, true)))) fun t20 M3 =>
  OP (st 1 t20 (.int .i64 0) M3) fun M4 =>
  R F.grph_Reach_int #[(.slice none 0 0), (.func (.func F.fettlelaw8_GrphKinds_c3) #[] #[])] M4 fun t89 M5 =>
  OP (abin Try.prog true .eql Ty.iter_Seq_int t89 .nilFunc) fun t91 =>
  BR t91 (
  OP (atake ds M5) fun M6 =>
  NTs [(.bool false)] ∧ Q (.bool false) M6
  ) (
  P_fettlelaw8_GrphKinds_12 ds x5 t83 t84 t87 t88 t20 t89 M5 Q
  )
theorem T_fettlelaw8_GrphKinds_11 {ds : List Deferred} {x0 x5 x14 : Value} {M : Store} {Q : Value → Store → Prop} (h : S_fettlelaw8_GrphKinds_11 ds x0 x5 x14 M Q) : P_fettlelaw8_GrphKinds_11 ds x0 x5 x14 M Q := by
  intro f h0 h5 h14; subst h0; subst h5; subst h14
  unfold At
  exact rule (B := 1000) (N := 117) (ct := (.two .no (.two .no (.two .no (.two .no (.two .no (.two (.two .no (.two (.here 1000) .no)) (.here 1001))))))))
    [⟨1002, fun a M => P_fettlelaw8_GrphKinds_12 a.defers (a.get 5) (a.get 16) (a.get 17) (a.get 18) (a.get 19) (a.get 20) (a.get 92) M Q, fun a M => At Try.prog Ex none Try.f8 [1, 1, 1, 1, 1, 1, 1, 1, 1, 1, 1, 1, 1, 0, 1, 0] a M Q⟩,
    ⟨1003, fun _ _ => False, fun a M => At Try.prog Ex none Try.f8 [1, 1, 1, 1, 1, 1, 1, 1, 1, 1, 1, 1, 1, 1] a M Q⟩,
    ⟨1, fun a M => kfin Try.prog Try.f8.results.toList Q 1 a M, fun a M => kfin Try.prog Try.f8.results.toList Q 1 a M⟩]
    [1000, 1001] [1] (by kernel_rfl) (by kernel_rfl) (by kernel_rfl) (by kernel_rfl) (by kernel_rfl)
    ⟨fun a M hn h => by obtain ⟨⟨n, f⟩, ds⟩ := a; have hn : n = 117 := hn; subst hn; exact h f rfl rfl rfl rfl rfl rfl rfl,
    fun _ _ _ h => h.elim,
    fun _ _ _ h => h,
    trivial⟩
    (cast (by kernel_rfl) h)
/-- The record of the range, and a round. -/
def RC_fettlelaw8_GrphKinds_12 (x20 : Value) (st : LoopState) (pe : Nat) (rc : LRec) : Prop := ∃ f : Nat → Value, f 20 = x20 ∧ rc = ⟨st, pe, ⟨117, f⟩, #[93], (sub (bodyOf Try.f8) [1, 1, 1, 1, 1, 1, 1, 1, 1, 1, 1, 1, 1, 0, 1, 0, 0]), (sub (bodyOf Try.f8) [1, 1, 1, 1, 1, 1, 1, 1, 1, 1, 1, 1, 1, 0, 1, 0, 1])⟩
def SY_fettlelaw8_GrphKinds_12 (l : Nat) (x20 : Value) (y93 : Value) (M : Store) (Q : Value → Store → Prop) : Prop :=
  OP (recOf M l) fun r => r.st = .ready ∧
  P_fettlelaw8_GrphKinds_13 l x20 (putRec M l { r with st := .busy }) Q
theorem Y_fettlelaw8_GrphKinds_12 {l pe : Nat} {x20 : Value} {y93 : Value} {M : Store} {Q : Value → Store → Prop} {rc : LRec} (hr : recOf M l = some rc) (hc : RC_fettlelaw8_GrphKinds_12 x20 .ready pe rc) (h : SY_fettlelaw8_GrphKinds_12 l x20 y93 M Q) : RunsY Try.prog Ex l #[y93] M Q := by
  obtain ⟨f, h20, hc⟩ := hc; subst h20; subst hc
  refine runsY_of (args := [y93]) hr (by kernel_rfl) ?_
  exact rule (B := 1000) (N := 117) (ct := .no)
    [⟨0, fun a M => OP (recOf M l) fun r => r.st = .ready ∧ dfr a.defers (P_fettlelaw8_GrphKinds_13 l (a.get 20) (putRec M l { r with st := .busy }) Q), fun a M => kmid Try.prog Ex l (sub (bodyOf Try.f8) [1, 1, 1, 1, 1, 1, 1, 1, 1, 1, 1, 1, 1, 0, 1, 0, 1]) Q 0 a M⟩]
    [] [0] (by kernel_rfl) (by kernel_rfl) (by kernel_rfl) (by kernel_rfl) (by kernel_rfl)
    ⟨fun a M hn h => by obtain ⟨⟨n, f⟩, ds⟩ := a; have hn : n = 117 := hn; subst hn; obtain ⟨r, hr, hs, h⟩ := OP_iff.1 h; obtain ⟨hd, h⟩ := dfr_iff h; have hd : ds = [] := hd; subst hd; exact OP_iff.2 ⟨r, hr, hs, cast (by kernel_rfl) (h f rfl)⟩, trivial⟩
    (cast (by kernel_rfl) h)
def S_fettlelaw8_GrphKinds_12 (ds : List Deferred) (x5 x16 x17 x18 x19 x20 x92 : Value) (M : Store) (Q : Value → Store → Prop) : Prop :=
  ∀ rc : LRec, RC_fettlelaw8_GrphKinds_12 x20 .ready 0 rc →
  rfc Try.prog Ex x92 (M.n + 1) ((M.push (some (.inr (.inr none)))).push (some (.inr (.inr (some rc))))) fun _ M1 =>
  OP (recOf M1 (M.n + 1)) fun r => r.st ≠ .busy ∧
  bif Nat.beq 0 r.pe then (
  P_fettlelaw8_GrphKinds_14 ({ target := .collected M.n, args := #[] } :: ds) x5 x16 x17 x18 x19 x20 (putRec M1 (M.n + 1) { r with st := .exhausted }) Q
  ) else
  False
theorem T_fettlelaw8_GrphKinds_12 {ds : List Deferred} {x5 x16 x17 x18 x19 x20 x92 : Value} {M : Store} {Q : Value → Store → Prop} (h : S_fettlelaw8_GrphKinds_12 ds x5 x16 x17 x18 x19 x20 x92 M Q) : P_fettlelaw8_GrphKinds_12 ds x5 x16 x17 x18 x19 x20 x92 M Q := by
  intro f h5 h16 h17 h18 h19 h20 h92; subst h5; subst h16; subst h17; subst h18; subst h19; subst h20; subst h92
  unfold At
  refine cast (by kernel_rfl) (CW.rf (P := Try.prog) (E := Ex) (g := .tmp 92) (ps := #[93]) (x := (sub (bodyOf Try.f8) [1, 1, 1, 1, 1, 1, 1, 1, 1, 1, 1, 1, 1, 0, 1, 0, 0])) (y := (sub (bodyOf Try.f8) [1, 1, 1, 1, 1, 1, 1, 1, 1, 1, 1, 1, 1, 0, 1, 0, 1])) (a := ⟨⟨117, f⟩, ds⟩) (M := M) (K := kcont Try.prog Ex none (bodyOf Try.f8) [1, 1, 1, 1, 1, 1, 1, 1, 1, 1, 1, 1, 1, 0, 1, 0] (kfin Try.prog Try.f8.results.toList Q)) ?_)
  refine cast (by kernel_rfl) (rfc_mono (k' := fun _ M' => OP (recOf M' (M.n + 1)) fun r => r.st ≠ .busy ∧ kcont Try.prog Ex none (bodyOf Try.f8) [1, 1, 1, 1, 1, 1, 1, 1, 1, 1, 1, 1, 1, 0, 1, 0] (kfin Try.prog Try.f8.results.toList Q) r.pe ⟨⟨117, f⟩, { target := .collected M.n, args := #[] } :: ds⟩ (putRec M' (M.n + 1) { r with st := .exhausted })) (h ⟨.ready, 0, ⟨117, f⟩, #[93], (sub (bodyOf Try.f8) [1, 1, 1, 1, 1, 1, 1, 1, 1, 1, 1, 1, 1, 0, 1, 0, 0]), (sub (bodyOf Try.f8) [1, 1, 1, 1, 1, 1, 1, 1, 1, 1, 1, 1, 1, 0, 1, 0, 1])⟩ ⟨f, rfl, rfl⟩) ?_)
  intro _ M1 h
  obtain ⟨r, hr, hs, h⟩ := OP_iff.1 h
  refine OP_iff.2 ⟨r, hr, hs, ?_⟩
  exact disp_K (N := 117) (L := [⟨0, fun a M => P_fettlelaw8_GrphKinds_14 a.defers (a.get 5) (a.get 16) (a.get 17) (a.get 18) (a.get 19) (a.get 20) M Q, fun a M => At Try.prog Ex none Try.f8 [1, 1, 1, 1, 1, 1, 1, 1, 1, 1, 1, 1, 1, 1] a M Q⟩])
    [0] (by kernel_rfl) (by kernel_rfl)
    ⟨fun a M hn h => by obtain ⟨⟨n, f⟩, ds⟩ := a; have hn : n = 117 := hn; subst hn; exact h f rfl rfl rfl rfl rfl rfl,
    trivial⟩
    rfl (cast (by kernel_rfl) h)
def S_fettlelaw8_GrphKinds_13 (l : Nat) (x20 : Value) (M : Store) (Q : Value → Store → Prop) : Prop :=
  OP (ld 1 false x20 M) fun t94 =>
  OP (binI .add t94 (.int .i64 1)) fun t95 =>
  OP (st 1 x20 t95 M) fun M1 =>
  YE l 0 M1 Q
theorem T_fettlelaw8_GrphKinds_13 {l : Nat} {x20 : Value} {M : Store} {Q : Value → Store → Prop} (h : S_fettlelaw8_GrphKinds_13 l x20 M Q) : P_fettlelaw8_GrphKinds_13 l x20 M Q := by
  intro f h20; subst h20
  unfold AtY
  exact rule (B := 1000) (N := 117) (ct := .no)
    [⟨0, fun a M => kfinY l Q 0 a M, fun a M => kfinY l Q 0 a M⟩]
    [] [0] (by kernel_rfl) (by kernel_rfl) (by kernel_rfl) (by kernel_rfl) (by kernel_rfl)
    ⟨fun _ _ _ h => h,
    trivial⟩
    (cast (by kernel_rfl) h)
def S_fettlelaw8_GrphKinds_14 (ds : List Deferred) (x5 x16 x17 x18 x19 x20 : Value) (M : Store) (Q : Value → Store → Prop) : Prop :=
  BR x17 (
  R F.fettleref1_SameTexts #[x16, x5] M fun t100 M1 =>
  BR t100 (
  BR x19 (
  OP (lenV x18) fun t107 =>
  OP (binI .eql t107 (.int .i64 0)) fun t108 =>
  BR t108 (
  OP (ld 1 false x20 M1) fun t111 =>
  OP (binI .eql t111 (.int .i64 0)) fun t112 =>
  BR t112 (
  R F.fettlelaw8_awake #[] M1 fun t115 M2 =>
  OP (atake ds M2) fun M3 =>
  NTs [t115] ∧ Q t115 M3
  ) (
  OP (atake ds M1) fun M4 =>
  NTs [(.bool false)] ∧ Q (.bool false) M4
  )
  ) (
  OP (atake ds M1) fun M5 =>
  NTs [(.bool false)] ∧ Q (.bool false) M5
  )
  ) (
  OP (atake ds M1) fun M6 =>
  NTs [(.bool false)] ∧ Q (.bool false) M6
  )
  ) (
  OP (atake ds M1) fun M7 =>
  NTs [(.bool false)] ∧ Q (.bool false) M7
  )
  ) (
  OP (atake ds M) fun M8 =>
  NTs [(.bool false)] ∧ Q (.bool false) M8
  )
theorem T_fettlelaw8_GrphKinds_14 {ds : List Deferred} {x5 x16 x17 x18 x19 x20 : Value} {M : Store} {Q : Value → Store → Prop} (h : S_fettlelaw8_GrphKinds_14 ds x5 x16 x17 x18 x19 x20 M Q) : P_fettlelaw8_GrphKinds_14 ds x5 x16 x17 x18 x19 x20 M Q := by
  intro f h5 h16 h17 h18 h19 h20; subst h5; subst h16; subst h17; subst h18; subst h19; subst h20
  unfold At
  exact rule (B := 1000) (N := 117) (ct := .no)
    [⟨1, fun a M => kfin Try.prog Try.f8.results.toList Q 1 a M, fun a M => kfin Try.prog Try.f8.results.toList Q 1 a M⟩]
    [] [1] (by kernel_rfl) (by kernel_rfl) (by kernel_rfl) (by kernel_rfl) (by kernel_rfl)
    ⟨fun _ _ _ h => h,
    trivial⟩
    (cast (by kernel_rfl) h)
def P_fettlelaw8_GrphStable_1 (x0 x5 x6 x7 : Value) (M : Store) (Q : Value → Store → Prop) : Prop :=
  ∀ f : Nat → Value, f 0 = x0 → f 5 = x5 → f 6 = x6 → f 7 = x7 → At Try.prog Ex none Try.f10 [1, 1, 1, 1, 0, 1, 0] ⟨⟨38, f⟩, []⟩ M Q
def P_fettlelaw8_GrphStable_2 (x5 x6 : Value) (M : Store) (Q : Value → Store → Prop) : Prop :=
  ∀ f : Nat → Value, f 5 = x5 → f 6 = x6 → At Try.prog Ex none Try.f10 [1, 1, 1, 1, 1] ⟨⟨38, f⟩, []⟩ M Q
def S_fettlelaw8_GrphStable (x0 x1 : Value) (M : Store) (Q : Value → Store → Prop) : Prop :=
  OP (binI .and x0 (.int .i64 15)) fun t11 =>
  R F.fettlelaw8_edges #[x1, (.bool false)] M fun t13 M1 =>
  LT (.pointer (some ⟨M1.n, 0, none⟩)) (M1.push (some (.inl ([(.slice none 0 0), (.slice none 0 0), (.slice none 0 0), (.slice none 0 0), (.slice none 0 0), (.slice none 0 0), (.slice none 0 0), (.slice none 0 0), (.slice none 0 0), (.slice none 0 0), (.slice none 0 0), (.slice none 0 0), (.slice none 0 0), (.slice none 0 0), (.slice none 0 0), (.slice none 0 0)], Ty.a16_sl_int, true)))) fun t5 M2 =>
  OP (st 16 t5 t13 M2) fun M3 =>
  P_fettlelaw8_GrphStable_1 t11 t5 (.slice none 0 0) (.int .i64 0) M3 Q
theorem T_fettlelaw8_GrphStable {x0 x1 : Value} {M : Store} {Q : Value → Store → Prop} (h : S_fettlelaw8_GrphStable x0 x1 M Q) : R F.fettlelaw8_GrphStable #[x0, x1] M Q := by
  refine runs_of (c := bodyOf Try.f10) Try.func10 rfl (by kernel_rfl) (by kernel_rfl) ?_
  unfold At
  exact rule (B := 1000) (N := 38) (ct := (.two .no (.two .no (.two .no (.two .no (.two (.two .no (.two (.here 1000) .no)) (.here 1001)))))))
    [⟨1002, fun a M => dfr a.defers (P_fettlelaw8_GrphStable_1 (a.get 0) (a.get 5) (a.get 6) (a.get 7) M Q), fun a M => At Try.prog Ex none Try.f10 [1, 1, 1, 1, 0, 1, 0] a M Q⟩,
    ⟨1003, fun _ _ => False, fun a M => At Try.prog Ex none Try.f10 [1, 1, 1, 1, 1] a M Q⟩]
    [1000, 1001] [] (by kernel_rfl) (by kernel_rfl) (by kernel_rfl) (by kernel_rfl) (by kernel_rfl)
    ⟨fun a M hn h => by obtain ⟨⟨n, f⟩, ds⟩ := a; have hn : n = 38 := hn; subst hn; obtain ⟨hd, h⟩ := dfr_iff h; have hd : ds = [] := hd; subst hd; exact h f rfl rfl rfl rfl,
    fun _ _ _ h => h.elim,
    trivial⟩
    (cast (by kernel_rfl) h)
def S_fettlelaw8_GrphStable_1 (x0 x5 x6 x7 : Value) (M : Store) (Q : Value → Store → Prop) : Prop :=
  OP (binI .lss x7 x0) fun t16 =>
  BR t16 (
  OP (bldL (.int .i64 0) 1 1 [(0, x7)]) fun c =>
  LT (.slice (some ⟨M.n, 0, none⟩) 1 1) (M.push (some (.inl (c, Ty.int, true)))) fun t21 M1 =>
  OP2 (appV 1 Ty.int x6 t21 M1) fun t22 M2 =>
  OP (binI .add x7 (.int .i64 1)) fun t18 =>
  P_fettlelaw8_GrphStable_1 x0 x5 t22 t18 M2 Q
  ) (
  P_fettlelaw8_GrphStable_2 x5 x6 M Q
  )
theorem T_fettlelaw8_GrphStable_1 {x0 x5 x6 x7 : Value} {M : Store} {Q : Value → Store → Prop} (h : S_fettlelaw8_GrphStable_1 x0 x5 x6 x7 M Q) : P_fettlelaw8_GrphStable_1 x0 x5 x6 x7 M Q := by
  intro f h0 h5 h6 h7; subst h0; subst h5; subst h6; subst h7
  unfold At
  refine cast (by kernel_rfl) (CW.loop (P := Try.prog) (E := Ex) (rd := none) (x := sub (bodyOf Try.f10) [1, 1, 1, 1, 0, 1, 0, 0]) (a := ⟨⟨38, f⟩, []⟩) (M := M) (K := kcont Try.prog Ex none (bodyOf Try.f10) [1, 1, 1, 1, 0, 1, 0] (kfin Try.prog Try.f10.results.toList Q)) ?_)
  exact rule (B := 1000) (N := 38) (ct := .no)
    [⟨0, fun a M => dfr a.defers (P_fettlelaw8_GrphStable_1 (a.get 0) (a.get 5) (a.get 6) (a.get 7) M Q), fun a M => At Try.prog Ex none Try.f10 [1, 1, 1, 1, 0, 1, 0] a M Q⟩,
    ⟨2, fun a M => dfr a.defers (P_fettlelaw8_GrphStable_2 (a.get 5) (a.get 6) M Q), fun a M => At Try.prog Ex none Try.f10 [1, 1, 1, 1, 1] a M Q⟩]
    [] [0, 2] (by kernel_rfl) (by kernel_rfl) (by kernel_rfl) (by kernel_rfl) (by kernel_rfl)
    ⟨fun a M hn h => by obtain ⟨⟨n, f⟩, ds⟩ := a; have hn : n = 38 := hn; subst hn; obtain ⟨hd, h⟩ := dfr_iff h; have hd : ds = [] := hd; subst hd; exact h f rfl rfl rfl rfl,
    fun a M hn h => by obtain ⟨⟨n, f⟩, ds⟩ := a; have hn : n = 38 := hn; subst hn; obtain ⟨hd, h⟩ := dfr_iff h; have hd : ds = [] := hd; subst hd; exact h f rfl rfl,
    trivial⟩
    (cast (by kernel_rfl) h)
def S_fettlelaw8_GrphStable_2 (x5 x6 : Value) (M : Store) (Q : Value → Store → Prop) : Prop :=
  OP (mkF (.func F.fettlelaw8_GrphStable_c1) [] [x5]) fun t25 =>
  R F.grph_Order_int #[x6, t25] M fun t26 M1 =>
  OP (tup t26 0) fun t27 =>
  OP (tup t26 1) fun t28 =>
  BR t28 (
  R F.fettleref1_SameInts #[t27, x6] M1 fun t33 M2 =>
  BR t33 (
  R F.fettlelaw8_awake #[] M2 fun t36 M3 =>
  NTs [t36] ∧ Q t36 M3
  ) (
  NTs [(.bool false)] ∧ Q (.bool false) M2
  )
  ) (
  NTs [(.bool false)] ∧ Q (.bool false) M1
  )
theorem T_fettlelaw8_GrphStable_2 {x5 x6 : Value} {M : Store} {Q : Value → Store → Prop} (h : S_fettlelaw8_GrphStable_2 x5 x6 M Q) : P_fettlelaw8_GrphStable_2 x5 x6 M Q := by
  intro f h5 h6; subst h5; subst h6
  unfold At
  exact rule (B := 1000) (N := 38) (ct := .no)
    [⟨1, fun a M => kfin Try.prog Try.f10.results.toList Q 1 a M, fun a M => kfin Try.prog Try.f10.results.toList Q 1 a M⟩]
    [] [1] (by kernel_rfl) (by kernel_rfl) (by kernel_rfl) (by kernel_rfl) (by kernel_rfl)
    ⟨fun _ _ _ h => h,
    trivial⟩
    (cast (by kernel_rfl) h)
def P_fettlelaw8_GrphOrder_1 (x0 x7 x8 x9 x10 x11 : Value) (M : Store) (Q : Value → Store → Prop) : Prop :=
  ∀ f : Nat → Value, f 0 = x0 → f 7 = x7 → f 8 = x8 → f 9 = x9 → f 10 = x10 → f 11 = x11 → At Try.prog Ex none Try.f11 [1, 1, 1, 1, 0, 1, 0] ⟨⟨167, f⟩, []⟩ M Q
def P_fettlelaw8_GrphOrder_2 (x0 x7 x8 x9 x10 x11 : Value) (M : Store) (Q : Value → Store → Prop) : Prop :=
  ∀ f : Nat → Value, f 0 = x0 → f 7 = x7 → f 8 = x8 → f 9 = x9 → f 10 = x10 → f 11 = x11 → At Try.prog Ex none Try.f11 [1, 1, 1, 1, 0, 1, 0, 0, 1] ⟨⟨167, f⟩, []⟩ M Q
def P_fettlelaw8_GrphOrder_3 (x7 x8 x9 x10 : Value) (M : Store) (Q : Value → Store → Prop) : Prop :=
  ∀ f : Nat → Value, f 7 = x7 → f 8 = x8 → f 9 = x9 → f 10 = x10 → At Try.prog Ex none Try.f11 [1, 1, 1, 1, 1] ⟨⟨167, f⟩, []⟩ M Q
def P_fettlelaw8_GrphOrder_4 (x7 x9 x10 x13 x14 x15 x16 x17 x18 x19 : Value) (M : Store) (Q : Value → Store → Prop) : Prop :=
  ∀ f : Nat → Value, f 7 = x7 → f 9 = x9 → f 10 = x10 → f 13 = x13 → f 14 = x14 → f 15 = x15 → f 16 = x16 → f 17 = x17 → f 18 = x18 → f 19 = x19 → At Try.prog Ex none Try.f11 [1, 1, 1, 1, 1, 1, 1, 1, 1, 1, 0, 0] ⟨⟨167, f⟩, []⟩ M Q
def P_fettlelaw8_GrphOrder_5 (x7 x9 x10 x13 x14 x15 x16 x17 x18 x19 : Value) (M : Store) (Q : Value → Store → Prop) : Prop :=
  ∀ f : Nat → Value, f 7 = x7 → f 9 = x9 → f 10 = x10 → f 13 = x13 → f 14 = x14 → f 15 = x15 → f 16 = x16 → f 17 = x17 → f 18 = x18 → f 19 = x19 → At Try.prog Ex none Try.f11 [1, 1, 1, 1, 1, 1, 1, 1, 1, 1, 0, 0, 0, 1] ⟨⟨167, f⟩, []⟩ M Q
def P_fettlelaw8_GrphOrder_6 (x13 x14 x15 x16 x17 x19 : Value) (M : Store) (Q : Value → Store → Prop) : Prop :=
  ∀ f : Nat → Value, f 13 = x13 → f 14 = x14 → f 15 = x15 → f 16 = x16 → f 17 = x17 → f 19 = x19 → At Try.prog Ex none Try.f11 [1, 1, 1, 1, 1, 1, 1, 1, 1, 1, 1] ⟨⟨167, f⟩, []⟩ M Q
def P_fettlelaw8_GrphOrder_7 (x7 x9 x10 x13 x14 x15 x16 x17 x18 x19 x20 x21 : Value) (M : Store) (Q : Value → Store → Prop) : Prop :=
  ∀ f : Nat → Value, f 7 = x7 → f 9 = x9 → f 10 = x10 → f 13 = x13 → f 14 = x14 → f 15 = x15 → f 16 = x16 → f 17 = x17 → f 18 = x18 → f 19 = x19 → f 20 = x20 → f 21 = x21 → At Try.prog Ex none Try.f11 [1, 1, 1, 1, 1, 1, 1, 1, 1, 1, 0, 0, 0, 1, 0, 1, 0, 1, 0] ⟨⟨167, f⟩, []⟩ M Q
def P_fettlelaw8_GrphOrder_8 (x7 x9 x10 x13 x14 x15 x16 x17 x18 x19 x20 x21 : Value) (M : Store) (Q : Value → Store → Prop) : Prop :=
  ∀ f : Nat → Value, f 7 = x7 → f 9 = x9 → f 10 = x10 → f 13 = x13 → f 14 = x14 → f 15 = x15 → f 16 = x16 → f 17 = x17 → f 18 = x18 → f 19 = x19 → f 20 = x20 → f 21 = x21 → At Try.prog Ex none Try.f11 [1, 1, 1, 1, 1, 1, 1, 1, 1, 1, 0, 0, 0, 1, 0, 1, 0, 1, 0, 0, 1] ⟨⟨167, f⟩, []⟩ M Q
def P_fettlelaw8_GrphOrder_9 (x7 x9 x10 x13 x14 x15 x16 x17 x18 x19 x20 : Value) (M : Store) (Q : Value → Store → Prop) : Prop :=
  ∀ f : Nat → Value, f 7 = x7 → f 9 = x9 → f 10 = x10 → f 13 = x13 → f 14 = x14 → f 15 = x15 → f 16 = x16 → f 17 = x17 → f 18 = x18 → f 19 = x19 → f 20 = x20 → At Try.prog Ex none Try.f11 [1, 1, 1, 1, 1, 1, 1, 1, 1, 1, 0, 0, 0, 1, 0, 1, 1] ⟨⟨167, f⟩, []⟩ M Q
def P_fettlelaw8_GrphOrder_10 (x7 x9 x10 x13 x14 x15 x16 x17 x18 x19 x20 x21 x22 x97 x98 x99 : Value) (M : Store) (Q : Value → Store → Prop) : Prop :=
  ∀ f : Nat → Value, f 7 = x7 → f 9 = x9 → f 10 = x10 → f 13 = x13 → f 14 = x14 → f 15 = x15 → f 16 = x16 → f 17 = x17 → f 18 = x18 → f 19 = x19 → f 20 = x20 → f 21 = x21 → f 22 = x22 → f 97 = x97 → f 98 = x98 → f 99 = x99 → At Try.prog Ex none Try.f11 [1, 1, 1, 1, 1, 1, 1, 1, 1, 1, 0, 0, 0, 1, 0, 1, 0, 1, 0, 0, 1, 0, 0, 1, 0, 1, 0] ⟨⟨167, f⟩, []⟩ M Q
def P_fettlelaw8_GrphOrder_11 (x7 x9 x10 x13 x14 x15 x16 x17 x18 x19 x20 x21 x22 x97 x98 x99 : Value) (M : Store) (Q : Value → Store → Prop) : Prop :=
  ∀ f : Nat → Value, f 7 = x7 → f 9 = x9 → f 10 = x10 → f 13 = x13 → f 14 = x14 → f 15 = x15 → f 16 = x16 → f 17 = x17 → f 18 = x18 → f 19 = x19 → f 20 = x20 → f 21 = x21 → f 22 = x22 → f 97 = x97 → f 98 = x98 → f 99 = x99 → At Try.prog Ex none Try.f11 [1, 1, 1, 1, 1, 1, 1, 1, 1, 1, 0, 0, 0, 1, 0, 1, 0, 1, 0, 0, 1, 0, 0, 1, 0, 1, 0, 0, 1, 1] ⟨⟨167, f⟩, []⟩ M Q
def P_fettlelaw8_GrphOrder_12 (x7 x9 x10 x13 x14 x15 x16 x17 x18 x19 x20 x21 x22 : Value) (M : Store) (Q : Value → Store → Prop) : Prop :=
  ∀ f : Nat → Value, f 7 = x7 → f 9 = x9 → f 10 = x10 → f 13 = x13 → f 14 = x14 → f 15 = x15 → f 16 = x16 → f 17 = x17 → f 18 = x18 → f 19 = x19 → f 20 = x20 → f 21 = x21 → f 22 = x22 → At Try.prog Ex none Try.f11 [1, 1, 1, 1, 1, 1, 1, 1, 1, 1, 0, 0, 0, 1, 0, 1, 0, 1, 0, 0, 1, 0, 0, 1, 1] ⟨⟨167, f⟩, []⟩ M Q
def P_fettlelaw8_GrphOrder_13 (x7 x9 x10 x13 x14 x15 x16 x17 x18 x19 x20 x21 : Value) (M : Store) (Q : Value → Store → Prop) : Prop :=
  ∀ f : Nat → Value, f 7 = x7 → f 9 = x9 → f 10 = x10 → f 13 = x13 → f 14 = x14 → f 15 = x15 → f 16 = x16 → f 17 = x17 → f 18 = x18 → f 19 = x19 → f 20 = x20 → f 21 = x21 → At Try.prog Ex none Try.f11 [1, 1, 1, 1, 1, 1, 1, 1, 1, 1, 0, 0, 0, 1, 0, 1, 0, 1, 0, 0, 1, 1] ⟨⟨167, f⟩, []⟩ M Q
def S_fettlelaw8_GrphOrder (x0 x1 x2 : Value) (M : Store) (Q : Value → Store → Prop) : Prop :=
  R F.fettlelaw8_edges #[x1, x2] M fun t27 M1 =>
  LT (.pointer (some ⟨M1.n, 0, none⟩)) (M1.push (some (.inl ([(.slice none 0 0), (.slice none 0 0), (.slice none 0 0), (.slice none 0 0), (.slice none 0 0), (.slice none 0 0), (.slice none 0 0), (.slice none 0 0), (.slice none 0 0), (.slice none 0 0), (.slice none 0 0), (.slice none 0 0), (.slice none 0 0), (.slice none 0 0), (.slice none 0 0), (.slice none 0 0)], Ty.a16_sl_int, true)))) fun t7 M2 =>
  OP (st 16 t7 t27 M2) fun M3 =>
  LT (.map (some M3.n)) (M3.push (some (.inr (.inl [])))) fun t28 M4 =>
  P_fettlelaw8_GrphOrder_1 x0 t7 (.slice none 0 0) (.slice none 0 0) t28 (.int .i64 0) M4 Q
theorem T_fettlelaw8_GrphOrder {x0 x1 x2 : Value} {M : Store} {Q : Value → Store → Prop} (h : S_fettlelaw8_GrphOrder x0 x1 x2 M Q) : R F.fettlelaw8_GrphOrder #[x0, x1, x2] M Q := by
  refine runs_of (c := bodyOf Try.f11) Try.func11 rfl (by kernel_rfl) (by kernel_rfl) ?_
  unfold At
  exact rule (B := 1000) (N := 167) (ct := (.two .no (.two .no (.two .no (.two .no (.two (.two .no (.two (.here 1000) .no)) (.here 1001)))))))
    [⟨1002, fun a M => dfr a.defers (P_fettlelaw8_GrphOrder_1 (a.get 0) (a.get 7) (a.get 8) (a.get 9) (a.get 10) (a.get 11) M Q), fun a M => At Try.prog Ex none Try.f11 [1, 1, 1, 1, 0, 1, 0] a M Q⟩,
    ⟨1003, fun _ _ => False, fun a M => At Try.prog Ex none Try.f11 [1, 1, 1, 1, 1] a M Q⟩]
    [1000, 1001] [] (by kernel_rfl) (by kernel_rfl) (by kernel_rfl) (by kernel_rfl) (by kernel_rfl)
    ⟨fun a M hn h => by obtain ⟨⟨n, f⟩, ds⟩ := a; have hn : n = 167 := hn; subst hn; obtain ⟨hd, h⟩ := dfr_iff h; have hd : ds = [] := hd; subst hd; exact h f rfl rfl rfl rfl rfl rfl,
    fun _ _ _ h => h.elim,
    trivial⟩
    (cast (by kernel_rfl) h)
def S_fettlelaw8_GrphOrder_1 (x0 x7 x8 x9 x10 x11 : Value) (M : Store) (Q : Value → Store → Prop) : Prop :=
  OP (lenV x0) fun t31 =>
  OP (binI .lss x11 t31) fun t32 =>
  BR t32 (
  OP (binI .lss x11 (.int .i64 20)) fun t35 =>
  BR t35 (
  P_fettlelaw8_GrphOrder_2 x0 x7 x8 x9 x10 x11 M Q
  ) (
  P_fettlelaw8_GrphOrder_3 x7 x8 x9 x10 M Q
  )
  ) (
  P_fettlelaw8_GrphOrder_3 x7 x8 x9 x10 M Q
  )
theorem T_fettlelaw8_GrphOrder_1 {x0 x7 x8 x9 x10 x11 : Value} {M : Store} {Q : Value → Store → Prop} (h : S_fettlelaw8_GrphOrder_1 x0 x7 x8 x9 x10 x11 M Q) : P_fettlelaw8_GrphOrder_1 x0 x7 x8 x9 x10 x11 M Q := by
  intro f h0 h7 h8 h9 h10 h11; subst h0; subst h7; subst h8; subst h9; subst h10; subst h11
  unfold At
  refine cast (by kernel_rfl) (CW.loop (P := Try.prog) (E := Ex) (rd := none) (x := sub (bodyOf Try.f11) [1, 1, 1, 1, 0, 1, 0, 0]) (a := ⟨⟨167, f⟩, []⟩) (M := M) (K := kcont Try.prog Ex none (bodyOf Try.f11) [1, 1, 1, 1, 0, 1, 0] (kfin Try.prog Try.f11.results.toList Q)) ?_)
  exact rule (B := 1000) (N := 167) (ct := (.two .no (.here 1000)))
    [⟨1002, fun a M => dfr a.defers (P_fettlelaw8_GrphOrder_2 (a.get 0) (a.get 7) (a.get 8) (a.get 9) (a.get 10) (a.get 11) M Q), fun a M => At Try.prog Ex none Try.f11 [1, 1, 1, 1, 0, 1, 0, 0, 1] a M Q⟩,
    ⟨2, fun a M => dfr a.defers (P_fettlelaw8_GrphOrder_3 (a.get 7) (a.get 8) (a.get 9) (a.get 10) M Q), fun a M => At Try.prog Ex none Try.f11 [1, 1, 1, 1, 1] a M Q⟩]
    [1000] [2] (by kernel_rfl) (by kernel_rfl) (by kernel_rfl) (by kernel_rfl) (by kernel_rfl)
    ⟨fun a M hn h => by obtain ⟨⟨n, f⟩, ds⟩ := a; have hn : n = 167 := hn; subst hn; obtain ⟨hd, h⟩ := dfr_iff h; have hd : ds = [] := hd; subst hd; exact h f rfl rfl rfl rfl rfl rfl,
    fun a M hn h => by obtain ⟨⟨n, f⟩, ds⟩ := a; have hn : n = 167 := hn; subst hn; obtain ⟨hd, h⟩ := dfr_iff h; have hd : ds = [] := hd; subst hd; exact h f rfl rfl rfl rfl,
    trivial⟩
    (cast (by kernel_rfl) h)
def S_fettlelaw8_GrphOrder_2 (x0 x7 x8 x9 x10 x11 : Value) (M : Store) (Q : Value → Store → Prop) : Prop :=
  OP (ixA 1 x0 x11) fun t41 =>
  OP (ld 1 false t41 M) fun t42 =>
  OP (binI .and t42 (.int .i64 15)) fun t43 =>
  OP (bldL (.int .i64 0) 1 1 [(0, t43)]) fun c =>
  LT (.slice (some ⟨M.n, 0, none⟩) 1 1) (M.push (some (.inl (c, Ty.int, true)))) fun t46 M1 =>
  OP2 (appV 1 Ty.int x8 t46 M1) fun t47 M2 =>
  OP (lku (.int .i64) (.bool false) x10 t43 false M2) fun t50 =>
  OP (aun .not t50) fun t51 =>
  BR t51 (
  OP (mup (.int .i64) x10 t43 (.bool true) M2) fun M3 =>
  OP (bldL (.int .i64 0) 1 1 [(0, t43)]) fun c_1 =>
  LT (.slice (some ⟨M3.n, 0, none⟩) 1 1) (M3.push (some (.inl (c_1, Ty.int, true)))) fun t56 M4 =>
  OP2 (appV 1 Ty.int x9 t56 M4) fun t57 M5 =>
  OP (binI .add x11 (.int .i64 1)) fun t38 =>
  P_fettlelaw8_GrphOrder_1 x0 x7 t47 t57 x10 t38 M5 Q
  ) (
  OP (binI .add x11 (.int .i64 1)) fun t38_1 =>
  P_fettlelaw8_GrphOrder_1 x0 x7 t47 x9 x10 t38_1 M2 Q
  )
theorem T_fettlelaw8_GrphOrder_2 {x0 x7 x8 x9 x10 x11 : Value} {M : Store} {Q : Value → Store → Prop} (h : S_fettlelaw8_GrphOrder_2 x0 x7 x8 x9 x10 x11 M Q) : P_fettlelaw8_GrphOrder_2 x0 x7 x8 x9 x10 x11 M Q := by
  intro f h0 h7 h8 h9 h10 h11; subst h0; subst h7; subst h8; subst h9; subst h10; subst h11
  unfold At
  exact rule (B := 1000) (N := 167) (ct := .no)
    [⟨0, fun a M => dfr a.defers (P_fettlelaw8_GrphOrder_1 (a.get 0) (a.get 7) (a.get 8) (a.get 9) (a.get 10) (a.get 11) M Q), fun a M => At Try.prog Ex none Try.f11 [1, 1, 1, 1, 0, 1, 0] a M Q⟩]
    [] [0] (by kernel_rfl) (by kernel_rfl) (by kernel_rfl) (by kernel_rfl) (by kernel_rfl)
    ⟨fun a M hn h => by obtain ⟨⟨n, f⟩, ds⟩ := a; have hn : n = 167 := hn; subst hn; obtain ⟨hd, h⟩ := dfr_iff h; have hd : ds = [] := hd; subst hd; exact h f rfl rfl rfl rfl rfl rfl,
    trivial⟩
    (cast (by kernel_rfl) h)
def S_fettlelaw8_GrphOrder_3 (x7 x8 x9 x10 : Value) (M : Store) (Q : Value → Store → Prop) : Prop :=
  OP (mkF (.func F.fettlelaw8_GrphOrder_c1) [] [x7]) fun t60 =>
  R F.grph_Order_int #[x8, t60] M fun t61 M1 =>
  OP (tup t61 0) fun t62 =>
  OP (tup t61 1) fun t63 =>
  LT (.pointer (some ⟨M1.n, 0, none⟩)) (M1.push (some (.inl ([.nilFunc], Ty.func_sl_int_sl_string, true)))) fun t15 M2 =>
  OP (st 1 t15 (.func (.func F.fettlelaw8_GrphOrder_c2) #[] #[]) M2) fun M3 =>
  OP (ld 1 false t15 M3) fun t65 =>
  KC t65 [x8] M3 fun t67 M4 =>
  OP (mkF (.func F.fettlelaw8_GrphOrder_c3) [] [t15, x7]) fun t68 =>
  R F.grph_Order_string #[t67, t68] M4 fun t69 M5 =>
  OP (tup t69 0) fun t70 =>
  OP (tup t69 1) fun t71 =>
  LT (.map (some M5.n)) (M5.push (some (.inr (.inl [])))) fun t72 M6 =>
  P_fettlelaw8_GrphOrder_4 x7 x9 x10 t62 t63 t15 t70 t71 t72 (.slice none 0 0) M6 Q
theorem T_fettlelaw8_GrphOrder_3 {x7 x8 x9 x10 : Value} {M : Store} {Q : Value → Store → Prop} (h : S_fettlelaw8_GrphOrder_3 x7 x8 x9 x10 M Q) : P_fettlelaw8_GrphOrder_3 x7 x8 x9 x10 M Q := by
  intro f h7 h8 h9 h10; subst h7; subst h8; subst h9; subst h10
  unfold At
  exact rule (B := 1000) (N := 167) (ct := (.two .no (.two .no (.two .no (.two .no (.two .no (.two (.two (.here 1000) .no) (.here 1001))))))))
    [⟨1002, fun a M => dfr a.defers (P_fettlelaw8_GrphOrder_4 (a.get 7) (a.get 9) (a.get 10) (a.get 13) (a.get 14) (a.get 15) (a.get 16) (a.get 17) (a.get 18) (a.get 19) M Q), fun a M => At Try.prog Ex none Try.f11 [1, 1, 1, 1, 1, 1, 1, 1, 1, 1, 0, 0] a M Q⟩,
    ⟨1003, fun _ _ => False, fun a M => At Try.prog Ex none Try.f11 [1, 1, 1, 1, 1, 1, 1, 1, 1, 1, 1] a M Q⟩]
    [1000, 1001] [] (by kernel_rfl) (by kernel_rfl) (by kernel_rfl) (by kernel_rfl) (by kernel_rfl)
    ⟨fun a M hn h => by obtain ⟨⟨n, f⟩, ds⟩ := a; have hn : n = 167 := hn; subst hn; obtain ⟨hd, h⟩ := dfr_iff h; have hd : ds = [] := hd; subst hd; exact h f rfl rfl rfl rfl rfl rfl rfl rfl rfl rfl,
    fun _ _ _ h => h.elim,
    trivial⟩
    (cast (by kernel_rfl) h)
def S_fettlelaw8_GrphOrder_4 (x7 x9 x10 x13 x14 x15 x16 x17 x18 x19 : Value) (M : Store) (Q : Value → Store → Prop) : Prop :=
  OP (lenV x19) fun t74 =>
  OP (lenV x9) fun t76 =>
  OP (binI .lss t74 t76) fun t77 =>
  BR t77 (
  P_fettlelaw8_GrphOrder_5 x7 x9 x10 x13 x14 x15 x16 x17 x18 x19 M Q
  ) (
  P_fettlelaw8_GrphOrder_6 x13 x14 x15 x16 x17 x19 M Q
  )
theorem T_fettlelaw8_GrphOrder_4 {x7 x9 x10 x13 x14 x15 x16 x17 x18 x19 : Value} {M : Store} {Q : Value → Store → Prop} (h : S_fettlelaw8_GrphOrder_4 x7 x9 x10 x13 x14 x15 x16 x17 x18 x19 M Q) : P_fettlelaw8_GrphOrder_4 x7 x9 x10 x13 x14 x15 x16 x17 x18 x19 M Q := by
  intro f h7 h9 h10 h13 h14 h15 h16 h17 h18 h19; subst h7; subst h9; subst h10; subst h13; subst h14; subst h15; subst h16; subst h17; subst h18; subst h19
  unfold At
  refine cast (by kernel_rfl) (CW.loop (P := Try.prog) (E := Ex) (rd := none) (x := sub (bodyOf Try.f11) [1, 1, 1, 1, 1, 1, 1, 1, 1, 1, 0, 0, 0]) (a := ⟨⟨167, f⟩, []⟩) (M := M) (K := kcont Try.prog Ex none (bodyOf Try.f11) [1, 1, 1, 1, 1, 1, 1, 1, 1, 1, 0, 0] (kfin Try.prog Try.f11.results.toList Q)) ?_)
  exact rule (B := 1000) (N := 167) (ct := (.two .no (.here 1000)))
    [⟨1002, fun a M => dfr a.defers (P_fettlelaw8_GrphOrder_5 (a.get 7) (a.get 9) (a.get 10) (a.get 13) (a.get 14) (a.get 15) (a.get 16) (a.get 17) (a.get 18) (a.get 19) M Q), fun a M => At Try.prog Ex none Try.f11 [1, 1, 1, 1, 1, 1, 1, 1, 1, 1, 0, 0, 0, 1] a M Q⟩,
    ⟨4, fun a M => dfr a.defers (P_fettlelaw8_GrphOrder_6 (a.get 13) (a.get 14) (a.get 15) (a.get 16) (a.get 17) (a.get 19) M Q), fun a M => At Try.prog Ex none Try.f11 [1, 1, 1, 1, 1, 1, 1, 1, 1, 1, 1] a M Q⟩]
    [1000] [4] (by kernel_rfl) (by kernel_rfl) (by kernel_rfl) (by kernel_rfl) (by kernel_rfl)
    ⟨fun a M hn h => by obtain ⟨⟨n, f⟩, ds⟩ := a; have hn : n = 167 := hn; subst hn; obtain ⟨hd, h⟩ := dfr_iff h; have hd : ds = [] := hd; subst hd; exact h f rfl rfl rfl rfl rfl rfl rfl rfl rfl rfl,
    fun a M hn h => by obtain ⟨⟨n, f⟩, ds⟩ := a; have hn : n = 167 := hn; subst hn; obtain ⟨hd, h⟩ := dfr_iff h; have hd : ds = [] := hd; subst hd; exact h f rfl rfl rfl rfl rfl rfl,
    trivial⟩
    (cast (by kernel_rfl) h)
def S_fettlelaw8_GrphOrder_5 (x7 x9 x10 x13 x14 x15 x16 x17 x18 x19 : Value) (M : Store) (Q : Value → Store → Prop) : Prop :=
  OP (lenV x9) fun t79 =>
  OP (binI .sub t79 (.int .i64 1)) fun t80 =>
  P_fettlelaw8_GrphOrder_7 x7 x9 x10 x13 x14 x15 x16 x17 x18 x19 (.int .i64 (-1)) t80 M Q
theorem T_fettlelaw8_GrphOrder_5 {x7 x9 x10 x13 x14 x15 x16 x17 x18 x19 : Value} {M : Store} {Q : Value → Store → Prop} (h : S_fettlelaw8_GrphOrder_5 x7 x9 x10 x13 x14 x15 x16 x17 x18 x19 M Q) : P_fettlelaw8_GrphOrder_5 x7 x9 x10 x13 x14 x15 x16 x17 x18 x19 M Q := by
  intro f h7 h9 h10 h13 h14 h15 h16 h17 h18 h19; subst h7; subst h9; subst h10; subst h13; subst h14; subst h15; subst h16; subst h17; subst h18; subst h19
  unfold At
  exact rule (B := 1000) (N := 167) (ct := (.two (.two .no (.two (.two .no (.two (.here 1000) .no)) (.here 1001))) .no))
    [⟨1002, fun a M => dfr a.defers (P_fettlelaw8_GrphOrder_7 (a.get 7) (a.get 9) (a.get 10) (a.get 13) (a.get 14) (a.get 15) (a.get 16) (a.get 17) (a.get 18) (a.get 19) (a.get 20) (a.get 21) M Q), fun a M => At Try.prog Ex none Try.f11 [1, 1, 1, 1, 1, 1, 1, 1, 1, 1, 0, 0, 0, 1, 0, 1, 0, 1, 0] a M Q⟩,
    ⟨1003, fun _ _ => False, fun a M => At Try.prog Ex none Try.f11 [1, 1, 1, 1, 1, 1, 1, 1, 1, 1, 0, 0, 0, 1, 0, 1, 1] a M Q⟩]
    [1000, 1001] [] (by kernel_rfl) (by kernel_rfl) (by kernel_rfl) (by kernel_rfl) (by kernel_rfl)
    ⟨fun a M hn h => by obtain ⟨⟨n, f⟩, ds⟩ := a; have hn : n = 167 := hn; subst hn; obtain ⟨hd, h⟩ := dfr_iff h; have hd : ds = [] := hd; subst hd; exact h f rfl rfl rfl rfl rfl rfl rfl rfl rfl rfl rfl rfl,
    fun _ _ _ h => h.elim,
    trivial⟩
    (cast (by kernel_rfl) h)
def S_fettlelaw8_GrphOrder_6 (x13 x14 x15 x16 x17 x19 : Value) (M : Store) (Q : Value → Store → Prop) : Prop :=
  BR x14 (
  BR x17 (
  R F.fettleref1_SameInts #[x13, x19] M fun t155 M1 =>
  BR t155 (
  OP (ld 1 false x15 M1) fun t159 =>
  KC t159 [x19] M1 fun t161 M2 =>
  R F.fettleref1_SameTexts #[x16, t161] M2 fun t162 M3 =>
  BR t162 (
  R F.fettlelaw8_awake #[] M3 fun t165 M4 =>
  NTs [t165] ∧ Q t165 M4
  ) (
  NTs [(.bool false)] ∧ Q (.bool false) M3
  )
  ) (
  NTs [(.bool false)] ∧ Q (.bool false) M1
  )
  ) (
  NTs [(.bool false)] ∧ Q (.bool false) M
  )
  ) (
  NTs [(.bool false)] ∧ Q (.bool false) M
  )
theorem T_fettlelaw8_GrphOrder_6 {x13 x14 x15 x16 x17 x19 : Value} {M : Store} {Q : Value → Store → Prop} (h : S_fettlelaw8_GrphOrder_6 x13 x14 x15 x16 x17 x19 M Q) : P_fettlelaw8_GrphOrder_6 x13 x14 x15 x16 x17 x19 M Q := by
  intro f h13 h14 h15 h16 h17 h19; subst h13; subst h14; subst h15; subst h16; subst h17; subst h19
  unfold At
  exact rule (B := 1000) (N := 167) (ct := .no)
    [⟨1, fun a M => kfin Try.prog Try.f11.results.toList Q 1 a M, fun a M => kfin Try.prog Try.f11.results.toList Q 1 a M⟩]
    [] [1] (by kernel_rfl) (by kernel_rfl) (by kernel_rfl) (by kernel_rfl) (by kernel_rfl)
    ⟨fun _ _ _ h => h,
    trivial⟩
    (cast (by kernel_rfl) h)
def S_fettlelaw8_GrphOrder_7 (x7 x9 x10 x13 x14 x15 x16 x17 x18 x19 x20 x21 : Value) (M : Store) (Q : Value → Store → Prop) : Prop :=
  OP (binI .geq x21 (.int .i64 0)) fun t82 =>
  BR t82 (
  P_fettlelaw8_GrphOrder_8 x7 x9 x10 x13 x14 x15 x16 x17 x18 x19 x20 x21 M Q
  ) (
  P_fettlelaw8_GrphOrder_9 x7 x9 x10 x13 x14 x15 x16 x17 x18 x19 x20 M Q
  )
theorem T_fettlelaw8_GrphOrder_7 {x7 x9 x10 x13 x14 x15 x16 x17 x18 x19 x20 x21 : Value} {M : Store} {Q : Value → Store → Prop} (h : S_fettlelaw8_GrphOrder_7 x7 x9 x10 x13 x14 x15 x16 x17 x18 x19 x20 x21 M Q) : P_fettlelaw8_GrphOrder_7 x7 x9 x10 x13 x14 x15 x16 x17 x18 x19 x20 x21 M Q := by
  intro f h7 h9 h10 h13 h14 h15 h16 h17 h18 h19 h20 h21; subst h7; subst h9; subst h10; subst h13; subst h14; subst h15; subst h16; subst h17; subst h18; subst h19; subst h20; subst h21
  unfold At
  refine cast (by kernel_rfl) (CW.loop (P := Try.prog) (E := Ex) (rd := none) (x := sub (bodyOf Try.f11) [1, 1, 1, 1, 1, 1, 1, 1, 1, 1, 0, 0, 0, 1, 0, 1, 0, 1, 0, 0]) (a := ⟨⟨167, f⟩, []⟩) (M := M) (K := kcont Try.prog Ex none (bodyOf Try.f11) [1, 1, 1, 1, 1, 1, 1, 1, 1, 1, 0, 0, 0, 1, 0, 1, 0, 1, 0] (kfin Try.prog Try.f11.results.toList Q)) ?_)
  exact rule (B := 1000) (N := 167) (ct := (.two .no (.here 1000)))
    [⟨1002, fun a M => dfr a.defers (P_fettlelaw8_GrphOrder_8 (a.get 7) (a.get 9) (a.get 10) (a.get 13) (a.get 14) (a.get 15) (a.get 16) (a.get 17) (a.get 18) (a.get 19) (a.get 20) (a.get 21) M Q), fun a M => At Try.prog Ex none Try.f11 [1, 1, 1, 1, 1, 1, 1, 1, 1, 1, 0, 0, 0, 1, 0, 1, 0, 1, 0, 0, 1] a M Q⟩,
    ⟨6, fun a M => dfr a.defers (P_fettlelaw8_GrphOrder_9 (a.get 7) (a.get 9) (a.get 10) (a.get 13) (a.get 14) (a.get 15) (a.get 16) (a.get 17) (a.get 18) (a.get 19) (a.get 20) M Q), fun a M => At Try.prog Ex none Try.f11 [1, 1, 1, 1, 1, 1, 1, 1, 1, 1, 0, 0, 0, 1, 0, 1, 1] a M Q⟩]
    [1000] [6] (by kernel_rfl) (by kernel_rfl) (by kernel_rfl) (by kernel_rfl) (by kernel_rfl)
    ⟨fun a M hn h => by obtain ⟨⟨n, f⟩, ds⟩ := a; have hn : n = 167 := hn; subst hn; obtain ⟨hd, h⟩ := dfr_iff h; have hd : ds = [] := hd; subst hd; exact h f rfl rfl rfl rfl rfl rfl rfl rfl rfl rfl rfl rfl,
    fun a M hn h => by obtain ⟨⟨n, f⟩, ds⟩ := a; have hn : n = 167 := hn; subst hn; obtain ⟨hd, h⟩ := dfr_iff h; have hd : ds = [] := hd; subst hd; exact h f rfl rfl rfl rfl rfl rfl rfl rfl rfl rfl rfl,
    trivial⟩
    (cast (by kernel_rfl) h)
def S_fettlelaw8_GrphOrder_8 (x7 x9 x10 x13 x14 x15 x16 x17 x18 x19 x20 x21 : Value) (M : Store) (Q : Value → Store → Prop) : Prop :=
  OP (ixA 1 x9 x21) fun t88 =>
  OP (ld 1 false t88 M) fun t89 =>
  OP (lku (.int .i64) (.bool false) x18 t89 false M) fun t90 =>
  OP (aun .not t90) fun t91 =>
  OP (ixA 1 x9 x21) fun t94 =>
  OP (ld 1 false t94 M) fun t95 =>
  OP (ixP 1 16 x7 t95) fun t96 =>
  OP (ld 1 false t96 M) fun t97 =>
  OP (lenV t97) fun t98 =>
  P_fettlelaw8_GrphOrder_10 x7 x9 x10 x13 x14 x15 x16 x17 x18 x19 x20 x21 t91 t97 t98 (.int .i64 0) M Q
theorem T_fettlelaw8_GrphOrder_8 {x7 x9 x10 x13 x14 x15 x16 x17 x18 x19 x20 x21 : Value} {M : Store} {Q : Value → Store → Prop} (h : S_fettlelaw8_GrphOrder_8 x7 x9 x10 x13 x14 x15 x16 x17 x18 x19 x20 x21 M Q) : P_fettlelaw8_GrphOrder_8 x7 x9 x10 x13 x14 x15 x16 x17 x18 x19 x20 x21 M Q := by
  intro f h7 h9 h10 h13 h14 h15 h16 h17 h18 h19 h20 h21; subst h7; subst h9; subst h10; subst h13; subst h14; subst h15; subst h16; subst h17; subst h18; subst h19; subst h20; subst h21
  unfold At
  exact rule (B := 1000) (N := 167) (ct := (.two (.two (.two .no (.two (.two .no (.two (.here 1000) .no)) (.here 1001))) .no) (.here 1002)))
    [⟨1002, fun a M => dfr a.defers (P_fettlelaw8_GrphOrder_10 (a.get 7) (a.get 9) (a.get 10) (a.get 13) (a.get 14) (a.get 15) (a.get 16) (a.get 17) (a.get 18) (a.get 19) (a.get 20) (a.get 21) (a.get 22) (a.get 97) (a.get 98) (a.get 99) M Q), fun a M => At Try.prog Ex none Try.f11 [1, 1, 1, 1, 1, 1, 1, 1, 1, 1, 0, 0, 0, 1, 0, 1, 0, 1, 0, 0, 1, 0, 0, 1, 0, 1, 0] a M Q⟩,
    ⟨1003, fun _ _ => False, fun a M => At Try.prog Ex none Try.f11 [1, 1, 1, 1, 1, 1, 1, 1, 1, 1, 0, 0, 0, 1, 0, 1, 0, 1, 0, 0, 1, 0, 0, 1, 1] a M Q⟩,
    ⟨1004, fun _ _ => False, fun a M => At Try.prog Ex none Try.f11 [1, 1, 1, 1, 1, 1, 1, 1, 1, 1, 0, 0, 0, 1, 0, 1, 0, 1, 0, 0, 1, 1] a M Q⟩]
    [1000, 1001, 1002] [] (by kernel_rfl) (by kernel_rfl) (by kernel_rfl) (by kernel_rfl) (by kernel_rfl)
    ⟨fun a M hn h => by obtain ⟨⟨n, f⟩, ds⟩ := a; have hn : n = 167 := hn; subst hn; obtain ⟨hd, h⟩ := dfr_iff h; have hd : ds = [] := hd; subst hd; exact h f rfl rfl rfl rfl rfl rfl rfl rfl rfl rfl rfl rfl rfl rfl rfl rfl,
    fun _ _ _ h => h.elim,
    fun _ _ _ h => h.elim,
    trivial⟩
    (cast (by kernel_rfl) h)
def S_fettlelaw8_GrphOrder_9 (x7 x9 x10 x13 x14 x15 x16 x17 x18 x19 x20 : Value) (M : Store) (Q : Value → Store → Prop) : Prop :=
  OP (binI .lss x20 (.int .i64 0)) fun t122 =>
  BR t122 (
  OP (aun .not x14) fun t124 =>
  BR t124 (
  OP (aun .not x17) fun t127 =>
  BR t127 (
  OP (lenV x13) fun t131 =>
  OP (binI .eql t131 (.int .i64 0)) fun t132 =>
  BR t132 (
  OP (lenV x16) fun t136 =>
  OP (binI .eql t136 (.int .i64 0)) fun t137 =>
  BR t137 (
  R F.fettlelaw8_awake #[] M fun t140 M1 =>
  NTs [t140] ∧ Q t140 M1
  ) (
  NTs [(.bool false)] ∧ Q (.bool false) M
  )
  ) (
  NTs [(.bool false)] ∧ Q (.bool false) M
  )
  ) (
  NTs [(.bool false)] ∧ Q (.bool false) M
  )
  ) (
  NTs [(.bool false)] ∧ Q (.bool false) M
  )
  ) (
  OP (mup (.int .i64) x18 x20 (.bool true) M) fun M2 =>
  OP (bldL (.int .i64 0) 1 1 [(0, x20)]) fun c =>
  LT (.slice (some ⟨M2.n, 0, none⟩) 1 1) (M2.push (some (.inl (c, Ty.int, true)))) fun t146 M3 =>
  OP2 (appV 1 Ty.int x19 t146 M3) fun t147 M4 =>
  P_fettlelaw8_GrphOrder_4 x7 x9 x10 x13 x14 x15 x16 x17 x18 t147 M4 Q
  )
theorem T_fettlelaw8_GrphOrder_9 {x7 x9 x10 x13 x14 x15 x16 x17 x18 x19 x20 : Value} {M : Store} {Q : Value → Store → Prop} (h : S_fettlelaw8_GrphOrder_9 x7 x9 x10 x13 x14 x15 x16 x17 x18 x19 x20 M Q) : P_fettlelaw8_GrphOrder_9 x7 x9 x10 x13 x14 x15 x16 x17 x18 x19 x20 M Q := by
  intro f h7 h9 h10 h13 h14 h15 h16 h17 h18 h19 h20; subst h7; subst h9; subst h10; subst h13; subst h14; subst h15; subst h16; subst h17; subst h18; subst h19; subst h20
  unfold At
  exact rule (B := 1000) (N := 167) (ct := .no)
    [⟨0, fun a M => dfr a.defers (P_fettlelaw8_GrphOrder_4 (a.get 7) (a.get 9) (a.get 10) (a.get 13) (a.get 14) (a.get 15) (a.get 16) (a.get 17) (a.get 18) (a.get 19) M Q), fun a M => At Try.prog Ex none Try.f11 [1, 1, 1, 1, 1, 1, 1, 1, 1, 1, 0, 0] a M Q⟩,
    ⟨1, fun a M => kfin Try.prog Try.f11.results.toList Q 1 a M, fun a M => kfin Try.prog Try.f11.results.toList Q 1 a M⟩]
    [] [0, 1] (by kernel_rfl) (by kernel_rfl) (by kernel_rfl) (by kernel_rfl) (by kernel_rfl)
    ⟨fun a M hn h => by obtain ⟨⟨n, f⟩, ds⟩ := a; have hn : n = 167 := hn; subst hn; obtain ⟨hd, h⟩ := dfr_iff h; have hd : ds = [] := hd; subst hd; exact h f rfl rfl rfl rfl rfl rfl rfl rfl rfl rfl,
    fun _ _ _ h => h,
    trivial⟩
    (cast (by kernel_rfl) h)
def S_fettlelaw8_GrphOrder_10 (x7 x9 x10 x13 x14 x15 x16 x17 x18 x19 x20 x21 x22 x97 x98 x99 : Value) (M : Store) (Q : Value → Store → Prop) : Prop :=
  OP (binI .lss x99 x98) fun t100 =>
  BR t100 (
  P_fettlelaw8_GrphOrder_11 x7 x9 x10 x13 x14 x15 x16 x17 x18 x19 x20 x21 x22 x97 x98 x99 M Q
  ) (
  P_fettlelaw8_GrphOrder_12 x7 x9 x10 x13 x14 x15 x16 x17 x18 x19 x20 x21 x22 M Q
  )
theorem T_fettlelaw8_GrphOrder_10 {x7 x9 x10 x13 x14 x15 x16 x17 x18 x19 x20 x21 x22 x97 x98 x99 : Value} {M : Store} {Q : Value → Store → Prop} (h : S_fettlelaw8_GrphOrder_10 x7 x9 x10 x13 x14 x15 x16 x17 x18 x19 x20 x21 x22 x97 x98 x99 M Q) : P_fettlelaw8_GrphOrder_10 x7 x9 x10 x13 x14 x15 x16 x17 x18 x19 x20 x21 x22 x97 x98 x99 M Q := by
  intro f h7 h9 h10 h13 h14 h15 h16 h17 h18 h19 h20 h21 h22 h97 h98 h99; subst h7; subst h9; subst h10; subst h13; subst h14; subst h15; subst h16; subst h17; subst h18; subst h19; subst h20; subst h21; subst h22; subst h97; subst h98; subst h99
  unfold At
  refine cast (by kernel_rfl) (CW.loop (P := Try.prog) (E := Ex) (rd := none) (x := sub (bodyOf Try.f11) [1, 1, 1, 1, 1, 1, 1, 1, 1, 1, 0, 0, 0, 1, 0, 1, 0, 1, 0, 0, 1, 0, 0, 1, 0, 1, 0, 0]) (a := ⟨⟨167, f⟩, []⟩) (M := M) (K := kcont Try.prog Ex none (bodyOf Try.f11) [1, 1, 1, 1, 1, 1, 1, 1, 1, 1, 0, 0, 0, 1, 0, 1, 0, 1, 0, 0, 1, 0, 0, 1, 0, 1, 0] (kfin Try.prog Try.f11.results.toList Q)) ?_)
  exact rule (B := 1000) (N := 167) (ct := (.two .no (.two .no (.here 1000))))
    [⟨1002, fun a M => dfr a.defers (P_fettlelaw8_GrphOrder_11 (a.get 7) (a.get 9) (a.get 10) (a.get 13) (a.get 14) (a.get 15) (a.get 16) (a.get 17) (a.get 18) (a.get 19) (a.get 20) (a.get 21) (a.get 22) (a.get 97) (a.get 98) (a.get 99) M Q), fun a M => At Try.prog Ex none Try.f11 [1, 1, 1, 1, 1, 1, 1, 1, 1, 1, 0, 0, 0, 1, 0, 1, 0, 1, 0, 0, 1, 0, 0, 1, 0, 1, 0, 0, 1, 1] a M Q⟩,
    ⟨8, fun a M => dfr a.defers (P_fettlelaw8_GrphOrder_12 (a.get 7) (a.get 9) (a.get 10) (a.get 13) (a.get 14) (a.get 15) (a.get 16) (a.get 17) (a.get 18) (a.get 19) (a.get 20) (a.get 21) (a.get 22) M Q), fun a M => At Try.prog Ex none Try.f11 [1, 1, 1, 1, 1, 1, 1, 1, 1, 1, 0, 0, 0, 1, 0, 1, 0, 1, 0, 0, 1, 0, 0, 1, 1] a M Q⟩]
    [1000] [8] (by kernel_rfl) (by kernel_rfl) (by kernel_rfl) (by kernel_rfl) (by kernel_rfl)
    ⟨fun a M hn h => by obtain ⟨⟨n, f⟩, ds⟩ := a; have hn : n = 167 := hn; subst hn; obtain ⟨hd, h⟩ := dfr_iff h; have hd : ds = [] := hd; subst hd; exact h f rfl rfl rfl rfl rfl rfl rfl rfl rfl rfl rfl rfl rfl rfl rfl rfl,
    fun a M hn h => by obtain ⟨⟨n, f⟩, ds⟩ := a; have hn : n = 167 := hn; subst hn; obtain ⟨hd, h⟩ := dfr_iff h; have hd : ds = [] := hd; subst hd; exact h f rfl rfl rfl rfl rfl rfl rfl rfl rfl rfl rfl rfl rfl,
    trivial⟩
    (cast (by kernel_rfl) h)
def S_fettlelaw8_GrphOrder_11 (x7 x9 x10 x13 x14 x15 x16 x17 x18 x19 x20 x21 x22 x97 x98 x99 : Value) (M : Store) (Q : Value → Store → Prop) : Prop :=
  OP (ixA 1 x97 x99) fun t101 =>
  OP (ld 1 false t101 M) fun t102 =>
  BR x22 (
  OP (lku (.int .i64) (.bool false) x10 t102 false M) fun t107 =>
  OP (aun .not t107) fun t108 =>
  BR3 t108 (
  OP (binI .add x99 (.int .i64 1)) fun t115 =>
  P_fettlelaw8_GrphOrder_10 x7 x9 x10 x13 x14 x15 x16 x17 x18 x19 x20 x21 (.bool true) x97 x98 t115 M Q
  ) (
  OP (lku (.int .i64) (.bool false) x18 t102 false M) fun t112 =>
  OP (binI .add x99 (.int .i64 1)) fun t115_1 =>
  P_fettlelaw8_GrphOrder_10 x7 x9 x10 x13 x14 x15 x16 x17 x18 x19 x20 x21 t112 x97 x98 t115_1 M Q
  ) (
  BR t108 (
  OP (binI .add x99 (.int .i64 1)) fun t115_2 =>
  P_fettlelaw8_GrphOrder_10 x7 x9 x10 x13 x14 x15 x16 x17 x18 x19 x20 x21 (.bool true) x97 x98 t115_2 M Q
  ) (
  OP (binI .add x99 (.int .i64 1)) fun t115_3 =>
  P_fettlelaw8_GrphOrder_10 x7 x9 x10 x13 x14 x15 x16 x17 x18 x19 x20 x21 undef x97 x98 t115_3 M Q
  )
  )
  ) (
  OP (binI .add x99 (.int .i64 1)) fun t115_4 =>
  P_fettlelaw8_GrphOrder_10 x7 x9 x10 x13 x14 x15 x16 x17 x18 x19 x20 x21 (.bool false) x97 x98 t115_4 M Q
  )
theorem T_fettlelaw8_GrphOrder_11 {x7 x9 x10 x13 x14 x15 x16 x17 x18 x19 x20 x21 x22 x97 x98 x99 : Value} {M : Store} {Q : Value → Store → Prop} (h : S_fettlelaw8_GrphOrder_11 x7 x9 x10 x13 x14 x15 x16 x17 x18 x19 x20 x21 x22 x97 x98 x99 M Q) : P_fettlelaw8_GrphOrder_11 x7 x9 x10 x13 x14 x15 x16 x17 x18 x19 x20 x21 x22 x97 x98 x99 M Q := by
  intro f h7 h9 h10 h13 h14 h15 h16 h17 h18 h19 h20 h21 h22 h97 h98 h99; subst h7; subst h9; subst h10; subst h13; subst h14; subst h15; subst h16; subst h17; subst h18; subst h19; subst h20; subst h21; subst h22; subst h97; subst h98; subst h99
  unfold At
  exact rule (B := 1000) (N := 167) (ct := .no)
    [⟨0, fun a M => dfr a.defers (P_fettlelaw8_GrphOrder_10 (a.get 7) (a.get 9) (a.get 10) (a.get 13) (a.get 14) (a.get 15) (a.get 16) (a.get 17) (a.get 18) (a.get 19) (a.get 20) (a.get 21) (a.get 22) (a.get 97) (a.get 98) (a.get 99) M Q), fun a M => At Try.prog Ex none Try.f11 [1, 1, 1, 1, 1, 1, 1, 1, 1, 1, 0, 0, 0, 1, 0, 1, 0, 1, 0, 0, 1, 0, 0, 1, 0, 1, 0] a M Q⟩]
    [] [0] (by kernel_rfl) (by kernel_rfl) (by kernel_rfl) (by kernel_rfl) (by kernel_rfl)
    ⟨fun a M hn h => by obtain ⟨⟨n, f⟩, ds⟩ := a; have hn : n = 167 := hn; subst hn; obtain ⟨hd, h⟩ := dfr_iff h; have hd : ds = [] := hd; subst hd; exact h f rfl rfl rfl rfl rfl rfl rfl rfl rfl rfl rfl rfl rfl rfl rfl rfl,
    trivial⟩
    (cast (by kernel_rfl) h)
def S_fettlelaw8_GrphOrder_12 (x7 x9 x10 x13 x14 x15 x16 x17 x18 x19 x20 x21 x22 : Value) (M : Store) (Q : Value → Store → Prop) : Prop :=
  BR x22 (
  OP (ixA 1 x9 x21) fun t119 =>
  OP (ld 1 false t119 M) fun t120 =>
  P_fettlelaw8_GrphOrder_13 x7 x9 x10 x13 x14 x15 x16 x17 x18 x19 t120 x21 M Q
  ) (
  P_fettlelaw8_GrphOrder_13 x7 x9 x10 x13 x14 x15 x16 x17 x18 x19 x20 x21 M Q
  )
theorem T_fettlelaw8_GrphOrder_12 {x7 x9 x10 x13 x14 x15 x16 x17 x18 x19 x20 x21 x22 : Value} {M : Store} {Q : Value → Store → Prop} (h : S_fettlelaw8_GrphOrder_12 x7 x9 x10 x13 x14 x15 x16 x17 x18 x19 x20 x21 x22 M Q) : P_fettlelaw8_GrphOrder_12 x7 x9 x10 x13 x14 x15 x16 x17 x18 x19 x20 x21 x22 M Q := by
  intro f h7 h9 h10 h13 h14 h15 h16 h17 h18 h19 h20 h21 h22; subst h7; subst h9; subst h10; subst h13; subst h14; subst h15; subst h16; subst h17; subst h18; subst h19; subst h20; subst h21; subst h22
  unfold At
  exact rule (B := 1000) (N := 167) (ct := .no)
    [⟨0, fun a M => dfr a.defers (P_fettlelaw8_GrphOrder_13 (a.get 7) (a.get 9) (a.get 10) (a.get 13) (a.get 14) (a.get 15) (a.get 16) (a.get 17) (a.get 18) (a.get 19) (a.get 20) (a.get 21) M Q), fun a M => At Try.prog Ex none Try.f11 [1, 1, 1, 1, 1, 1, 1, 1, 1, 1, 0, 0, 0, 1, 0, 1, 0, 1, 0, 0, 1, 1] a M Q⟩]
    [] [0] (by kernel_rfl) (by kernel_rfl) (by kernel_rfl) (by kernel_rfl) (by kernel_rfl)
    ⟨fun a M hn h => by obtain ⟨⟨n, f⟩, ds⟩ := a; have hn : n = 167 := hn; subst hn; obtain ⟨hd, h⟩ := dfr_iff h; have hd : ds = [] := hd; subst hd; exact h f rfl rfl rfl rfl rfl rfl rfl rfl rfl rfl rfl rfl,
    trivial⟩
    (cast (by kernel_rfl) h)
def S_fettlelaw8_GrphOrder_13 (x7 x9 x10 x13 x14 x15 x16 x17 x18 x19 x20 x21 : Value) (M : Store) (Q : Value → Store → Prop) : Prop :=
  OP (binI .sub x21 (.int .i64 1)) fun t84 =>
  P_fettlelaw8_GrphOrder_7 x7 x9 x10 x13 x14 x15 x16 x17 x18 x19 x20 t84 M Q
theorem T_fettlelaw8_GrphOrder_13 {x7 x9 x10 x13 x14 x15 x16 x17 x18 x19 x20 x21 : Value} {M : Store} {Q : Value → Store → Prop} (h : S_fettlelaw8_GrphOrder_13 x7 x9 x10 x13 x14 x15 x16 x17 x18 x19 x20 x21 M Q) : P_fettlelaw8_GrphOrder_13 x7 x9 x10 x13 x14 x15 x16 x17 x18 x19 x20 x21 M Q := by
  intro f h7 h9 h10 h13 h14 h15 h16 h17 h18 h19 h20 h21; subst h7; subst h9; subst h10; subst h13; subst h14; subst h15; subst h16; subst h17; subst h18; subst h19; subst h20; subst h21
  unfold At
  exact rule (B := 1000) (N := 167) (ct := .no)
    [⟨0, fun a M => dfr a.defers (P_fettlelaw8_GrphOrder_7 (a.get 7) (a.get 9) (a.get 10) (a.get 13) (a.get 14) (a.get 15) (a.get 16) (a.get 17) (a.get 18) (a.get 19) (a.get 20) (a.get 21) M Q), fun a M => At Try.prog Ex none Try.f11 [1, 1, 1, 1, 1, 1, 1, 1, 1, 1, 0, 0, 0, 1, 0, 1, 0, 1, 0] a M Q⟩]
    [] [0] (by kernel_rfl) (by kernel_rfl) (by kernel_rfl) (by kernel_rfl) (by kernel_rfl)
    ⟨fun a M hn h => by obtain ⟨⟨n, f⟩, ds⟩ := a; have hn : n = 167 := hn; subst hn; obtain ⟨hd, h⟩ := dfr_iff h; have hd : ds = [] := hd; subst hd; exact h f rfl rfl rfl rfl rfl rfl rfl rfl rfl rfl rfl rfl,
    trivial⟩
    (cast (by kernel_rfl) h)
def P_fettlelaw8_GrphReach_1 (ds : List Deferred) (x0 x5 x7 x8 x9 x10 : Value) (M : Store) (Q : Value → Store → Prop) : Prop :=
  ∀ f : Nat → Value, f 0 = x0 → f 5 = x5 → f 7 = x7 → f 8 = x8 → f 9 = x9 → f 10 = x10 → At Try.prog Ex none Try.f12 [1, 1, 1, 1, 0, 1, 0] ⟨⟨119, f⟩, ds⟩ M Q
def P_fettlelaw8_GrphReach_2 (ds : List Deferred) (x0 x5 x7 x8 x9 x10 : Value) (M : Store) (Q : Value → Store → Prop) : Prop :=
  ∀ f : Nat → Value, f 0 = x0 → f 5 = x5 → f 7 = x7 → f 8 = x8 → f 9 = x9 → f 10 = x10 → At Try.prog Ex none Try.f12 [1, 1, 1, 1, 0, 1, 0, 0, 1] ⟨⟨119, f⟩, ds⟩ M Q
def P_fettlelaw8_GrphReach_3 (ds : List Deferred) (x5 x7 x8 x9 : Value) (M : Store) (Q : Value → Store → Prop) : Prop :=
  ∀ f : Nat → Value, f 5 = x5 → f 7 = x7 → f 8 = x8 → f 9 = x9 → At Try.prog Ex none Try.f12 [1, 1, 1, 1, 1] ⟨⟨119, f⟩, ds⟩ M Q
def P_fettlelaw8_GrphReach_4 (ds : List Deferred) (x5 x7 x8 x9 x12 x13 : Value) (M : Store) (Q : Value → Store → Prop) : Prop :=
  ∀ f : Nat → Value, f 5 = x5 → f 7 = x7 → f 8 = x8 → f 9 = x9 → f 12 = x12 → f 13 = x13 → At Try.prog Ex none Try.f12 [1, 1, 1, 1, 1, 1, 0, 1, 0] ⟨⟨119, f⟩, ds⟩ M Q
def P_fettlelaw8_GrphReach_5 (ds : List Deferred) (x5 x7 x8 x9 x12 x13 : Value) (M : Store) (Q : Value → Store → Prop) : Prop :=
  ∀ f : Nat → Value, f 5 = x5 → f 7 = x7 → f 8 = x8 → f 9 = x9 → f 12 = x12 → f 13 = x13 → At Try.prog Ex none Try.f12 [1, 1, 1, 1, 1, 1, 0, 1, 0, 0, 1] ⟨⟨119, f⟩, ds⟩ M Q
def P_fettlelaw8_GrphReach_6 (ds : List Deferred) (x5 x7 x8 x12 : Value) (M : Store) (Q : Value → Store → Prop) : Prop :=
  ∀ f : Nat → Value, f 5 = x5 → f 7 = x7 → f 8 = x8 → f 12 = x12 → At Try.prog Ex none Try.f12 [1, 1, 1, 1, 1, 1, 1] ⟨⟨119, f⟩, ds⟩ M Q
def P_fettlelaw8_GrphReach_7 (ds : List Deferred) (x5 x7 x8 x9 x12 x13 x63 x64 x65 : Value) (M : Store) (Q : Value → Store → Prop) : Prop :=
  ∀ f : Nat → Value, f 5 = x5 → f 7 = x7 → f 8 = x8 → f 9 = x9 → f 12 = x12 → f 13 = x13 → f 63 = x63 → f 64 = x64 → f 65 = x65 → At Try.prog Ex none Try.f12 [1, 1, 1, 1, 1, 1, 0, 1, 0, 0, 1, 0, 0, 1, 0] ⟨⟨119, f⟩, ds⟩ M Q
def P_fettlelaw8_GrphReach_8 (ds : List Deferred) (x5 x8 x16 x17 x18 x87 : Value) (M : Store) (Q : Value → Store → Prop) : Prop :=
  ∀ f : Nat → Value, f 5 = x5 → f 8 = x8 → f 16 = x16 → f 17 = x17 → f 18 = x18 → f 87 = x87 → At Try.prog Ex none Try.f12 [1, 1, 1, 1, 1, 1, 1, 1, 1, 1, 1, 0, 1, 0] ⟨⟨119, f⟩, ds⟩ M Q
def P_fettlelaw8_GrphReach_9 (ds : List Deferred) (x5 x7 x8 x9 x12 x13 x63 x64 x65 : Value) (M : Store) (Q : Value → Store → Prop) : Prop :=
  ∀ f : Nat → Value, f 5 = x5 → f 7 = x7 → f 8 = x8 → f 9 = x9 → f 12 = x12 → f 13 = x13 → f 63 = x63 → f 64 = x64 → f 65 = x65 → At Try.prog Ex none Try.f12 [1, 1, 1, 1, 1, 1, 0, 1, 0, 0, 1, 0, 0, 1, 0, 0, 1, 1] ⟨⟨119, f⟩, ds⟩ M Q
def P_fettlelaw8_GrphReach_10 (ds : List Deferred) (x5 x7 x8 x9 x12 x13 : Value) (M : Store) (Q : Value → Store → Prop) : Prop :=
  ∀ f : Nat → Value, f 5 = x5 → f 7 = x7 → f 8 = x8 → f 9 = x9 → f 12 = x12 → f 13 = x13 → At Try.prog Ex none Try.f12 [1, 1, 1, 1, 1, 1, 0, 1, 0, 0, 1, 1] ⟨⟨119, f⟩, ds⟩ M Q
def P_fettlelaw8_GrphReach_11 (l : Nat) (x5 x17 x19 : Value) (M : Store) (Q : Value → Store → Prop) : Prop :=
  ∀ f : Nat → Value, f 5 = x5 → f 17 = x17 → f 19 = x19 → AtY Try.prog Ex l Try.f12 [1, 1, 1, 1, 1, 1, 1, 1, 1, 1, 1, 0, 1, 0, 1] [] ⟨⟨119, f⟩, []⟩ M Q
def P_fettlelaw8_GrphReach_12 (ds : List Deferred) (x5 x8 x16 x17 x18 : Value) (M : Store) (Q : Value → Store → Prop) : Prop :=
  ∀ f : Nat → Value, f 5 = x5 → f 8 = x8 → f 16 = x16 → f 17 = x17 → f 18 = x18 → At Try.prog Ex none Try.f12 [1, 1, 1, 1, 1, 1, 1, 1, 1, 1, 1, 1] ⟨⟨119, f⟩, ds⟩ M Q
def P_fettlelaw8_GrphReach_13 (ds : List Deferred) (x5 x8 x17 x18 x97 : Value) (M : Store) (Q : Value → Store → Prop) : Prop :=
  ∀ f : Nat → Value, f 5 = x5 → f 8 = x8 → f 17 = x17 → f 18 = x18 → f 97 = x97 → At Try.prog Ex none Try.f12 [1, 1, 1, 1, 1, 1, 1, 1, 1, 1, 1, 1, 0, 1, 0] ⟨⟨119, f⟩, ds⟩ M Q
def P_fettlelaw8_GrphReach_14 (l : Nat) (x18 x20 : Value) (M : Store) (Q : Value → Store → Prop) : Prop :=
  ∀ f : Nat → Value, f 18 = x18 → f 20 = x20 → AtY Try.prog Ex l Try.f12 [1, 1, 1, 1, 1, 1, 1, 1, 1, 1, 1, 1, 0, 1, 0, 1] [] ⟨⟨119, f⟩, []⟩ M Q
def P_fettlelaw8_GrphReach_15 (ds : List Deferred) (x5 x8 x17 x18 : Value) (M : Store) (Q : Value → Store → Prop) : Prop :=
  ∀ f : Nat → Value, f 5 = x5 → f 8 = x8 → f 17 = x17 → f 18 = x18 → At Try.prog Ex none Try.f12 [1, 1, 1, 1, 1, 1, 1, 1, 1, 1, 1, 1, 1] ⟨⟨119, f⟩, ds⟩ M Q
def S_fettlelaw8_GrphReach (x0 x1 x2 : Value) (M : Store) (Q : Value → Store → Prop) : Prop :=
  OP (boxv x2) fun c =>
  LT (.pointer (some ⟨M.n, 0, none⟩)) (M.push (some (.inl (c, Ty.int, true)))) fun t5 M1 =>
  R F.fettlelaw8_edges #[x1, (.bool true)] M1 fun t22 M2 =>
  LT (.pointer (some ⟨M2.n, 0, none⟩)) (M2.push (some (.inl ([(.slice none 0 0), (.slice none 0 0), (.slice none 0 0), (.slice none 0 0), (.slice none 0 0), (.slice none 0 0), (.slice none 0 0), (.slice none 0 0), (.slice none 0 0), (.slice none 0 0), (.slice none 0 0), (.slice none 0 0), (.slice none 0 0), (.slice none 0 0), (.slice none 0 0), (.slice none 0 0)], Ty.a16_sl_int, true)))) fun t7 M3 =>
  OP (st 16 t7 t22 M3) fun M4 =>
  LT (.map (some M4.n)) (M4.push (some (.inr (.inl [])))) fun t23 M5 =>
  P_fettlelaw8_GrphReach_1 [] x0 t5 t7 (.slice none 0 0) t23 (.int .i64 0) M5 Q
theorem T_fettlelaw8_GrphReach {x0 x1 x2 : Value} {M : Store} {Q : Value → Store → Prop} (h : S_fettlelaw8_GrphReach x0 x1 x2 M Q) : R F.fettlelaw8_GrphReach #[x0, x1, x2] M Q := by
  refine runs_of (c := bodyOf Try.f12) Try.func12 rfl (by kernel_rfl) (by kernel_rfl) ?_
  unfold At
  exact rule (B := 1000) (N := 119) (ct := (.two .no (.two .no (.two .no (.two .no (.two (.two .no (.two (.here 1000) .no)) (.here 1001)))))))
    [⟨1002, fun a M => P_fettlelaw8_GrphReach_1 a.defers (a.get 0) (a.get 5) (a.get 7) (a.get 8) (a.get 9) (a.get 10) M Q, fun a M => At Try.prog Ex none Try.f12 [1, 1, 1, 1, 0, 1, 0] a M Q⟩,
    ⟨1003, fun _ _ => False, fun a M => At Try.prog Ex none Try.f12 [1, 1, 1, 1, 1] a M Q⟩]
    [1000, 1001] [] (by kernel_rfl) (by kernel_rfl) (by kernel_rfl) (by kernel_rfl) (by kernel_rfl)
    ⟨fun a M hn h => by obtain ⟨⟨n, f⟩, ds⟩ := a; have hn : n = 119 := hn; subst hn; exact h f rfl rfl rfl rfl rfl rfl,
    fun _ _ _ h => h.elim,
    trivial⟩
    (cast (by kernel_rfl) h)
def S_fettlelaw8_GrphReach_1 (ds : List Deferred) (x0 x5 x7 x8 x9 x10 : Value) (M : Store) (Q : Value → Store → Prop) : Prop :=
  OP (lenV x0) fun t26 =>
  OP (binI .lss x10 t26) fun t27 =>
  BR t27 (
  OP (binI .lss x10 (.int .i64 10)) fun t30 =>
  BR t30 (
  P_fettlelaw8_GrphReach_2 ds x0 x5 x7 x8 x9 x10 M Q
  ) (
  P_fettlelaw8_GrphReach_3 ds x5 x7 x8 x9 M Q
  )
  ) (
  P_fettlelaw8_GrphReach_3 ds x5 x7 x8 x9 M Q
  )
theorem T_fettlelaw8_GrphReach_1 {ds : List Deferred} {x0 x5 x7 x8 x9 x10 : Value} {M : Store} {Q : Value → Store → Prop} (h : S_fettlelaw8_GrphReach_1 ds x0 x5 x7 x8 x9 x10 M Q) : P_fettlelaw8_GrphReach_1 ds x0 x5 x7 x8 x9 x10 M Q := by
  intro f h0 h5 h7 h8 h9 h10; subst h0; subst h5; subst h7; subst h8; subst h9; subst h10
  unfold At
  refine cast (by kernel_rfl) (CW.loop (P := Try.prog) (E := Ex) (rd := none) (x := sub (bodyOf Try.f12) [1, 1, 1, 1, 0, 1, 0, 0]) (a := ⟨⟨119, f⟩, ds⟩) (M := M) (K := kcont Try.prog Ex none (bodyOf Try.f12) [1, 1, 1, 1, 0, 1, 0] (kfin Try.prog Try.f12.results.toList Q)) ?_)
  exact rule (B := 1000) (N := 119) (ct := (.two .no (.here 1000)))
    [⟨1002, fun a M => P_fettlelaw8_GrphReach_2 a.defers (a.get 0) (a.get 5) (a.get 7) (a.get 8) (a.get 9) (a.get 10) M Q, fun a M => At Try.prog Ex none Try.f12 [1, 1, 1, 1, 0, 1, 0, 0, 1] a M Q⟩,
    ⟨2, fun a M => P_fettlelaw8_GrphReach_3 a.defers (a.get 5) (a.get 7) (a.get 8) (a.get 9) M Q, fun a M => At Try.prog Ex none Try.f12 [1, 1, 1, 1, 1] a M Q⟩]
    [1000] [2] (by kernel_rfl) (by kernel_rfl) (by kernel_rfl) (by kernel_rfl) (by kernel_rfl)
    ⟨fun a M hn h => by obtain ⟨⟨n, f⟩, ds⟩ := a; have hn : n = 119 := hn; subst hn; exact h f rfl rfl rfl rfl rfl rfl,
    fun a M hn h => by obtain ⟨⟨n, f⟩, ds⟩ := a; have hn : n = 119 := hn; subst hn; exact h f rfl rfl rfl rfl,
    trivial⟩
    (cast (by kernel_rfl) h)
def S_fettlelaw8_GrphReach_2 (ds : List Deferred) (x0 x5 x7 x8 x9 x10 : Value) (M : Store) (Q : Value → Store → Prop) : Prop :=
  OP (ixA 1 x0 x10) fun t36 =>
  OP (ld 1 false t36 M) fun t37 =>
  OP (binI .and t37 (.int .i64 15)) fun t38 =>
  OP (lku (.int .i64) (.bool false) x9 t38 false M) fun t41 =>
  OP (aun .not t41) fun t42 =>
  BR t42 (
  OP (mup (.int .i64) x9 t38 (.bool true) M) fun M1 =>
  OP (bldL (.int .i64 0) 1 1 [(0, t38)]) fun c =>
  LT (.slice (some ⟨M1.n, 0, none⟩) 1 1) (M1.push (some (.inl (c, Ty.int, true)))) fun t47 M2 =>
  OP2 (appV 1 Ty.int x8 t47 M2) fun t48 M3 =>
  OP (binI .add x10 (.int .i64 1)) fun t33 =>
  P_fettlelaw8_GrphReach_1 ds x0 x5 x7 t48 x9 t33 M3 Q
  ) (
  OP (binI .add x10 (.int .i64 1)) fun t33_1 =>
  P_fettlelaw8_GrphReach_1 ds x0 x5 x7 x8 x9 t33_1 M Q
  )
theorem T_fettlelaw8_GrphReach_2 {ds : List Deferred} {x0 x5 x7 x8 x9 x10 : Value} {M : Store} {Q : Value → Store → Prop} (h : S_fettlelaw8_GrphReach_2 ds x0 x5 x7 x8 x9 x10 M Q) : P_fettlelaw8_GrphReach_2 ds x0 x5 x7 x8 x9 x10 M Q := by
  intro f h0 h5 h7 h8 h9 h10; subst h0; subst h5; subst h7; subst h8; subst h9; subst h10
  unfold At
  exact rule (B := 1000) (N := 119) (ct := .no)
    [⟨0, fun a M => P_fettlelaw8_GrphReach_1 a.defers (a.get 0) (a.get 5) (a.get 7) (a.get 8) (a.get 9) (a.get 10) M Q, fun a M => At Try.prog Ex none Try.f12 [1, 1, 1, 1, 0, 1, 0] a M Q⟩]
    [] [0] (by kernel_rfl) (by kernel_rfl) (by kernel_rfl) (by kernel_rfl) (by kernel_rfl)
    ⟨fun a M hn h => by obtain ⟨⟨n, f⟩, ds⟩ := a; have hn : n = 119 := hn; subst hn; exact h f rfl rfl rfl rfl rfl rfl,
    trivial⟩
    (cast (by kernel_rfl) h)
def S_fettlelaw8_GrphReach_3 (ds : List Deferred) (x5 x7 x8 x9 : Value) (M : Store) (Q : Value → Store → Prop) : Prop :=
  OP (bldL (.int .i64 0) 1 0 []) fun c =>
  LT (.slice (some ⟨M.n, 0, none⟩) 0 0) (M.push (some (.inl (c, Ty.int, true)))) fun t49 M1 =>
  OP2 (appV 1 Ty.int t49 x8 M1) fun t51 M2 =>
  P_fettlelaw8_GrphReach_4 ds x5 x7 x8 x9 t51 (.int .i64 0) M2 Q
theorem T_fettlelaw8_GrphReach_3 {ds : List Deferred} {x5 x7 x8 x9 : Value} {M : Store} {Q : Value → Store → Prop} (h : S_fettlelaw8_GrphReach_3 ds x5 x7 x8 x9 M Q) : P_fettlelaw8_GrphReach_3 ds x5 x7 x8 x9 M Q := by
  intro f h5 h7 h8 h9; subst h5; subst h7; subst h8; subst h9
  unfold At
  exact rule (B := 1000) (N := 119) (ct := (.two .no (.two (.two .no (.two (.here 1000) .no)) (.here 1001))))
    [⟨1002, fun a M => P_fettlelaw8_GrphReach_4 a.defers (a.get 5) (a.get 7) (a.get 8) (a.get 9) (a.get 12) (a.get 13) M Q, fun a M => At Try.prog Ex none Try.f12 [1, 1, 1, 1, 1, 1, 0, 1, 0] a M Q⟩,
    ⟨1003, fun _ _ => False, fun a M => At Try.prog Ex none Try.f12 [1, 1, 1, 1, 1, 1, 1] a M Q⟩]
    [1000, 1001] [] (by kernel_rfl) (by kernel_rfl) (by kernel_rfl) (by kernel_rfl) (by kernel_rfl)
    ⟨fun a M hn h => by obtain ⟨⟨n, f⟩, ds⟩ := a; have hn : n = 119 := hn; subst hn; exact h f rfl rfl rfl rfl rfl rfl,
    fun _ _ _ h => h.elim,
    trivial⟩
    (cast (by kernel_rfl) h)
def S_fettlelaw8_GrphReach_4 (ds : List Deferred) (x5 x7 x8 x9 x12 x13 : Value) (M : Store) (Q : Value → Store → Prop) : Prop :=
  OP (lenV x8) fun t54 =>
  OP (binI .lss x13 t54) fun t55 =>
  BR t55 (
  P_fettlelaw8_GrphReach_5 ds x5 x7 x8 x9 x12 x13 M Q
  ) (
  P_fettlelaw8_GrphReach_6 ds x5 x7 x8 x12 M Q
  )
theorem T_fettlelaw8_GrphReach_4 {ds : List Deferred} {x5 x7 x8 x9 x12 x13 : Value} {M : Store} {Q : Value → Store → Prop} (h : S_fettlelaw8_GrphReach_4 ds x5 x7 x8 x9 x12 x13 M Q) : P_fettlelaw8_GrphReach_4 ds x5 x7 x8 x9 x12 x13 M Q := by
  intro f h5 h7 h8 h9 h12 h13; subst h5; subst h7; subst h8; subst h9; subst h12; subst h13
  unfold At
  refine cast (by kernel_rfl) (CW.loop (P := Try.prog) (E := Ex) (rd := none) (x := sub (bodyOf Try.f12) [1, 1, 1, 1, 1, 1, 0, 1, 0, 0]) (a := ⟨⟨119, f⟩, ds⟩) (M := M) (K := kcont Try.prog Ex none (bodyOf Try.f12) [1, 1, 1, 1, 1, 1, 0, 1, 0] (kfin Try.prog Try.f12.results.toList Q)) ?_)
  exact rule (B := 1000) (N := 119) (ct := (.two .no (.here 1000)))
    [⟨1002, fun a M => P_fettlelaw8_GrphReach_5 a.defers (a.get 5) (a.get 7) (a.get 8) (a.get 9) (a.get 12) (a.get 13) M Q, fun a M => At Try.prog Ex none Try.f12 [1, 1, 1, 1, 1, 1, 0, 1, 0, 0, 1] a M Q⟩,
    ⟨4, fun a M => P_fettlelaw8_GrphReach_6 a.defers (a.get 5) (a.get 7) (a.get 8) (a.get 12) M Q, fun a M => At Try.prog Ex none Try.f12 [1, 1, 1, 1, 1, 1, 1] a M Q⟩]
    [1000] [4] (by kernel_rfl) (by kernel_rfl) (by kernel_rfl) (by kernel_rfl) (by kernel_rfl)
    ⟨fun a M hn h => by obtain ⟨⟨n, f⟩, ds⟩ := a; have hn : n = 119 := hn; subst hn; exact h f rfl rfl rfl rfl rfl rfl,
    fun a M hn h => by obtain ⟨⟨n, f⟩, ds⟩ := a; have hn : n = 119 := hn; subst hn; exact h f rfl rfl rfl rfl,
    trivial⟩
    (cast (by kernel_rfl) h)
def S_fettlelaw8_GrphReach_5 (ds : List Deferred) (x5 x7 x8 x9 x12 x13 : Value) (M : Store) (Q : Value → Store → Prop) : Prop :=
  OP (ixA 1 x8 x13) fun t60 =>
  OP (ld 1 false t60 M) fun t61 =>
  OP (ixP 1 16 x7 t61) fun t62 =>
  OP (ld 1 false t62 M) fun t63 =>
  OP (lenV t63) fun t64 =>
  P_fettlelaw8_GrphReach_7 ds x5 x7 x8 x9 x12 x13 t63 t64 (.int .i64 0) M Q
theorem T_fettlelaw8_GrphReach_5 {ds : List Deferred} {x5 x7 x8 x9 x12 x13 : Value} {M : Store} {Q : Value → Store → Prop} (h : S_fettlelaw8_GrphReach_5 ds x5 x7 x8 x9 x12 x13 M Q) : P_fettlelaw8_GrphReach_5 ds x5 x7 x8 x9 x12 x13 M Q := by
  intro f h5 h7 h8 h9 h12 h13; subst h5; subst h7; subst h8; subst h9; subst h12; subst h13
  unfold At
  exact rule (B := 1000) (N := 119) (ct := (.two (.two (.two .no (.two (.here 1000) .no)) .no) (.here 1001)))
    [⟨1002, fun a M => P_fettlelaw8_GrphReach_7 a.defers (a.get 5) (a.get 7) (a.get 8) (a.get 9) (a.get 12) (a.get 13) (a.get 63) (a.get 64) (a.get 65) M Q, fun a M => At Try.prog Ex none Try.f12 [1, 1, 1, 1, 1, 1, 0, 1, 0, 0, 1, 0, 0, 1, 0] a M Q⟩,
    ⟨1003, fun _ _ => False, fun a M => At Try.prog Ex none Try.f12 [1, 1, 1, 1, 1, 1, 0, 1, 0, 0, 1, 1] a M Q⟩]
    [1000, 1001] [] (by kernel_rfl) (by kernel_rfl) (by kernel_rfl) (by kernel_rfl) (by kernel_rfl)
    ⟨fun a M hn h => by obtain ⟨⟨n, f⟩, ds⟩ := a; have hn : n = 119 := hn; subst hn; exact h f rfl rfl rfl rfl rfl rfl rfl rfl rfl,
    fun _ _ _ h => h.elim,
    trivial⟩
    (cast (by kernel_rfl) h)
def S_fettlelaw8_GrphReach_6 (ds : List Deferred) (x5 x7 x8 x12 : Value) (M : Store) (Q : Value → Store → Prop) : Prop :=
  OP (mkF (.func F.fettlelaw8_GrphReach_c1) [] [x7]) fun t81 =>
  R F.grph_Reach_int #[x12, t81] M fun t82 M1 =>
  OP (abin Try.prog true .eql Ty.iter_Seq_int t82 .nilFunc) fun t84 =>
  BR t84 (
  OP (atake ds M1) fun M2 =>
  NTs [(.bool false)] ∧ Q (.bool false) M2
  ) (
  OP (ld 1 false x5 M1) fun t85 =>
  OP (binI .and t85 (.int .i64 15)) fun t86 =>
  OP (st 1 x5 t86 M1) fun M3 =>
  LT (.pointer (some ⟨M3.n, 0, none⟩)) (M3.push (some (.inl ([(.slice none 0 0)], Ty.sl_int, true)))) fun t17 M4 =>
  LT (.pointer (some ⟨M4.n, 0, none⟩)) (M4.push (some (.inl ([(.slice none 0 0)], Ty.sl_int, true)))) fun t18 M5 =>
  P_fettlelaw8_GrphReach_8 ds x5 x8 t82 t17 t18 t82 M5 Q
  )
theorem T_fettlelaw8_GrphReach_6 {ds : List Deferred} {x5 x7 x8 x12 : Value} {M : Store} {Q : Value → Store → Prop} (h : S_fettlelaw8_GrphReach_6 ds x5 x7 x8 x12 M Q) : P_fettlelaw8_GrphReach_6 ds x5 x7 x8 x12 M Q := by
  intro f h5 h7 h8 h12; subst h5; subst h7; subst h8; subst h12
  unfold At
  exact rule (B := 1000) (N := 119) (ct := (.two .no (.two .no (.two .no (.two .no (.two (.two .no (.two (.here 1000) .no)) (.here 1001)))))))
    [⟨1002, fun a M => P_fettlelaw8_GrphReach_8 a.defers (a.get 5) (a.get 8) (a.get 16) (a.get 17) (a.get 18) (a.get 87) M Q, fun a M => At Try.prog Ex none Try.f12 [1, 1, 1, 1, 1, 1, 1, 1, 1, 1, 1, 0, 1, 0] a M Q⟩,
    ⟨1003, fun _ _ => False, fun a M => At Try.prog Ex none Try.f12 [1, 1, 1, 1, 1, 1, 1, 1, 1, 1, 1, 1] a M Q⟩,
    ⟨1, fun a M => kfin Try.prog Try.f12.results.toList Q 1 a M, fun a M => kfin Try.prog Try.f12.results.toList Q 1 a M⟩]
    [1000, 1001] [1] (by kernel_rfl) (by kernel_rfl) (by kernel_rfl) (by kernel_rfl) (by kernel_rfl)
    ⟨fun a M hn h => by obtain ⟨⟨n, f⟩, ds⟩ := a; have hn : n = 119 := hn; subst hn; exact h f rfl rfl rfl rfl rfl rfl,
    fun _ _ _ h => h.elim,
    fun _ _ _ h => h,
    trivial⟩
    (cast (by kernel_rfl) h)
def S_fettlelaw8_GrphReach_7 (ds : List Deferred) (x5 x7 x8 x9 x12 x13 x63 x64 x65 : Value) (M : Store) (Q : Value → Store → Prop) : Prop :=
  OP (binI .lss x65 x64) fun t66 =>
  BR t66 (
  P_fettlelaw8_GrphReach_9 ds x5 x7 x8 x9 x12 x13 x63 x64 x65 M Q
  ) (
  P_fettlelaw8_GrphReach_10 ds x5 x7 x8 x9 x12 x13 M Q
  )
theorem T_fettlelaw8_GrphReach_7 {ds : List Deferred} {x5 x7 x8 x9 x12 x13 x63 x64 x65 : Value} {M : Store} {Q : Value → Store → Prop} (h : S_fettlelaw8_GrphReach_7 ds x5 x7 x8 x9 x12 x13 x63 x64 x65 M Q) : P_fettlelaw8_GrphReach_7 ds x5 x7 x8 x9 x12 x13 x63 x64 x65 M Q := by
  intro f h5 h7 h8 h9 h12 h13 h63 h64 h65; subst h5; subst h7; subst h8; subst h9; subst h12; subst h13; subst h63; subst h64; subst h65
  unfold At
  refine cast (by kernel_rfl) (CW.loop (P := Try.prog) (E := Ex) (rd := none) (x := sub (bodyOf Try.f12) [1, 1, 1, 1, 1, 1, 0, 1, 0, 0, 1, 0, 0, 1, 0, 0]) (a := ⟨⟨119, f⟩, ds⟩) (M := M) (K := kcont Try.prog Ex none (bodyOf Try.f12) [1, 1, 1, 1, 1, 1, 0, 1, 0, 0, 1, 0, 0, 1, 0] (kfin Try.prog Try.f12.results.toList Q)) ?_)
  exact rule (B := 1000) (N := 119) (ct := (.two .no (.two .no (.here 1000))))
    [⟨1002, fun a M => P_fettlelaw8_GrphReach_9 a.defers (a.get 5) (a.get 7) (a.get 8) (a.get 9) (a.get 12) (a.get 13) (a.get 63) (a.get 64) (a.get 65) M Q, fun a M => At Try.prog Ex none Try.f12 [1, 1, 1, 1, 1, 1, 0, 1, 0, 0, 1, 0, 0, 1, 0, 0, 1, 1] a M Q⟩,
    ⟨6, fun a M => P_fettlelaw8_GrphReach_10 a.defers (a.get 5) (a.get 7) (a.get 8) (a.get 9) (a.get 12) (a.get 13) M Q, fun a M => At Try.prog Ex none Try.f12 [1, 1, 1, 1, 1, 1, 0, 1, 0, 0, 1, 1] a M Q⟩]
    [1000] [6] (by kernel_rfl) (by kernel_rfl) (by kernel_rfl) (by kernel_rfl) (by kernel_rfl)
    ⟨fun a M hn h => by obtain ⟨⟨n, f⟩, ds⟩ := a; have hn : n = 119 := hn; subst hn; exact h f rfl rfl rfl rfl rfl rfl rfl rfl rfl,
    fun a M hn h => by obtain ⟨⟨n, f⟩, ds⟩ := a; have hn : n = 119 := hn; subst hn; exact h f rfl rfl rfl rfl rfl rfl,
    trivial⟩
    (cast (by kernel_rfl) h)
/-- The record of the range, and a round. -/
def RC_fettlelaw8_GrphReach_8 (x5 x17 : Value) (st : LoopState) (pe : Nat) (rc : LRec) : Prop := ∃ f : Nat → Value, f 5 = x5 ∧ f 17 = x17 ∧ rc = ⟨st, pe, ⟨119, f⟩, #[88], (sub (bodyOf Try.f12) [1, 1, 1, 1, 1, 1, 1, 1, 1, 1, 1, 0, 1, 0, 0]), (sub (bodyOf Try.f12) [1, 1, 1, 1, 1, 1, 1, 1, 1, 1, 1, 0, 1, 0, 1])⟩
def SY_fettlelaw8_GrphReach_8 (l : Nat) (x5 x17 : Value) (y88 : Value) (M : Store) (Q : Value → Store → Prop) : Prop :=
  OP (recOf M l) fun r => r.st = .ready ∧
  P_fettlelaw8_GrphReach_11 l x5 x17 y88 (putRec M l { r with st := .busy }) Q
theorem Y_fettlelaw8_GrphReach_8 {l pe : Nat} {x5 x17 : Value} {y88 : Value} {M : Store} {Q : Value → Store → Prop} {rc : LRec} (hr : recOf M l = some rc) (hc : RC_fettlelaw8_GrphReach_8 x5 x17 .ready pe rc) (h : SY_fettlelaw8_GrphReach_8 l x5 x17 y88 M Q) : RunsY Try.prog Ex l #[y88] M Q := by
  obtain ⟨f, h5, h17, hc⟩ := hc; subst h5; subst h17; subst hc
  refine runsY_of (args := [y88]) hr (by kernel_rfl) ?_
  exact rule (B := 1000) (N := 119) (ct := .no)
    [⟨0, fun a M => OP (recOf M l) fun r => r.st = .ready ∧ dfr a.defers (P_fettlelaw8_GrphReach_11 l (a.get 5) (a.get 17) (a.get 19) (putRec M l { r with st := .busy }) Q), fun a M => kmid Try.prog Ex l (sub (bodyOf Try.f12) [1, 1, 1, 1, 1, 1, 1, 1, 1, 1, 1, 0, 1, 0, 1]) Q 0 a M⟩]
    [] [0] (by kernel_rfl) (by kernel_rfl) (by kernel_rfl) (by kernel_rfl) (by kernel_rfl)
    ⟨fun a M hn h => by obtain ⟨⟨n, f⟩, ds⟩ := a; have hn : n = 119 := hn; subst hn; obtain ⟨r, hr, hs, h⟩ := OP_iff.1 h; obtain ⟨hd, h⟩ := dfr_iff h; have hd : ds = [] := hd; subst hd; exact OP_iff.2 ⟨r, hr, hs, cast (by kernel_rfl) (h f rfl rfl rfl)⟩, trivial⟩
    (cast (by kernel_rfl) h)
def S_fettlelaw8_GrphReach_8 (ds : List Deferred) (x5 x8 x16 x17 x18 x87 : Value) (M : Store) (Q : Value → Store → Prop) : Prop :=
  ∀ rc : LRec, RC_fettlelaw8_GrphReach_8 x5 x17 .ready 0 rc →
  rfc Try.prog Ex x87 (M.n + 1) ((M.push (some (.inr (.inr none)))).push (some (.inr (.inr (some rc))))) fun _ M1 =>
  OP (recOf M1 (M.n + 1)) fun r => r.st ≠ .busy ∧
  bif Nat.beq 0 r.pe then (
  P_fettlelaw8_GrphReach_12 ({ target := .collected M.n, args := #[] } :: ds) x5 x8 x16 x17 x18 (putRec M1 (M.n + 1) { r with st := .exhausted }) Q
  ) else
  bif Nat.beq 8 r.pe then (
  P_fettlelaw8_GrphReach_12 ({ target := .collected M.n, args := #[] } :: ds) x5 x8 x16 x17 x18 (putRec M1 (M.n + 1) { r with st := .exhausted }) Q
  ) else
  False
theorem T_fettlelaw8_GrphReach_8 {ds : List Deferred} {x5 x8 x16 x17 x18 x87 : Value} {M : Store} {Q : Value → Store → Prop} (h : S_fettlelaw8_GrphReach_8 ds x5 x8 x16 x17 x18 x87 M Q) : P_fettlelaw8_GrphReach_8 ds x5 x8 x16 x17 x18 x87 M Q := by
  intro f h5 h8 h16 h17 h18 h87; subst h5; subst h8; subst h16; subst h17; subst h18; subst h87
  unfold At
  refine cast (by kernel_rfl) (CW.rf (P := Try.prog) (E := Ex) (g := .tmp 87) (ps := #[88]) (x := (sub (bodyOf Try.f12) [1, 1, 1, 1, 1, 1, 1, 1, 1, 1, 1, 0, 1, 0, 0])) (y := (sub (bodyOf Try.f12) [1, 1, 1, 1, 1, 1, 1, 1, 1, 1, 1, 0, 1, 0, 1])) (a := ⟨⟨119, f⟩, ds⟩) (M := M) (K := kcont Try.prog Ex none (bodyOf Try.f12) [1, 1, 1, 1, 1, 1, 1, 1, 1, 1, 1, 0, 1, 0] (kfin Try.prog Try.f12.results.toList Q)) ?_)
  refine cast (by kernel_rfl) (rfc_mono (k' := fun _ M' => OP (recOf M' (M.n + 1)) fun r => r.st ≠ .busy ∧ kcont Try.prog Ex none (bodyOf Try.f12) [1, 1, 1, 1, 1, 1, 1, 1, 1, 1, 1, 0, 1, 0] (kfin Try.prog Try.f12.results.toList Q) r.pe ⟨⟨119, f⟩, { target := .collected M.n, args := #[] } :: ds⟩ (putRec M' (M.n + 1) { r with st := .exhausted })) (h ⟨.ready, 0, ⟨119, f⟩, #[88], (sub (bodyOf Try.f12) [1, 1, 1, 1, 1, 1, 1, 1, 1, 1, 1, 0, 1, 0, 0]), (sub (bodyOf Try.f12) [1, 1, 1, 1, 1, 1, 1, 1, 1, 1, 1, 0, 1, 0, 1])⟩ ⟨f, rfl, rfl, rfl⟩) ?_)
  intro _ M1 h
  obtain ⟨r, hr, hs, h⟩ := OP_iff.1 h
  refine OP_iff.2 ⟨r, hr, hs, ?_⟩
  exact disp_K (N := 119) (L := [⟨0, fun a M => P_fettlelaw8_GrphReach_12 a.defers (a.get 5) (a.get 8) (a.get 16) (a.get 17) (a.get 18) M Q, fun a M => At Try.prog Ex none Try.f12 [1, 1, 1, 1, 1, 1, 1, 1, 1, 1, 1, 1] a M Q⟩,
    ⟨8, fun a M => P_fettlelaw8_GrphReach_12 a.defers (a.get 5) (a.get 8) (a.get 16) (a.get 17) (a.get 18) M Q, fun a M => At Try.prog Ex none Try.f12 [1, 1, 1, 1, 1, 1, 1, 1, 1, 1, 1, 1] a M Q⟩])
    [0, 8] (by kernel_rfl) (by kernel_rfl)
    ⟨fun a M hn h => by obtain ⟨⟨n, f⟩, ds⟩ := a; have hn : n = 119 := hn; subst hn; exact h f rfl rfl rfl rfl rfl,
    fun a M hn h => by obtain ⟨⟨n, f⟩, ds⟩ := a; have hn : n = 119 := hn; subst hn; exact h f rfl rfl rfl rfl rfl,
    trivial⟩
    rfl (cast (by kernel_rfl) h)
def S_fettlelaw8_GrphReach_9 (ds : List Deferred) (x5 x7 x8 x9 x12 x13 x63 x64 x65 : Value) (M : Store) (Q : Value → Store → Prop) : Prop :=
  OP (ixA 1 x63 x65) fun t67 =>
  OP (ld 1 false t67 M) fun t68 =>
  OP (lku (.int .i64) (.bool false) x9 t68 false M) fun t71 =>
  OP (aun .not t71) fun t72 =>
  BR t72 (
  OP (mup (.int .i64) x9 t68 (.bool true) M) fun M1 =>
  OP (bldL (.int .i64 0) 1 1 [(0, t68)]) fun c =>
  LT (.slice (some ⟨M1.n, 0, none⟩) 1 1) (M1.push (some (.inl (c, Ty.int, true)))) fun t77 M2 =>
  OP2 (appV 1 Ty.int x8 t77 M2) fun t78 M3 =>
  OP (binI .add x65 (.int .i64 1)) fun t79 =>
  P_fettlelaw8_GrphReach_7 ds x5 x7 t78 x9 x12 x13 x63 x64 t79 M3 Q
  ) (
  OP (binI .add x65 (.int .i64 1)) fun t79_1 =>
  P_fettlelaw8_GrphReach_7 ds x5 x7 x8 x9 x12 x13 x63 x64 t79_1 M Q
  )
theorem T_fettlelaw8_GrphReach_9 {ds : List Deferred} {x5 x7 x8 x9 x12 x13 x63 x64 x65 : Value} {M : Store} {Q : Value → Store → Prop} (h : S_fettlelaw8_GrphReach_9 ds x5 x7 x8 x9 x12 x13 x63 x64 x65 M Q) : P_fettlelaw8_GrphReach_9 ds x5 x7 x8 x9 x12 x13 x63 x64 x65 M Q := by
  intro f h5 h7 h8 h9 h12 h13 h63 h64 h65; subst h5; subst h7; subst h8; subst h9; subst h12; subst h13; subst h63; subst h64; subst h65
  unfold At
  exact rule (B := 1000) (N := 119) (ct := .no)
    [⟨0, fun a M => P_fettlelaw8_GrphReach_7 a.defers (a.get 5) (a.get 7) (a.get 8) (a.get 9) (a.get 12) (a.get 13) (a.get 63) (a.get 64) (a.get 65) M Q, fun a M => At Try.prog Ex none Try.f12 [1, 1, 1, 1, 1, 1, 0, 1, 0, 0, 1, 0, 0, 1, 0] a M Q⟩]
    [] [0] (by kernel_rfl) (by kernel_rfl) (by kernel_rfl) (by kernel_rfl) (by kernel_rfl)
    ⟨fun a M hn h => by obtain ⟨⟨n, f⟩, ds⟩ := a; have hn : n = 119 := hn; subst hn; exact h f rfl rfl rfl rfl rfl rfl rfl rfl rfl,
    trivial⟩
    (cast (by kernel_rfl) h)
def S_fettlelaw8_GrphReach_10 (ds : List Deferred) (x5 x7 x8 x9 x12 x13 : Value) (M : Store) (Q : Value → Store → Prop) : Prop :=
  OP (binI .add x13 (.int .i64 1)) fun t57 =>
  P_fettlelaw8_GrphReach_4 ds x5 x7 x8 x9 x12 t57 M Q
theorem T_fettlelaw8_GrphReach_10 {ds : List Deferred} {x5 x7 x8 x9 x12 x13 : Value} {M : Store} {Q : Value → Store → Prop} (h : S_fettlelaw8_GrphReach_10 ds x5 x7 x8 x9 x12 x13 M Q) : P_fettlelaw8_GrphReach_10 ds x5 x7 x8 x9 x12 x13 M Q := by
  intro f h5 h7 h8 h9 h12 h13; subst h5; subst h7; subst h8; subst h9; subst h12; subst h13
  unfold At
  exact rule (B := 1000) (N := 119) (ct := .no)
    [⟨0, fun a M => P_fettlelaw8_GrphReach_4 a.defers (a.get 5) (a.get 7) (a.get 8) (a.get 9) (a.get 12) (a.get 13) M Q, fun a M => At Try.prog Ex none Try.f12 [1, 1, 1, 1, 1, 1, 0, 1, 0] a M Q⟩]
    [] [0] (by kernel_rfl) (by kernel_rfl) (by kernel_rfl) (by kernel_rfl) (by kernel_rfl)
    ⟨fun a M hn h => by obtain ⟨⟨n, f⟩, ds⟩ := a; have hn : n = 119 := hn; subst hn; exact h f rfl rfl rfl rfl rfl rfl,
    trivial⟩
    (cast (by kernel_rfl) h)
def S_fettlelaw8_GrphReach_11 (l : Nat) (x5 x17 x19 : Value) (M : Store) (Q : Value → Store → Prop) : Prop :=
  OP (ld 1 false x17 M) fun t89 =>
  OP (lenV t89) fun t90 =>
  OP (ld 1 false x5 M) fun t91 =>
  OP (binI .eql t90 t91) fun t92 =>
  BR t92 (
  YE l 8 M Q
  ) (
  OP (ld 1 false x17 M) fun t93 =>
  OP (bldL (.int .i64 0) 1 1 [(0, x19)]) fun c =>
  LT (.slice (some ⟨M.n, 0, none⟩) 1 1) (M.push (some (.inl (c, Ty.int, true)))) fun t95 M1 =>
  OP2 (appV 1 Ty.int t93 t95 M1) fun t96 M2 =>
  OP (st 1 x17 t96 M2) fun M3 =>
  YE l 0 M3 Q
  )
theorem T_fettlelaw8_GrphReach_11 {l : Nat} {x5 x17 x19 : Value} {M : Store} {Q : Value → Store → Prop} (h : S_fettlelaw8_GrphReach_11 l x5 x17 x19 M Q) : P_fettlelaw8_GrphReach_11 l x5 x17 x19 M Q := by
  intro f h5 h17 h19; subst h5; subst h17; subst h19
  unfold AtY
  exact rule (B := 1000) (N := 119) (ct := .no)
    [⟨0, fun a M => kfinY l Q 0 a M, fun a M => kfinY l Q 0 a M⟩,
    ⟨8, fun a M => kfinY l Q 8 a M, fun a M => kfinY l Q 8 a M⟩]
    [] [0, 8] (by kernel_rfl) (by kernel_rfl) (by kernel_rfl) (by kernel_rfl) (by kernel_rfl)
    ⟨fun _ _ _ h => h,
    fun _ _ _ h => h,
    trivial⟩
    (cast (by kernel_rfl) h)
def S_fettlelaw8_GrphReach_12 (ds : List Deferred) (x5 x8 x16 x17 x18 : Value) (M : Store) (Q : Value → Store → Prop) : Prop :=
  P_fettlelaw8_GrphReach_13 ds x5 x8 x17 x18 x16 M Q
theorem T_fettlelaw8_GrphReach_12 {ds : List Deferred} {x5 x8 x16 x17 x18 : Value} {M : Store} {Q : Value → Store → Prop} (h : S_fettlelaw8_GrphReach_12 ds x5 x8 x16 x17 x18 M Q) : P_fettlelaw8_GrphReach_12 ds x5 x8 x16 x17 x18 M Q := by
  intro f h5 h8 h16 h17 h18; subst h5; subst h8; subst h16; subst h17; subst h18
  unfold At
  exact rule (B := 1000) (N := 119) (ct := (.two (.two .no (.two (.here 1000) .no)) (.here 1001)))
    [⟨1002, fun a M => P_fettlelaw8_GrphReach_13 a.defers (a.get 5) (a.get 8) (a.get 17) (a.get 18) (a.get 97) M Q, fun a M => At Try.prog Ex none Try.f12 [1, 1, 1, 1, 1, 1, 1, 1, 1, 1, 1, 1, 0, 1, 0] a M Q⟩,
    ⟨1003, fun _ _ => False, fun a M => At Try.prog Ex none Try.f12 [1, 1, 1, 1, 1, 1, 1, 1, 1, 1, 1, 1, 1] a M Q⟩]
    [1000, 1001] [] (by kernel_rfl) (by kernel_rfl) (by kernel_rfl) (by kernel_rfl) (by kernel_rfl)
    ⟨fun a M hn h => by obtain ⟨⟨n, f⟩, ds⟩ := a; have hn : n = 119 := hn; subst hn; exact h f rfl rfl rfl rfl rfl,
    fun _ _ _ h => h.elim,
    trivial⟩
    (cast (by kernel_rfl) h)
/-- The record of the range, and a round. -/
def RC_fettlelaw8_GrphReach_13 (x18 : Value) (st : LoopState) (pe : Nat) (rc : LRec) : Prop := ∃ f : Nat → Value, f 18 = x18 ∧ rc = ⟨st, pe, ⟨119, f⟩, #[98], (sub (bodyOf Try.f12) [1, 1, 1, 1, 1, 1, 1, 1, 1, 1, 1, 1, 0, 1, 0, 0]), (sub (bodyOf Try.f12) [1, 1, 1, 1, 1, 1, 1, 1, 1, 1, 1, 1, 0, 1, 0, 1])⟩
def SY_fettlelaw8_GrphReach_13 (l : Nat) (x18 : Value) (y98 : Value) (M : Store) (Q : Value → Store → Prop) : Prop :=
  OP (recOf M l) fun r => r.st = .ready ∧
  P_fettlelaw8_GrphReach_14 l x18 y98 (putRec M l { r with st := .busy }) Q
theorem Y_fettlelaw8_GrphReach_13 {l pe : Nat} {x18 : Value} {y98 : Value} {M : Store} {Q : Value → Store → Prop} {rc : LRec} (hr : recOf M l = some rc) (hc : RC_fettlelaw8_GrphReach_13 x18 .ready pe rc) (h : SY_fettlelaw8_GrphReach_13 l x18 y98 M Q) : RunsY Try.prog Ex l #[y98] M Q := by
  obtain ⟨f, h18, hc⟩ := hc; subst h18; subst hc
  refine runsY_of (args := [y98]) hr (by kernel_rfl) ?_
  exact rule (B := 1000) (N := 119) (ct := .no)
    [⟨0, fun a M => OP (recOf M l) fun r => r.st = .ready ∧ dfr a.defers (P_fettlelaw8_GrphReach_14 l (a.get 18) (a.get 20) (putRec M l { r with st := .busy }) Q), fun a M => kmid Try.prog Ex l (sub (bodyOf Try.f12) [1, 1, 1, 1, 1, 1, 1, 1, 1, 1, 1, 1, 0, 1, 0, 1]) Q 0 a M⟩]
    [] [0] (by kernel_rfl) (by kernel_rfl) (by kernel_rfl) (by kernel_rfl) (by kernel_rfl)
    ⟨fun a M hn h => by obtain ⟨⟨n, f⟩, ds⟩ := a; have hn : n = 119 := hn; subst hn; obtain ⟨r, hr, hs, h⟩ := OP_iff.1 h; obtain ⟨hd, h⟩ := dfr_iff h; have hd : ds = [] := hd; subst hd; exact OP_iff.2 ⟨r, hr, hs, cast (by kernel_rfl) (h f rfl rfl)⟩, trivial⟩
    (cast (by kernel_rfl) h)
def S_fettlelaw8_GrphReach_13 (ds : List Deferred) (x5 x8 x17 x18 x97 : Value) (M : Store) (Q : Value → Store → Prop) : Prop :=
  ∀ rc : LRec, RC_fettlelaw8_GrphReach_13 x18 .ready 0 rc →
  rfc Try.prog Ex x97 (M.n + 1) ((M.push (some (.inr (.inr none)))).push (some (.inr (.inr (some rc))))) fun _ M1 =>
  OP (recOf M1 (M.n + 1)) fun r => r.st ≠ .busy ∧
  bif Nat.beq 0 r.pe then (
  P_fettlelaw8_GrphReach_15 ({ target := .collected M.n, args := #[] } :: ds) x5 x8 x17 x18 (putRec M1 (M.n + 1) { r with st := .exhausted }) Q
  ) else
  False
theorem T_fettlelaw8_GrphReach_13 {ds : List Deferred} {x5 x8 x17 x18 x97 : Value} {M : Store} {Q : Value → Store → Prop} (h : S_fettlelaw8_GrphReach_13 ds x5 x8 x17 x18 x97 M Q) : P_fettlelaw8_GrphReach_13 ds x5 x8 x17 x18 x97 M Q := by
  intro f h5 h8 h17 h18 h97; subst h5; subst h8; subst h17; subst h18; subst h97
  unfold At
  refine cast (by kernel_rfl) (CW.rf (P := Try.prog) (E := Ex) (g := .tmp 97) (ps := #[98]) (x := (sub (bodyOf Try.f12) [1, 1, 1, 1, 1, 1, 1, 1, 1, 1, 1, 1, 0, 1, 0, 0])) (y := (sub (bodyOf Try.f12) [1, 1, 1, 1, 1, 1, 1, 1, 1, 1, 1, 1, 0, 1, 0, 1])) (a := ⟨⟨119, f⟩, ds⟩) (M := M) (K := kcont Try.prog Ex none (bodyOf Try.f12) [1, 1, 1, 1, 1, 1, 1, 1, 1, 1, 1, 1, 0, 1, 0] (kfin Try.prog Try.f12.results.toList Q)) ?_)
  refine cast (by kernel_rfl) (rfc_mono (k' := fun _ M' => OP (recOf M' (M.n + 1)) fun r => r.st ≠ .busy ∧ kcont Try.prog Ex none (bodyOf Try.f12) [1, 1, 1, 1, 1, 1, 1, 1, 1, 1, 1, 1, 0, 1, 0] (kfin Try.prog Try.f12.results.toList Q) r.pe ⟨⟨119, f⟩, { target := .collected M.n, args := #[] } :: ds⟩ (putRec M' (M.n + 1) { r with st := .exhausted })) (h ⟨.ready, 0, ⟨119, f⟩, #[98], (sub (bodyOf Try.f12) [1, 1, 1, 1, 1, 1, 1, 1, 1, 1, 1, 1, 0, 1, 0, 0]), (sub (bodyOf Try.f12) [1, 1, 1, 1, 1, 1, 1, 1, 1, 1, 1, 1, 0, 1, 0, 1])⟩ ⟨f, rfl, rfl⟩) ?_)
  intro _ M1 h
  obtain ⟨r, hr, hs, h⟩ := OP_iff.1 h
  refine OP_iff.2 ⟨r, hr, hs, ?_⟩
  exact disp_K (N := 119) (L := [⟨0, fun a M => P_fettlelaw8_GrphReach_15 a.defers (a.get 5) (a.get 8) (a.get 17) (a.get 18) M Q, fun a M => At Try.prog Ex none Try.f12 [1, 1, 1, 1, 1, 1, 1, 1, 1, 1, 1, 1, 1] a M Q⟩])
    [0] (by kernel_rfl) (by kernel_rfl)
    ⟨fun a M hn h => by obtain ⟨⟨n, f⟩, ds⟩ := a; have hn : n = 119 := hn; subst hn; exact h f rfl rfl rfl rfl,
    trivial⟩
    rfl (cast (by kernel_rfl) h)
def S_fettlelaw8_GrphReach_14 (l : Nat) (x18 x20 : Value) (M : Store) (Q : Value → Store → Prop) : Prop :=
  OP (ld 1 false x18 M) fun t99 =>
  OP (bldL (.int .i64 0) 1 1 [(0, x20)]) fun c =>
  LT (.slice (some ⟨M.n, 0, none⟩) 1 1) (M.push (some (.inl (c, Ty.int, true)))) fun t101 M1 =>
  OP2 (appV 1 Ty.int t99 t101 M1) fun t102 M2 =>
  OP (st 1 x18 t102 M2) fun M3 =>
  YE l 0 M3 Q
theorem T_fettlelaw8_GrphReach_14 {l : Nat} {x18 x20 : Value} {M : Store} {Q : Value → Store → Prop} (h : S_fettlelaw8_GrphReach_14 l x18 x20 M Q) : P_fettlelaw8_GrphReach_14 l x18 x20 M Q := by
  intro f h18 h20; subst h18; subst h20
  unfold AtY
  exact rule (B := 1000) (N := 119) (ct := .no)
    [⟨0, fun a M => kfinY l Q 0 a M, fun a M => kfinY l Q 0 a M⟩]
    [] [0] (by kernel_rfl) (by kernel_rfl) (by kernel_rfl) (by kernel_rfl) (by kernel_rfl)
    ⟨fun _ _ _ h => h,
    trivial⟩
    (cast (by kernel_rfl) h)
def S_fettlelaw8_GrphReach_15 (ds : List Deferred) (x5 x8 x17 x18 : Value) (M : Store) (Q : Value → Store → Prop) : Prop :=
  OP (ld 1 false x18 M) fun t103 =>
  R F.fettleref1_SameInts #[t103, x8] M fun t105 M1 =>
  TDx [0, 0, 3, 7, 15, 15, 15, 15, 143, 463, 1007, 2047, 4095, 8191, 16383, 32767, 65535] [M.n, M.n, M.n] 2 M M1 ∧
  BR t105 (
  OP (ld 1 false x17 M1) fun t107 =>
  OP (ld 1 false x5 M1) fun t109 =>
  OP (lenV x8) fun t111 =>
  OP (amin2 t109 t111) fun t112 =>
  OP (slV 1 Ty.int x8 none (some t112) M1) fun t113 =>
  R F.fettleref1_SameInts #[t107, t113] M1 fun t114 M2 =>
  TDx [0, 0, 3, 7, 15, 15, 15, 15, 143, 463, 1007, 2047, 4095, 8191, 16383, 32767, 65535] [M.n, M.n, M.n, M1.n, M1.n, M1.n, M1.n, M1.n, M1.n, M1.n, M1.n, M1.n] 11 M1 M2 ∧
  BR t114 (
  R F.fettlelaw8_awake #[] M2 fun t117 M3 =>
  TDx [0, 0, 3, 7, 15, 15, 15, 15, 143, 463, 1007, 2047, 4095, 8191, 16383, 32767, 65535] [M.n, M.n, M.n, M1.n, M1.n, M1.n, M1.n, M1.n, M1.n, M1.n, M1.n, M1.n, M2.n, M2.n, M2.n] 14 M2 M3 ∧
  OP (atake ds M3) fun M4 =>
  NTs [t117] ∧ Q t117 M4
  ) (
  OP (atake ds M2) fun M5 =>
  NTs [(.bool false)] ∧ Q (.bool false) M5
  )
  ) (
  OP (atake ds M1) fun M6 =>
  NTs [(.bool false)] ∧ Q (.bool false) M6
  )
theorem T_fettlelaw8_GrphReach_15 {ds : List Deferred} {x5 x8 x17 x18 : Value} {M : Store} {Q : Value → Store → Prop} (h : S_fettlelaw8_GrphReach_15 ds x5 x8 x17 x18 M Q) : P_fettlelaw8_GrphReach_15 ds x5 x8 x17 x18 M Q := by
  intro f h5 h8 h17 h18; subst h5; subst h8; subst h17; subst h18
  unfold At
  exact rule (B := 1000) (N := 119) (ct := .no)
    [⟨1, fun a M => kfin Try.prog Try.f12.results.toList Q 1 a M, fun a M => kfin Try.prog Try.f12.results.toList Q 1 a M⟩]
    [] [1] (by kernel_rfl) (by kernel_rfl) (by kernel_rfl) (by kernel_rfl) (by kernel_rfl)
    ⟨fun _ _ _ h => h,
    trivial⟩
    (cast (by kernel_rfl) h)
def P_fettleref4_Dec_1 (x0 x3 : Value) (M : Store) (Q : Value → Store → Prop) : Prop :=
  ∀ f : Nat → Value, f 0 = x0 → f 3 = x3 → At Try.prog Ex none Try.f33 [1, 1, 0, 0] ⟨⟨21, f⟩, []⟩ M Q
def P_fettleref4_Dec_2 (x0 x3 : Value) (M : Store) (Q : Value → Store → Prop) : Prop :=
  ∀ f : Nat → Value, f 0 = x0 → f 3 = x3 → At Try.prog Ex none Try.f33 [1, 1, 0, 0, 0, 1] ⟨⟨21, f⟩, []⟩ M Q
def P_fettleref4_Dec_3 (x3 : Value) (M : Store) (Q : Value → Store → Prop) : Prop :=
  ∀ f : Nat → Value, f 3 = x3 → At Try.prog Ex none Try.f33 [1, 1, 1] ⟨⟨21, f⟩, []⟩ M Q
def S_fettleref4_Dec (x0 : Value) (M : Store) (Q : Value → Store → Prop) : Prop :=
  P_fettleref4_Dec_1 x0 (.string ⟨#[]⟩) M Q
theorem T_fettleref4_Dec {x0 : Value} {M : Store} {Q : Value → Store → Prop} (h : S_fettleref4_Dec x0 M Q) : R F.fettleref4_Dec #[x0] M Q := by
  refine runs_of (c := bodyOf Try.f33) Try.func33 rfl (by kernel_rfl) (by kernel_rfl) ?_
  unfold At
  exact rule (B := 1000) (N := 21) (ct := (.two .no (.two .no (.two (.two (.here 1000) .no) (.here 1001)))))
    [⟨1002, fun a M => dfr a.defers (P_fettleref4_Dec_1 (a.get 0) (a.get 3) M Q), fun a M => At Try.prog Ex none Try.f33 [1, 1, 0, 0] a M Q⟩,
    ⟨1003, fun _ _ => False, fun a M => At Try.prog Ex none Try.f33 [1, 1, 1] a M Q⟩]
    [1000, 1001] [] (by kernel_rfl) (by kernel_rfl) (by kernel_rfl) (by kernel_rfl) (by kernel_rfl)
    ⟨fun a M hn h => by obtain ⟨⟨n, f⟩, ds⟩ := a; have hn : n = 21 := hn; subst hn; obtain ⟨hd, h⟩ := dfr_iff h; have hd : ds = [] := hd; subst hd; exact h f rfl rfl,
    fun _ _ _ h => h.elim,
    trivial⟩
    (cast (by kernel_rfl) h)
def S_fettleref4_Dec_1 (x0 x3 : Value) (M : Store) (Q : Value → Store → Prop) : Prop :=
  OP (binI .gtr x0 (.int .i64 0)) fun t5 =>
  BR t5 (
  P_fettleref4_Dec_2 x0 x3 M Q
  ) (
  OP (binS .eql x3 (.string ⟨#[]⟩)) fun t8 =>
  BR t8 (
  P_fettleref4_Dec_2 x0 x3 M Q
  ) (
  P_fettleref4_Dec_3 x3 M Q
  )
  )
theorem T_fettleref4_Dec_1 {x0 x3 : Value} {M : Store} {Q : Value → Store → Prop} (h : S_fettleref4_Dec_1 x0 x3 M Q) : P_fettleref4_Dec_1 x0 x3 M Q := by
  intro f h0 h3; subst h0; subst h3
  unfold At
  refine cast (by kernel_rfl) (CW.loop (P := Try.prog) (E := Ex) (rd := none) (x := sub (bodyOf Try.f33) [1, 1, 0, 0, 0]) (a := ⟨⟨21, f⟩, []⟩) (M := M) (K := kcont Try.prog Ex none (bodyOf Try.f33) [1, 1, 0, 0] (kfin Try.prog Try.f33.results.toList Q)) ?_)
  exact rule (B := 1000) (N := 21) (ct := (.two .no (.here 1000)))
    [⟨1002, fun a M => dfr a.defers (P_fettleref4_Dec_2 (a.get 0) (a.get 3) M Q), fun a M => At Try.prog Ex none Try.f33 [1, 1, 0, 0, 0, 1] a M Q⟩,
    ⟨2, fun a M => dfr a.defers (P_fettleref4_Dec_3 (a.get 3) M Q), fun a M => At Try.prog Ex none Try.f33 [1, 1, 1] a M Q⟩]
    [1000] [2] (by kernel_rfl) (by kernel_rfl) (by kernel_rfl) (by kernel_rfl) (by kernel_rfl)
    ⟨fun a M hn h => by obtain ⟨⟨n, f⟩, ds⟩ := a; have hn : n = 21 := hn; subst hn; obtain ⟨hd, h⟩ := dfr_iff h; have hd : ds = [] := hd; subst hd; exact h f rfl rfl,
    fun a M hn h => by obtain ⟨⟨n, f⟩, ds⟩ := a; have hn : n = 21 := hn; subst hn; obtain ⟨hd, h⟩ := dfr_iff h; have hd : ds = [] := hd; subst hd; exact h f rfl,
    trivial⟩
    (cast (by kernel_rfl) h)
def S_fettleref4_Dec_2 (x0 x3 : Value) (M : Store) (Q : Value → Store → Prop) : Prop :=
  OP (binI .rem x0 (.int .i64 10)) fun t11 =>
  OP (binI .add (.int .i64 48) t11) fun t12 =>
  OP (cvI .u8 t12) fun t13 =>
  OP (bldL (.int .u8 0) 1 1 [(0, t13)]) fun c =>
  LT (.slice (some ⟨M.n, 0, none⟩) 1 1) (M.push (some (.inl (c, Ty.uint8, true)))) fun t14 M1 =>
  OP (cvBS t14 M1) fun t15 =>
  OP (binS .add t15 x3) fun t17 =>
  OP (binI .quo x0 (.int .i64 10)) fun t19 =>
  P_fettleref4_Dec_1 t19 t17 M1 Q
theorem T_fettleref4_Dec_2 {x0 x3 : Value} {M : Store} {Q : Value → Store → Prop} (h : S_fettleref4_Dec_2 x0 x3 M Q) : P_fettleref4_Dec_2 x0 x3 M Q := by
  intro f h0 h3; subst h0; subst h3
  unfold At
  exact rule (B := 1000) (N := 21) (ct := .no)
    [⟨0, fun a M => dfr a.defers (P_fettleref4_Dec_1 (a.get 0) (a.get 3) M Q), fun a M => At Try.prog Ex none Try.f33 [1, 1, 0, 0] a M Q⟩]
    [] [0] (by kernel_rfl) (by kernel_rfl) (by kernel_rfl) (by kernel_rfl) (by kernel_rfl)
    ⟨fun a M hn h => by obtain ⟨⟨n, f⟩, ds⟩ := a; have hn : n = 21 := hn; subst hn; obtain ⟨hd, h⟩ := dfr_iff h; have hd : ds = [] := hd; subst hd; exact h f rfl rfl,
    trivial⟩
    (cast (by kernel_rfl) h)
def S_fettleref4_Dec_3 (x3 : Value) (M : Store) (Q : Value → Store → Prop) : Prop :=
  NTs [x3] ∧ Q x3 M
theorem T_fettleref4_Dec_3 {x3 : Value} {M : Store} {Q : Value → Store → Prop} (h : S_fettleref4_Dec_3 x3 M Q) : P_fettleref4_Dec_3 x3 M Q := by
  intro f h3; subst h3
  unfold At
  exact rule (B := 1000) (N := 21) (ct := .no)
    [⟨1, fun a M => kfin Try.prog Try.f33.results.toList Q 1 a M, fun a M => kfin Try.prog Try.f33.results.toList Q 1 a M⟩]
    [] [1] (by kernel_rfl) (by kernel_rfl) (by kernel_rfl) (by kernel_rfl) (by kernel_rfl)
    ⟨fun _ _ _ h => h,
    trivial⟩
    (cast (by kernel_rfl) h)
def P_grph_Order_string_1 (x0 x1 x6 x22 x23 x24 : Value) (M : Store) (Q : Value → Store → Prop) : Prop :=
  ∀ f : Nat → Value, f 0 = x0 → f 1 = x1 → f 6 = x6 → f 22 = x22 → f 23 = x23 → f 24 = x24 → At Try.prog Ex none Try.f34 [1, 1, 1, 0, 1, 0] ⟨⟨94, f⟩, []⟩ M Q
def P_grph_Order_string_2 (x0 x1 x6 : Value) (M : Store) (Q : Value → Store → Prop) : Prop :=
  ∀ f : Nat → Value, f 0 = x0 → f 1 = x1 → f 6 = x6 → At Try.prog Ex none Try.f34 [1, 1, 1, 1] ⟨⟨94, f⟩, []⟩ M Q
def P_grph_Order_string_3 (x0 x1 x6 x9 x36 x37 x38 : Value) (M : Store) (Q : Value → Store → Prop) : Prop :=
  ∀ f : Nat → Value, f 0 = x0 → f 1 = x1 → f 6 = x6 → f 9 = x9 → f 36 = x36 → f 37 = x37 → f 38 = x38 → At Try.prog Ex none Try.f34 [1, 1, 1, 1, 1, 0, 1, 0] ⟨⟨94, f⟩, []⟩ M Q
def P_grph_Order_string_4 (x0 x1 x6 x9 x10 x36 x37 x38 x45 x46 x47 : Value) (M : Store) (Q : Value → Store → Prop) : Prop :=
  ∀ f : Nat → Value, f 0 = x0 → f 1 = x1 → f 6 = x6 → f 9 = x9 → f 10 = x10 → f 36 = x36 → f 37 = x37 → f 38 = x38 → f 45 = x45 → f 46 = x46 → f 47 = x47 → At Try.prog Ex none Try.f34 [1, 1, 1, 1, 1, 0, 1, 0, 0, 1, 1, 0, 0, 1, 1, 0] ⟨⟨94, f⟩, []⟩ M Q
def P_grph_Order_string_5 (x0 x9 : Value) (M : Store) (Q : Value → Store → Prop) : Prop :=
  ∀ f : Nat → Value, f 0 = x0 → f 9 = x9 → At Try.prog Ex none Try.f34 [1, 1, 1, 1, 1, 1] ⟨⟨94, f⟩, []⟩ M Q
def P_grph_Order_string_6 (x0 x1 x6 x9 x10 x36 x37 x38 x45 x46 x47 : Value) (M : Store) (Q : Value → Store → Prop) : Prop :=
  ∀ f : Nat → Value, f 0 = x0 → f 1 = x1 → f 6 = x6 → f 9 = x9 → f 10 = x10 → f 36 = x36 → f 37 = x37 → f 38 = x38 → f 45 = x45 → f 46 = x46 → f 47 = x47 → At Try.prog Ex none Try.f34 [1, 1, 1, 1, 1, 0, 1, 0, 0, 1, 1, 0, 0, 1, 1, 0, 0, 1, 1] ⟨⟨94, f⟩, []⟩ M Q
def P_grph_Order_string_7 (x0 x1 x6 x9 x36 x37 x38 : Value) (M : Store) (Q : Value → Store → Prop) : Prop :=
  ∀ f : Nat → Value, f 0 = x0 → f 1 = x1 → f 6 = x6 → f 9 = x9 → f 36 = x36 → f 37 = x37 → f 38 = x38 → At Try.prog Ex none Try.f34 [1, 1, 1, 1, 1, 0, 1, 0, 0, 1, 1, 1] ⟨⟨94, f⟩, []⟩ M Q
def P_grph_Order_string_8 (x0 x9 x16 x17 x74 x75 : Value) (M : Store) (Q : Value → Store → Prop) : Prop :=
  ∀ f : Nat → Value, f 0 = x0 → f 9 = x9 → f 16 = x16 → f 17 = x17 → f 74 = x74 → f 75 = x75 → At Try.prog Ex none Try.f34 [1, 1, 1, 1, 1, 1, 1, 1, 0, 1, 0] ⟨⟨94, f⟩, []⟩ M Q
def P_grph_Order_string_9 (x0 x9 x16 x17 x74 x75 : Value) (M : Store) (Q : Value → Store → Prop) : Prop :=
  ∀ f : Nat → Value, f 0 = x0 → f 9 = x9 → f 16 = x16 → f 17 = x17 → f 74 = x74 → f 75 = x75 → At Try.prog Ex none Try.f34 [1, 1, 1, 1, 1, 1, 1, 1, 0, 1, 0, 0, 1, 1] ⟨⟨94, f⟩, []⟩ M Q
def P_grph_Order_string_10 (x17 : Value) (M : Store) (Q : Value → Store → Prop) : Prop :=
  ∀ f : Nat → Value, f 17 = x17 → At Try.prog Ex none Try.f34 [1, 1, 1, 1, 1, 1, 1, 1, 1] ⟨⟨94, f⟩, []⟩ M Q
def S_grph_Order_string (x0 x1 : Value) (M : Store) (Q : Value → Store → Prop) : Prop :=
  R F.grph_unlike_string #[x0] M fun t20 M1 =>
  LT (.map (some M1.n)) (M1.push (some (.inr (.inl [])))) fun t21 M2 =>
  OP (lenV t20) fun t23 =>
  P_grph_Order_string_1 t20 x1 t21 t20 t23 (.int .i64 0) M2 Q
theorem T_grph_Order_string {x0 x1 : Value} {M : Store} {Q : Value → Store → Prop} (h : S_grph_Order_string x0 x1 M Q) : R F.grph_Order_string #[x0, x1] M Q := by
  refine runs_of (c := bodyOf Try.f34) Try.func34 rfl (by kernel_rfl) (by kernel_rfl) ?_
  unfold At
  exact rule (B := 1000) (N := 94) (ct := (.two .no (.two .no (.two .no (.two (.two .no (.two (.here 1000) .no)) (.here 1001))))))
    [⟨1002, fun a M => dfr a.defers (P_grph_Order_string_1 (a.get 0) (a.get 1) (a.get 6) (a.get 22) (a.get 23) (a.get 24) M Q), fun a M => At Try.prog Ex none Try.f34 [1, 1, 1, 0, 1, 0] a M Q⟩,
    ⟨1003, fun _ _ => False, fun a M => At Try.prog Ex none Try.f34 [1, 1, 1, 1] a M Q⟩]
    [1000, 1001] [] (by kernel_rfl) (by kernel_rfl) (by kernel_rfl) (by kernel_rfl) (by kernel_rfl)
    ⟨fun a M hn h => by obtain ⟨⟨n, f⟩, ds⟩ := a; have hn : n = 94 := hn; subst hn; obtain ⟨hd, h⟩ := dfr_iff h; have hd : ds = [] := hd; subst hd; exact h f rfl rfl rfl rfl rfl rfl,
    fun _ _ _ h => h.elim,
    trivial⟩
    (cast (by kernel_rfl) h)
def S_grph_Order_string_1 (x0 x1 x6 x22 x23 x24 : Value) (M : Store) (Q : Value → Store → Prop) : Prop :=
  OP (binI .lss x24 x23) fun t25 =>
  BR t25 (
  OP (ixA 1 x22 x24) fun t27 =>
  OP (ld 1 false t27 M) fun t28 =>
  OP (mup .string x6 t28 x24 M) fun M1 =>
  OP (binI .add x24 (.int .i64 1)) fun t32 =>
  P_grph_Order_string_1 x0 x1 x6 x22 x23 t32 M1 Q
  ) (
  P_grph_Order_string_2 x0 x1 x6 M Q
  )
theorem T_grph_Order_string_1 {x0 x1 x6 x22 x23 x24 : Value} {M : Store} {Q : Value → Store → Prop} (h : S_grph_Order_string_1 x0 x1 x6 x22 x23 x24 M Q) : P_grph_Order_string_1 x0 x1 x6 x22 x23 x24 M Q := by
  intro f h0 h1 h6 h22 h23 h24; subst h0; subst h1; subst h6; subst h22; subst h23; subst h24
  unfold At
  refine cast (by kernel_rfl) (CW.loop (P := Try.prog) (E := Ex) (rd := none) (x := sub (bodyOf Try.f34) [1, 1, 1, 0, 1, 0, 0]) (a := ⟨⟨94, f⟩, []⟩) (M := M) (K := kcont Try.prog Ex none (bodyOf Try.f34) [1, 1, 1, 0, 1, 0] (kfin Try.prog Try.f34.results.toList Q)) ?_)
  exact rule (B := 1000) (N := 94) (ct := .no)
    [⟨0, fun a M => dfr a.defers (P_grph_Order_string_1 (a.get 0) (a.get 1) (a.get 6) (a.get 22) (a.get 23) (a.get 24) M Q), fun a M => At Try.prog Ex none Try.f34 [1, 1, 1, 0, 1, 0] a M Q⟩,
    ⟨2, fun a M => dfr a.defers (P_grph_Order_string_2 (a.get 0) (a.get 1) (a.get 6) M Q), fun a M => At Try.prog Ex none Try.f34 [1, 1, 1, 1] a M Q⟩]
    [] [0, 2] (by kernel_rfl) (by kernel_rfl) (by kernel_rfl) (by kernel_rfl) (by kernel_rfl)
    ⟨fun a M hn h => by obtain ⟨⟨n, f⟩, ds⟩ := a; have hn : n = 94 := hn; subst hn; obtain ⟨hd, h⟩ := dfr_iff h; have hd : ds = [] := hd; subst hd; exact h f rfl rfl rfl rfl rfl rfl,
    fun a M hn h => by obtain ⟨⟨n, f⟩, ds⟩ := a; have hn : n = 94 := hn; subst hn; obtain ⟨hd, h⟩ := dfr_iff h; have hd : ds = [] := hd; subst hd; exact h f rfl rfl rfl,
    trivial⟩
    (cast (by kernel_rfl) h)
def S_grph_Order_string_2 (x0 x1 x6 : Value) (M : Store) (Q : Value → Store → Prop) : Prop :=
  OP (lenV x0) fun t34 =>
  OP2 (mkS (.slice none 0 0) 1 24 Ty.sl_int t34 t34 M) fun t35 M1 =>
  OP (lenV x0) fun t37 =>
  P_grph_Order_string_3 x0 x1 x6 t35 x0 t37 (.int .i64 0) M1 Q
theorem T_grph_Order_string_2 {x0 x1 x6 : Value} {M : Store} {Q : Value → Store → Prop} (h : S_grph_Order_string_2 x0 x1 x6 M Q) : P_grph_Order_string_2 x0 x1 x6 M Q := by
  intro f h0 h1 h6; subst h0; subst h1; subst h6
  unfold At
  exact rule (B := 1000) (N := 94) (ct := (.two .no (.two (.two .no (.two (.here 1000) .no)) (.here 1001))))
    [⟨1002, fun a M => dfr a.defers (P_grph_Order_string_3 (a.get 0) (a.get 1) (a.get 6) (a.get 9) (a.get 36) (a.get 37) (a.get 38) M Q), fun a M => At Try.prog Ex none Try.f34 [1, 1, 1, 1, 1, 0, 1, 0] a M Q⟩,
    ⟨1003, fun _ _ => False, fun a M => At Try.prog Ex none Try.f34 [1, 1, 1, 1, 1, 1] a M Q⟩]
    [1000, 1001] [] (by kernel_rfl) (by kernel_rfl) (by kernel_rfl) (by kernel_rfl) (by kernel_rfl)
    ⟨fun a M hn h => by obtain ⟨⟨n, f⟩, ds⟩ := a; have hn : n = 94 := hn; subst hn; obtain ⟨hd, h⟩ := dfr_iff h; have hd : ds = [] := hd; subst hd; exact h f rfl rfl rfl rfl rfl rfl rfl,
    fun _ _ _ h => h.elim,
    trivial⟩
    (cast (by kernel_rfl) h)
def S_grph_Order_string_3 (x0 x1 x6 x9 x36 x37 x38 : Value) (M : Store) (Q : Value → Store → Prop) : Prop :=
  OP (binI .lss x38 x37) fun t39 =>
  BR t39 (
  OP (ixA 1 x36 x38) fun t41 =>
  OP (ld 1 false t41 M) fun t42 =>
  KC x1 [t42] M fun t45 M1 =>
  OP (lenV t45) fun t46 =>
  P_grph_Order_string_4 x0 x1 x6 x9 x38 x36 x37 x38 t45 t46 (.int .i64 0) M1 Q
  ) (
  P_grph_Order_string_5 x0 x9 M Q
  )
theorem T_grph_Order_string_3 {x0 x1 x6 x9 x36 x37 x38 : Value} {M : Store} {Q : Value → Store → Prop} (h : S_grph_Order_string_3 x0 x1 x6 x9 x36 x37 x38 M Q) : P_grph_Order_string_3 x0 x1 x6 x9 x36 x37 x38 M Q := by
  intro f h0 h1 h6 h9 h36 h37 h38; subst h0; subst h1; subst h6; subst h9; subst h36; subst h37; subst h38
  unfold At
  refine cast (by kernel_rfl) (CW.loop (P := Try.prog) (E := Ex) (rd := none) (x := sub (bodyOf Try.f34) [1, 1, 1, 1, 1, 0, 1, 0, 0]) (a := ⟨⟨94, f⟩, []⟩) (M := M) (K := kcont Try.prog Ex none (bodyOf Try.f34) [1, 1, 1, 1, 1, 0, 1, 0] (kfin Try.prog Try.f34.results.toList Q)) ?_)
  exact rule (B := 1000) (N := 94) (ct := (.two .no (.two .no (.two (.two (.two .no (.two .no (.two (.here 1000) .no))) .no) (.here 1001)))))
    [⟨1002, fun a M => dfr a.defers (P_grph_Order_string_4 (a.get 0) (a.get 1) (a.get 6) (a.get 9) (a.get 10) (a.get 36) (a.get 37) (a.get 38) (a.get 45) (a.get 46) (a.get 47) M Q), fun a M => At Try.prog Ex none Try.f34 [1, 1, 1, 1, 1, 0, 1, 0, 0, 1, 1, 0, 0, 1, 1, 0] a M Q⟩,
    ⟨1003, fun _ _ => False, fun a M => At Try.prog Ex none Try.f34 [1, 1, 1, 1, 1, 0, 1, 0, 0, 1, 1, 1] a M Q⟩,
    ⟨4, fun a M => dfr a.defers (P_grph_Order_string_5 (a.get 0) (a.get 9) M Q), fun a M => At Try.prog Ex none Try.f34 [1, 1, 1, 1, 1, 1] a M Q⟩]
    [1000, 1001] [4] (by kernel_rfl) (by kernel_rfl) (by kernel_rfl) (by kernel_rfl) (by kernel_rfl)
    ⟨fun a M hn h => by obtain ⟨⟨n, f⟩, ds⟩ := a; have hn : n = 94 := hn; subst hn; obtain ⟨hd, h⟩ := dfr_iff h; have hd : ds = [] := hd; subst hd; exact h f rfl rfl rfl rfl rfl rfl rfl rfl rfl rfl rfl,
    fun _ _ _ h => h.elim,
    fun a M hn h => by obtain ⟨⟨n, f⟩, ds⟩ := a; have hn : n = 94 := hn; subst hn; obtain ⟨hd, h⟩ := dfr_iff h; have hd : ds = [] := hd; subst hd; exact h f rfl rfl,
    trivial⟩
    (cast (by kernel_rfl) h)
def S_grph_Order_string_4 (x0 x1 x6 x9 x10 x36 x37 x38 x45 x46 x47 : Value) (M : Store) (Q : Value → Store → Prop) : Prop :=
  OP (binI .lss x47 x46) fun t48 =>
  BR t48 (
  P_grph_Order_string_6 x0 x1 x6 x9 x10 x36 x37 x38 x45 x46 x47 M Q
  ) (
  P_grph_Order_string_7 x0 x1 x6 x9 x36 x37 x38 M Q
  )
theorem T_grph_Order_string_4 {x0 x1 x6 x9 x10 x36 x37 x38 x45 x46 x47 : Value} {M : Store} {Q : Value → Store → Prop} (h : S_grph_Order_string_4 x0 x1 x6 x9 x10 x36 x37 x38 x45 x46 x47 M Q) : P_grph_Order_string_4 x0 x1 x6 x9 x10 x36 x37 x38 x45 x46 x47 M Q := by
  intro f h0 h1 h6 h9 h10 h36 h37 h38 h45 h46 h47; subst h0; subst h1; subst h6; subst h9; subst h10; subst h36; subst h37; subst h38; subst h45; subst h46; subst h47
  unfold At
  refine cast (by kernel_rfl) (CW.loop (P := Try.prog) (E := Ex) (rd := none) (x := sub (bodyOf Try.f34) [1, 1, 1, 1, 1, 0, 1, 0, 0, 1, 1, 0, 0, 1, 1, 0, 0]) (a := ⟨⟨94, f⟩, []⟩) (M := M) (K := kcont Try.prog Ex none (bodyOf Try.f34) [1, 1, 1, 1, 1, 0, 1, 0, 0, 1, 1, 0, 0, 1, 1, 0] (kfin Try.prog Try.f34.results.toList Q)) ?_)
  exact rule (B := 1000) (N := 94) (ct := (.two .no (.two .no (.here 1000))))
    [⟨1002, fun a M => dfr a.defers (P_grph_Order_string_6 (a.get 0) (a.get 1) (a.get 6) (a.get 9) (a.get 10) (a.get 36) (a.get 37) (a.get 38) (a.get 45) (a.get 46) (a.get 47) M Q), fun a M => At Try.prog Ex none Try.f34 [1, 1, 1, 1, 1, 0, 1, 0, 0, 1, 1, 0, 0, 1, 1, 0, 0, 1, 1] a M Q⟩,
    ⟨6, fun a M => dfr a.defers (P_grph_Order_string_7 (a.get 0) (a.get 1) (a.get 6) (a.get 9) (a.get 36) (a.get 37) (a.get 38) M Q), fun a M => At Try.prog Ex none Try.f34 [1, 1, 1, 1, 1, 0, 1, 0, 0, 1, 1, 1] a M Q⟩]
    [1000] [6] (by kernel_rfl) (by kernel_rfl) (by kernel_rfl) (by kernel_rfl) (by kernel_rfl)
    ⟨fun a M hn h => by obtain ⟨⟨n, f⟩, ds⟩ := a; have hn : n = 94 := hn; subst hn; obtain ⟨hd, h⟩ := dfr_iff h; have hd : ds = [] := hd; subst hd; exact h f rfl rfl rfl rfl rfl rfl rfl rfl rfl rfl rfl,
    fun a M hn h => by obtain ⟨⟨n, f⟩, ds⟩ := a; have hn : n = 94 := hn; subst hn; obtain ⟨hd, h⟩ := dfr_iff h; have hd : ds = [] := hd; subst hd; exact h f rfl rfl rfl rfl rfl rfl rfl,
    trivial⟩
    (cast (by kernel_rfl) h)
def S_grph_Order_string_5 (x0 x9 : Value) (M : Store) (Q : Value → Store → Prop) : Prop :=
  OP (lenV x0) fun t71 =>
  OP2 (mkS (.bool false) 1 1 Ty.bool t71 t71 M) fun t72 M1 =>
  OP (lenV x0) fun t74 =>
  P_grph_Order_string_8 x0 x9 t72 (.slice none 0 0) t74 (.int .i64 0) M1 Q
theorem T_grph_Order_string_5 {x0 x9 : Value} {M : Store} {Q : Value → Store → Prop} (h : S_grph_Order_string_5 x0 x9 M Q) : P_grph_Order_string_5 x0 x9 M Q := by
  intro f h0 h9; subst h0; subst h9
  unfold At
  exact rule (B := 1000) (N := 94) (ct := (.two .no (.two .no (.two (.two .no (.two (.here 1000) .no)) (.here 1001)))))
    [⟨1002, fun a M => dfr a.defers (P_grph_Order_string_8 (a.get 0) (a.get 9) (a.get 16) (a.get 17) (a.get 74) (a.get 75) M Q), fun a M => At Try.prog Ex none Try.f34 [1, 1, 1, 1, 1, 1, 1, 1, 0, 1, 0] a M Q⟩,
    ⟨1003, fun _ _ => False, fun a M => At Try.prog Ex none Try.f34 [1, 1, 1, 1, 1, 1, 1, 1, 1] a M Q⟩]
    [1000, 1001] [] (by kernel_rfl) (by kernel_rfl) (by kernel_rfl) (by kernel_rfl) (by kernel_rfl)
    ⟨fun a M hn h => by obtain ⟨⟨n, f⟩, ds⟩ := a; have hn : n = 94 := hn; subst hn; obtain ⟨hd, h⟩ := dfr_iff h; have hd : ds = [] := hd; subst hd; exact h f rfl rfl rfl rfl rfl rfl,
    fun _ _ _ h => h.elim,
    trivial⟩
    (cast (by kernel_rfl) h)
def S_grph_Order_string_6 (x0 x1 x6 x9 x10 x36 x37 x38 x45 x46 x47 : Value) (M : Store) (Q : Value → Store → Prop) : Prop :=
  OP (ixA 1 x45 x47) fun t49 =>
  OP (ld 1 false t49 M) fun t50 =>
  OP (lku .string (.int .i64 0) x6 t50 true M) fun t54 =>
  OP (tup t54 0) fun t55 =>
  OP (tup t54 1) fun t56 =>
  BR t56 (
  OP (ixA 1 x9 x10) fun t62 =>
  OP (ld 1 false t62 M) fun t63 =>
  OP (bldL (.int .i64 0) 1 1 [(0, t55)]) fun c =>
  LT (.slice (some ⟨M.n, 0, none⟩) 1 1) (M.push (some (.inl (c, Ty.int, true)))) fun t65 M1 =>
  OP2 (appV 1 Ty.int t63 t65 M1) fun t66 M2 =>
  OP (ixA 1 x9 x10) fun t67 =>
  OP (st 1 t67 t66 M2) fun M3 =>
  OP (binI .add x47 (.int .i64 1)) fun t68 =>
  P_grph_Order_string_4 x0 x1 x6 x9 x10 x36 x37 x38 x45 x46 t68 M3 Q
  ) (
  OP (binI .add x47 (.int .i64 1)) fun t68_1 =>
  P_grph_Order_string_4 x0 x1 x6 x9 x10 x36 x37 x38 x45 x46 t68_1 M Q
  )
theorem T_grph_Order_string_6 {x0 x1 x6 x9 x10 x36 x37 x38 x45 x46 x47 : Value} {M : Store} {Q : Value → Store → Prop} (h : S_grph_Order_string_6 x0 x1 x6 x9 x10 x36 x37 x38 x45 x46 x47 M Q) : P_grph_Order_string_6 x0 x1 x6 x9 x10 x36 x37 x38 x45 x46 x47 M Q := by
  intro f h0 h1 h6 h9 h10 h36 h37 h38 h45 h46 h47; subst h0; subst h1; subst h6; subst h9; subst h10; subst h36; subst h37; subst h38; subst h45; subst h46; subst h47
  unfold At
  exact rule (B := 1000) (N := 94) (ct := .no)
    [⟨0, fun a M => dfr a.defers (P_grph_Order_string_4 (a.get 0) (a.get 1) (a.get 6) (a.get 9) (a.get 10) (a.get 36) (a.get 37) (a.get 38) (a.get 45) (a.get 46) (a.get 47) M Q), fun a M => At Try.prog Ex none Try.f34 [1, 1, 1, 1, 1, 0, 1, 0, 0, 1, 1, 0, 0, 1, 1, 0] a M Q⟩]
    [] [0] (by kernel_rfl) (by kernel_rfl) (by kernel_rfl) (by kernel_rfl) (by kernel_rfl)
    ⟨fun a M hn h => by obtain ⟨⟨n, f⟩, ds⟩ := a; have hn : n = 94 := hn; subst hn; obtain ⟨hd, h⟩ := dfr_iff h; have hd : ds = [] := hd; subst hd; exact h f rfl rfl rfl rfl rfl rfl rfl rfl rfl rfl rfl,
    trivial⟩
    (cast (by kernel_rfl) h)
def S_grph_Order_string_7 (x0 x1 x6 x9 x36 x37 x38 : Value) (M : Store) (Q : Value → Store → Prop) : Prop :=
  OP (binI .add x38 (.int .i64 1)) fun t69 =>
  P_grph_Order_string_3 x0 x1 x6 x9 x36 x37 t69 M Q
theorem T_grph_Order_string_7 {x0 x1 x6 x9 x36 x37 x38 : Value} {M : Store} {Q : Value → Store → Prop} (h : S_grph_Order_string_7 x0 x1 x6 x9 x36 x37 x38 M Q) : P_grph_Order_string_7 x0 x1 x6 x9 x36 x37 x38 M Q := by
  intro f h0 h1 h6 h9 h36 h37 h38; subst h0; subst h1; subst h6; subst h9; subst h36; subst h37; subst h38
  unfold At
  exact rule (B := 1000) (N := 94) (ct := .no)
    [⟨0, fun a M => dfr a.defers (P_grph_Order_string_3 (a.get 0) (a.get 1) (a.get 6) (a.get 9) (a.get 36) (a.get 37) (a.get 38) M Q), fun a M => At Try.prog Ex none Try.f34 [1, 1, 1, 1, 1, 0, 1, 0] a M Q⟩]
    [] [0] (by kernel_rfl) (by kernel_rfl) (by kernel_rfl) (by kernel_rfl) (by kernel_rfl)
    ⟨fun a M hn h => by obtain ⟨⟨n, f⟩, ds⟩ := a; have hn : n = 94 := hn; subst hn; obtain ⟨hd, h⟩ := dfr_iff h; have hd : ds = [] := hd; subst hd; exact h f rfl rfl rfl rfl rfl rfl rfl,
    trivial⟩
    (cast (by kernel_rfl) h)
def S_grph_Order_string_8 (x0 x9 x16 x17 x74 x75 : Value) (M : Store) (Q : Value → Store → Prop) : Prop :=
  OP (binI .lss x75 x74) fun t76 =>
  BR t76 (
  P_grph_Order_string_9 x0 x9 x16 x17 x74 x75 M Q
  ) (
  P_grph_Order_string_10 x17 M Q
  )
theorem T_grph_Order_string_8 {x0 x9 x16 x17 x74 x75 : Value} {M : Store} {Q : Value → Store → Prop} (h : S_grph_Order_string_8 x0 x9 x16 x17 x74 x75 M Q) : P_grph_Order_string_8 x0 x9 x16 x17 x74 x75 M Q := by
  intro f h0 h9 h16 h17 h74 h75; subst h0; subst h9; subst h16; subst h17; subst h74; subst h75
  unfold At
  refine cast (by kernel_rfl) (CW.loop (P := Try.prog) (E := Ex) (rd := none) (x := sub (bodyOf Try.f34) [1, 1, 1, 1, 1, 1, 1, 1, 0, 1, 0, 0]) (a := ⟨⟨94, f⟩, []⟩) (M := M) (K := kcont Try.prog Ex none (bodyOf Try.f34) [1, 1, 1, 1, 1, 1, 1, 1, 0, 1, 0] (kfin Try.prog Try.f34.results.toList Q)) ?_)
  exact rule (B := 1000) (N := 94) (ct := (.two .no (.two .no (.here 1000))))
    [⟨1002, fun a M => dfr a.defers (P_grph_Order_string_9 (a.get 0) (a.get 9) (a.get 16) (a.get 17) (a.get 74) (a.get 75) M Q), fun a M => At Try.prog Ex none Try.f34 [1, 1, 1, 1, 1, 1, 1, 1, 0, 1, 0, 0, 1, 1] a M Q⟩,
    ⟨8, fun a M => dfr a.defers (P_grph_Order_string_10 (a.get 17) M Q), fun a M => At Try.prog Ex none Try.f34 [1, 1, 1, 1, 1, 1, 1, 1, 1] a M Q⟩]
    [1000] [8] (by kernel_rfl) (by kernel_rfl) (by kernel_rfl) (by kernel_rfl) (by kernel_rfl)
    ⟨fun a M hn h => by obtain ⟨⟨n, f⟩, ds⟩ := a; have hn : n = 94 := hn; subst hn; obtain ⟨hd, h⟩ := dfr_iff h; have hd : ds = [] := hd; subst hd; exact h f rfl rfl rfl rfl rfl rfl,
    fun a M hn h => by obtain ⟨⟨n, f⟩, ds⟩ := a; have hn : n = 94 := hn; subst hn; obtain ⟨hd, h⟩ := dfr_iff h; have hd : ds = [] := hd; subst hd; exact h f rfl,
    trivial⟩
    (cast (by kernel_rfl) h)
def S_grph_Order_string_9 (x0 x9 x16 x17 x74 x75 : Value) (M : Store) (Q : Value → Store → Prop) : Prop :=
  R F.grph_next #[x9, x16] M fun t79 M1 =>
  OP (binI .lss t79 (.int .i64 0)) fun t81 =>
  BR t81 (
  NTs [(.slice none 0 0), (.bool false)] ∧ Q (.tuple #[(.slice none 0 0), (.bool false)]) M1
  ) (
  OP (ixA 1 x16 t79) fun t84 =>
  OP (st 1 t84 (.bool true) M1) fun M2 =>
  OP (ixA 1 x0 t79) fun t88 =>
  OP (ld 1 false t88 M2) fun t89 =>
  OP (bldL (.string ⟨#[]⟩) 1 1 [(0, t89)]) fun c =>
  LT (.slice (some ⟨M2.n, 0, none⟩) 1 1) (M2.push (some (.inl (c, Ty.string, true)))) fun t90 M3 =>
  OP2 (appV 1 Ty.string x17 t90 M3) fun t91 M4 =>
  OP (binI .add x75 (.int .i64 1)) fun t92 =>
  P_grph_Order_string_8 x0 x9 x16 t91 x74 t92 M4 Q
  )
theorem T_grph_Order_string_9 {x0 x9 x16 x17 x74 x75 : Value} {M : Store} {Q : Value → Store → Prop} (h : S_grph_Order_string_9 x0 x9 x16 x17 x74 x75 M Q) : P_grph_Order_string_9 x0 x9 x16 x17 x74 x75 M Q := by
  intro f h0 h9 h16 h17 h74 h75; subst h0; subst h9; subst h16; subst h17; subst h74; subst h75
  unfold At
  exact rule (B := 1000) (N := 94) (ct := .no)
    [⟨0, fun a M => dfr a.defers (P_grph_Order_string_8 (a.get 0) (a.get 9) (a.get 16) (a.get 17) (a.get 74) (a.get 75) M Q), fun a M => At Try.prog Ex none Try.f34 [1, 1, 1, 1, 1, 1, 1, 1, 0, 1, 0] a M Q⟩,
    ⟨1, fun a M => kfin Try.prog Try.f34.results.toList Q 1 a M, fun a M => kfin Try.prog Try.f34.results.toList Q 1 a M⟩]
    [] [0, 1] (by kernel_rfl) (by kernel_rfl) (by kernel_rfl) (by kernel_rfl) (by kernel_rfl)
    ⟨fun a M hn h => by obtain ⟨⟨n, f⟩, ds⟩ := a; have hn : n = 94 := hn; subst hn; obtain ⟨hd, h⟩ := dfr_iff h; have hd : ds = [] := hd; subst hd; exact h f rfl rfl rfl rfl rfl rfl,
    fun _ _ _ h => h,
    trivial⟩
    (cast (by kernel_rfl) h)
def S_grph_Order_string_10 (x17 : Value) (M : Store) (Q : Value → Store → Prop) : Prop :=
  NTs [x17, (.bool true)] ∧ Q (.tuple #[x17, (.bool true)]) M
theorem T_grph_Order_string_10 {x17 : Value} {M : Store} {Q : Value → Store → Prop} (h : S_grph_Order_string_10 x17 M Q) : P_grph_Order_string_10 x17 M Q := by
  intro f h17; subst h17
  unfold At
  exact rule (B := 1000) (N := 94) (ct := .no)
    [⟨1, fun a M => kfin Try.prog Try.f34.results.toList Q 1 a M, fun a M => kfin Try.prog Try.f34.results.toList Q 1 a M⟩]
    [] [1] (by kernel_rfl) (by kernel_rfl) (by kernel_rfl) (by kernel_rfl) (by kernel_rfl)
    ⟨fun _ _ _ h => h,
    trivial⟩
    (cast (by kernel_rfl) h)
def S_fettlelaw8_GrphKinds_c1 (x0 x1 : Value) (M : Store) (Q : Value → Store → Prop) : Prop :=
  OP (ld 1 false x1 M) fun t4 =>
  NTs [t4] ∧ Q t4 M
theorem T_fettlelaw8_GrphKinds_c1 {x0 x1 : Value} {M : Store} {Q : Value → Store → Prop} (h : S_fettlelaw8_GrphKinds_c1 x0 x1 M Q) : R F.fettlelaw8_GrphKinds_c1 #[x0, x1] M Q := by
  refine runs_of (c := bodyOf Try.f35) Try.func35 rfl (by kernel_rfl) (by kernel_rfl) ?_
  unfold At
  exact rule (B := 1000) (N := 5) (ct := .no)
    [⟨1, fun a M => kfin Try.prog Try.f35.results.toList Q 1 a M, fun a M => kfin Try.prog Try.f35.results.toList Q 1 a M⟩]
    [] [1] (by kernel_rfl) (by kernel_rfl) (by kernel_rfl) (by kernel_rfl) (by kernel_rfl)
    ⟨fun _ _ _ h => h,
    trivial⟩
    (cast (by kernel_rfl) h)
def P_grph_Order_int_1 (x0 x1 x6 x22 x23 x24 : Value) (M : Store) (Q : Value → Store → Prop) : Prop :=
  ∀ f : Nat → Value, f 0 = x0 → f 1 = x1 → f 6 = x6 → f 22 = x22 → f 23 = x23 → f 24 = x24 → At Try.prog Ex none Try.f36 [1, 1, 1, 0, 1, 0] ⟨⟨94, f⟩, []⟩ M Q
def P_grph_Order_int_2 (x0 x1 x6 : Value) (M : Store) (Q : Value → Store → Prop) : Prop :=
  ∀ f : Nat → Value, f 0 = x0 → f 1 = x1 → f 6 = x6 → At Try.prog Ex none Try.f36 [1, 1, 1, 1] ⟨⟨94, f⟩, []⟩ M Q
def P_grph_Order_int_3 (x0 x1 x6 x9 x36 x37 x38 : Value) (M : Store) (Q : Value → Store → Prop) : Prop :=
  ∀ f : Nat → Value, f 0 = x0 → f 1 = x1 → f 6 = x6 → f 9 = x9 → f 36 = x36 → f 37 = x37 → f 38 = x38 → At Try.prog Ex none Try.f36 [1, 1, 1, 1, 1, 0, 1, 0] ⟨⟨94, f⟩, []⟩ M Q
def P_grph_Order_int_4 (x0 x1 x6 x9 x10 x36 x37 x38 x45 x46 x47 : Value) (M : Store) (Q : Value → Store → Prop) : Prop :=
  ∀ f : Nat → Value, f 0 = x0 → f 1 = x1 → f 6 = x6 → f 9 = x9 → f 10 = x10 → f 36 = x36 → f 37 = x37 → f 38 = x38 → f 45 = x45 → f 46 = x46 → f 47 = x47 → At Try.prog Ex none Try.f36 [1, 1, 1, 1, 1, 0, 1, 0, 0, 1, 1, 0, 0, 1, 1, 0] ⟨⟨94, f⟩, []⟩ M Q
def P_grph_Order_int_5 (x0 x9 : Value) (M : Store) (Q : Value → Store → Prop) : Prop :=
  ∀ f : Nat → Value, f 0 = x0 → f 9 = x9 → At Try.prog Ex none Try.f36 [1, 1, 1, 1, 1, 1] ⟨⟨94, f⟩, []⟩ M Q
def P_grph_Order_int_6 (x0 x1 x6 x9 x10 x36 x37 x38 x45 x46 x47 : Value) (M : Store) (Q : Value → Store → Prop) : Prop :=
  ∀ f : Nat → Value, f 0 = x0 → f 1 = x1 → f 6 = x6 → f 9 = x9 → f 10 = x10 → f 36 = x36 → f 37 = x37 → f 38 = x38 → f 45 = x45 → f 46 = x46 → f 47 = x47 → At Try.prog Ex none Try.f36 [1, 1, 1, 1, 1, 0, 1, 0, 0, 1, 1, 0, 0, 1, 1, 0, 0, 1, 1] ⟨⟨94, f⟩, []⟩ M Q
def P_grph_Order_int_7 (x0 x1 x6 x9 x36 x37 x38 : Value) (M : Store) (Q : Value → Store → Prop) : Prop :=
  ∀ f : Nat → Value, f 0 = x0 → f 1 = x1 → f 6 = x6 → f 9 = x9 → f 36 = x36 → f 37 = x37 → f 38 = x38 → At Try.prog Ex none Try.f36 [1, 1, 1, 1, 1, 0, 1, 0, 0, 1, 1, 1] ⟨⟨94, f⟩, []⟩ M Q
def P_grph_Order_int_8 (x0 x9 x16 x17 x74 x75 : Value) (M : Store) (Q : Value → Store → Prop) : Prop :=
  ∀ f : Nat → Value, f 0 = x0 → f 9 = x9 → f 16 = x16 → f 17 = x17 → f 74 = x74 → f 75 = x75 → At Try.prog Ex none Try.f36 [1, 1, 1, 1, 1, 1, 1, 1, 0, 1, 0] ⟨⟨94, f⟩, []⟩ M Q
def P_grph_Order_int_9 (x0 x9 x16 x17 x74 x75 : Value) (M : Store) (Q : Value → Store → Prop) : Prop :=
  ∀ f : Nat → Value, f 0 = x0 → f 9 = x9 → f 16 = x16 → f 17 = x17 → f 74 = x74 → f 75 = x75 → At Try.prog Ex none Try.f36 [1, 1, 1, 1, 1, 1, 1, 1, 0, 1, 0, 0, 1, 1] ⟨⟨94, f⟩, []⟩ M Q
def P_grph_Order_int_10 (x17 : Value) (M : Store) (Q : Value → Store → Prop) : Prop :=
  ∀ f : Nat → Value, f 17 = x17 → At Try.prog Ex none Try.f36 [1, 1, 1, 1, 1, 1, 1, 1, 1] ⟨⟨94, f⟩, []⟩ M Q
def S_grph_Order_int (x0 x1 : Value) (M : Store) (Q : Value → Store → Prop) : Prop :=
  R F.grph_unlike_int #[x0] M fun t20 M1 =>
  LT (.map (some M1.n)) (M1.push (some (.inr (.inl [])))) fun t21 M2 =>
  OP (lenV t20) fun t23 =>
  P_grph_Order_int_1 t20 x1 t21 t20 t23 (.int .i64 0) M2 Q
theorem T_grph_Order_int {x0 x1 : Value} {M : Store} {Q : Value → Store → Prop} (h : S_grph_Order_int x0 x1 M Q) : R F.grph_Order_int #[x0, x1] M Q := by
  refine runs_of (c := bodyOf Try.f36) Try.func36 rfl (by kernel_rfl) (by kernel_rfl) ?_
  unfold At
  exact rule (B := 1000) (N := 94) (ct := (.two .no (.two .no (.two .no (.two (.two .no (.two (.here 1000) .no)) (.here 1001))))))
    [⟨1002, fun a M => dfr a.defers (P_grph_Order_int_1 (a.get 0) (a.get 1) (a.get 6) (a.get 22) (a.get 23) (a.get 24) M Q), fun a M => At Try.prog Ex none Try.f36 [1, 1, 1, 0, 1, 0] a M Q⟩,
    ⟨1003, fun _ _ => False, fun a M => At Try.prog Ex none Try.f36 [1, 1, 1, 1] a M Q⟩]
    [1000, 1001] [] (by kernel_rfl) (by kernel_rfl) (by kernel_rfl) (by kernel_rfl) (by kernel_rfl)
    ⟨fun a M hn h => by obtain ⟨⟨n, f⟩, ds⟩ := a; have hn : n = 94 := hn; subst hn; obtain ⟨hd, h⟩ := dfr_iff h; have hd : ds = [] := hd; subst hd; exact h f rfl rfl rfl rfl rfl rfl,
    fun _ _ _ h => h.elim,
    trivial⟩
    (cast (by kernel_rfl) h)
def S_grph_Order_int_1 (x0 x1 x6 x22 x23 x24 : Value) (M : Store) (Q : Value → Store → Prop) : Prop :=
  OP (binI .lss x24 x23) fun t25 =>
  BR t25 (
  OP (ixA 1 x22 x24) fun t27 =>
  OP (ld 1 false t27 M) fun t28 =>
  OP (mup (.int .i64) x6 t28 x24 M) fun M1 =>
  OP (binI .add x24 (.int .i64 1)) fun t32 =>
  P_grph_Order_int_1 x0 x1 x6 x22 x23 t32 M1 Q
  ) (
  P_grph_Order_int_2 x0 x1 x6 M Q
  )
theorem T_grph_Order_int_1 {x0 x1 x6 x22 x23 x24 : Value} {M : Store} {Q : Value → Store → Prop} (h : S_grph_Order_int_1 x0 x1 x6 x22 x23 x24 M Q) : P_grph_Order_int_1 x0 x1 x6 x22 x23 x24 M Q := by
  intro f h0 h1 h6 h22 h23 h24; subst h0; subst h1; subst h6; subst h22; subst h23; subst h24
  unfold At
  refine cast (by kernel_rfl) (CW.loop (P := Try.prog) (E := Ex) (rd := none) (x := sub (bodyOf Try.f36) [1, 1, 1, 0, 1, 0, 0]) (a := ⟨⟨94, f⟩, []⟩) (M := M) (K := kcont Try.prog Ex none (bodyOf Try.f36) [1, 1, 1, 0, 1, 0] (kfin Try.prog Try.f36.results.toList Q)) ?_)
  exact rule (B := 1000) (N := 94) (ct := .no)
    [⟨0, fun a M => dfr a.defers (P_grph_Order_int_1 (a.get 0) (a.get 1) (a.get 6) (a.get 22) (a.get 23) (a.get 24) M Q), fun a M => At Try.prog Ex none Try.f36 [1, 1, 1, 0, 1, 0] a M Q⟩,
    ⟨2, fun a M => dfr a.defers (P_grph_Order_int_2 (a.get 0) (a.get 1) (a.get 6) M Q), fun a M => At Try.prog Ex none Try.f36 [1, 1, 1, 1] a M Q⟩]
    [] [0, 2] (by kernel_rfl) (by kernel_rfl) (by kernel_rfl) (by kernel_rfl) (by kernel_rfl)
    ⟨fun a M hn h => by obtain ⟨⟨n, f⟩, ds⟩ := a; have hn : n = 94 := hn; subst hn; obtain ⟨hd, h⟩ := dfr_iff h; have hd : ds = [] := hd; subst hd; exact h f rfl rfl rfl rfl rfl rfl,
    fun a M hn h => by obtain ⟨⟨n, f⟩, ds⟩ := a; have hn : n = 94 := hn; subst hn; obtain ⟨hd, h⟩ := dfr_iff h; have hd : ds = [] := hd; subst hd; exact h f rfl rfl rfl,
    trivial⟩
    (cast (by kernel_rfl) h)
def S_grph_Order_int_2 (x0 x1 x6 : Value) (M : Store) (Q : Value → Store → Prop) : Prop :=
  OP (lenV x0) fun t34 =>
  OP2 (mkS (.slice none 0 0) 1 24 Ty.sl_int t34 t34 M) fun t35 M1 =>
  OP (lenV x0) fun t37 =>
  P_grph_Order_int_3 x0 x1 x6 t35 x0 t37 (.int .i64 0) M1 Q
theorem T_grph_Order_int_2 {x0 x1 x6 : Value} {M : Store} {Q : Value → Store → Prop} (h : S_grph_Order_int_2 x0 x1 x6 M Q) : P_grph_Order_int_2 x0 x1 x6 M Q := by
  intro f h0 h1 h6; subst h0; subst h1; subst h6
  unfold At
  exact rule (B := 1000) (N := 94) (ct := (.two .no (.two (.two .no (.two (.here 1000) .no)) (.here 1001))))
    [⟨1002, fun a M => dfr a.defers (P_grph_Order_int_3 (a.get 0) (a.get 1) (a.get 6) (a.get 9) (a.get 36) (a.get 37) (a.get 38) M Q), fun a M => At Try.prog Ex none Try.f36 [1, 1, 1, 1, 1, 0, 1, 0] a M Q⟩,
    ⟨1003, fun _ _ => False, fun a M => At Try.prog Ex none Try.f36 [1, 1, 1, 1, 1, 1] a M Q⟩]
    [1000, 1001] [] (by kernel_rfl) (by kernel_rfl) (by kernel_rfl) (by kernel_rfl) (by kernel_rfl)
    ⟨fun a M hn h => by obtain ⟨⟨n, f⟩, ds⟩ := a; have hn : n = 94 := hn; subst hn; obtain ⟨hd, h⟩ := dfr_iff h; have hd : ds = [] := hd; subst hd; exact h f rfl rfl rfl rfl rfl rfl rfl,
    fun _ _ _ h => h.elim,
    trivial⟩
    (cast (by kernel_rfl) h)
def S_grph_Order_int_3 (x0 x1 x6 x9 x36 x37 x38 : Value) (M : Store) (Q : Value → Store → Prop) : Prop :=
  OP (binI .lss x38 x37) fun t39 =>
  BR t39 (
  OP (ixA 1 x36 x38) fun t41 =>
  OP (ld 1 false t41 M) fun t42 =>
  KC x1 [t42] M fun t45 M1 =>
  OP (lenV t45) fun t46 =>
  P_grph_Order_int_4 x0 x1 x6 x9 x38 x36 x37 x38 t45 t46 (.int .i64 0) M1 Q
  ) (
  P_grph_Order_int_5 x0 x9 M Q
  )
theorem T_grph_Order_int_3 {x0 x1 x6 x9 x36 x37 x38 : Value} {M : Store} {Q : Value → Store → Prop} (h : S_grph_Order_int_3 x0 x1 x6 x9 x36 x37 x38 M Q) : P_grph_Order_int_3 x0 x1 x6 x9 x36 x37 x38 M Q := by
  intro f h0 h1 h6 h9 h36 h37 h38; subst h0; subst h1; subst h6; subst h9; subst h36; subst h37; subst h38
  unfold At
  refine cast (by kernel_rfl) (CW.loop (P := Try.prog) (E := Ex) (rd := none) (x := sub (bodyOf Try.f36) [1, 1, 1, 1, 1, 0, 1, 0, 0]) (a := ⟨⟨94, f⟩, []⟩) (M := M) (K := kcont Try.prog Ex none (bodyOf Try.f36) [1, 1, 1, 1, 1, 0, 1, 0] (kfin Try.prog Try.f36.results.toList Q)) ?_)
  exact rule (B := 1000) (N := 94) (ct := (.two .no (.two .no (.two (.two (.two .no (.two .no (.two (.here 1000) .no))) .no) (.here 1001)))))
    [⟨1002, fun a M => dfr a.defers (P_grph_Order_int_4 (a.get 0) (a.get 1) (a.get 6) (a.get 9) (a.get 10) (a.get 36) (a.get 37) (a.get 38) (a.get 45) (a.get 46) (a.get 47) M Q), fun a M => At Try.prog Ex none Try.f36 [1, 1, 1, 1, 1, 0, 1, 0, 0, 1, 1, 0, 0, 1, 1, 0] a M Q⟩,
    ⟨1003, fun _ _ => False, fun a M => At Try.prog Ex none Try.f36 [1, 1, 1, 1, 1, 0, 1, 0, 0, 1, 1, 1] a M Q⟩,
    ⟨4, fun a M => dfr a.defers (P_grph_Order_int_5 (a.get 0) (a.get 9) M Q), fun a M => At Try.prog Ex none Try.f36 [1, 1, 1, 1, 1, 1] a M Q⟩]
    [1000, 1001] [4] (by kernel_rfl) (by kernel_rfl) (by kernel_rfl) (by kernel_rfl) (by kernel_rfl)
    ⟨fun a M hn h => by obtain ⟨⟨n, f⟩, ds⟩ := a; have hn : n = 94 := hn; subst hn; obtain ⟨hd, h⟩ := dfr_iff h; have hd : ds = [] := hd; subst hd; exact h f rfl rfl rfl rfl rfl rfl rfl rfl rfl rfl rfl,
    fun _ _ _ h => h.elim,
    fun a M hn h => by obtain ⟨⟨n, f⟩, ds⟩ := a; have hn : n = 94 := hn; subst hn; obtain ⟨hd, h⟩ := dfr_iff h; have hd : ds = [] := hd; subst hd; exact h f rfl rfl,
    trivial⟩
    (cast (by kernel_rfl) h)
def S_grph_Order_int_4 (x0 x1 x6 x9 x10 x36 x37 x38 x45 x46 x47 : Value) (M : Store) (Q : Value → Store → Prop) : Prop :=
  OP (binI .lss x47 x46) fun t48 =>
  BR t48 (
  P_grph_Order_int_6 x0 x1 x6 x9 x10 x36 x37 x38 x45 x46 x47 M Q
  ) (
  P_grph_Order_int_7 x0 x1 x6 x9 x36 x37 x38 M Q
  )
theorem T_grph_Order_int_4 {x0 x1 x6 x9 x10 x36 x37 x38 x45 x46 x47 : Value} {M : Store} {Q : Value → Store → Prop} (h : S_grph_Order_int_4 x0 x1 x6 x9 x10 x36 x37 x38 x45 x46 x47 M Q) : P_grph_Order_int_4 x0 x1 x6 x9 x10 x36 x37 x38 x45 x46 x47 M Q := by
  intro f h0 h1 h6 h9 h10 h36 h37 h38 h45 h46 h47; subst h0; subst h1; subst h6; subst h9; subst h10; subst h36; subst h37; subst h38; subst h45; subst h46; subst h47
  unfold At
  refine cast (by kernel_rfl) (CW.loop (P := Try.prog) (E := Ex) (rd := none) (x := sub (bodyOf Try.f36) [1, 1, 1, 1, 1, 0, 1, 0, 0, 1, 1, 0, 0, 1, 1, 0, 0]) (a := ⟨⟨94, f⟩, []⟩) (M := M) (K := kcont Try.prog Ex none (bodyOf Try.f36) [1, 1, 1, 1, 1, 0, 1, 0, 0, 1, 1, 0, 0, 1, 1, 0] (kfin Try.prog Try.f36.results.toList Q)) ?_)
  exact rule (B := 1000) (N := 94) (ct := (.two .no (.two .no (.here 1000))))
    [⟨1002, fun a M => dfr a.defers (P_grph_Order_int_6 (a.get 0) (a.get 1) (a.get 6) (a.get 9) (a.get 10) (a.get 36) (a.get 37) (a.get 38) (a.get 45) (a.get 46) (a.get 47) M Q), fun a M => At Try.prog Ex none Try.f36 [1, 1, 1, 1, 1, 0, 1, 0, 0, 1, 1, 0, 0, 1, 1, 0, 0, 1, 1] a M Q⟩,
    ⟨6, fun a M => dfr a.defers (P_grph_Order_int_7 (a.get 0) (a.get 1) (a.get 6) (a.get 9) (a.get 36) (a.get 37) (a.get 38) M Q), fun a M => At Try.prog Ex none Try.f36 [1, 1, 1, 1, 1, 0, 1, 0, 0, 1, 1, 1] a M Q⟩]
    [1000] [6] (by kernel_rfl) (by kernel_rfl) (by kernel_rfl) (by kernel_rfl) (by kernel_rfl)
    ⟨fun a M hn h => by obtain ⟨⟨n, f⟩, ds⟩ := a; have hn : n = 94 := hn; subst hn; obtain ⟨hd, h⟩ := dfr_iff h; have hd : ds = [] := hd; subst hd; exact h f rfl rfl rfl rfl rfl rfl rfl rfl rfl rfl rfl,
    fun a M hn h => by obtain ⟨⟨n, f⟩, ds⟩ := a; have hn : n = 94 := hn; subst hn; obtain ⟨hd, h⟩ := dfr_iff h; have hd : ds = [] := hd; subst hd; exact h f rfl rfl rfl rfl rfl rfl rfl,
    trivial⟩
    (cast (by kernel_rfl) h)
def S_grph_Order_int_5 (x0 x9 : Value) (M : Store) (Q : Value → Store → Prop) : Prop :=
  OP (lenV x0) fun t71 =>
  OP2 (mkS (.bool false) 1 1 Ty.bool t71 t71 M) fun t72 M1 =>
  OP (lenV x0) fun t74 =>
  P_grph_Order_int_8 x0 x9 t72 (.slice none 0 0) t74 (.int .i64 0) M1 Q
theorem T_grph_Order_int_5 {x0 x9 : Value} {M : Store} {Q : Value → Store → Prop} (h : S_grph_Order_int_5 x0 x9 M Q) : P_grph_Order_int_5 x0 x9 M Q := by
  intro f h0 h9; subst h0; subst h9
  unfold At
  exact rule (B := 1000) (N := 94) (ct := (.two .no (.two .no (.two (.two .no (.two (.here 1000) .no)) (.here 1001)))))
    [⟨1002, fun a M => dfr a.defers (P_grph_Order_int_8 (a.get 0) (a.get 9) (a.get 16) (a.get 17) (a.get 74) (a.get 75) M Q), fun a M => At Try.prog Ex none Try.f36 [1, 1, 1, 1, 1, 1, 1, 1, 0, 1, 0] a M Q⟩,
    ⟨1003, fun _ _ => False, fun a M => At Try.prog Ex none Try.f36 [1, 1, 1, 1, 1, 1, 1, 1, 1] a M Q⟩]
    [1000, 1001] [] (by kernel_rfl) (by kernel_rfl) (by kernel_rfl) (by kernel_rfl) (by kernel_rfl)
    ⟨fun a M hn h => by obtain ⟨⟨n, f⟩, ds⟩ := a; have hn : n = 94 := hn; subst hn; obtain ⟨hd, h⟩ := dfr_iff h; have hd : ds = [] := hd; subst hd; exact h f rfl rfl rfl rfl rfl rfl,
    fun _ _ _ h => h.elim,
    trivial⟩
    (cast (by kernel_rfl) h)
def S_grph_Order_int_6 (x0 x1 x6 x9 x10 x36 x37 x38 x45 x46 x47 : Value) (M : Store) (Q : Value → Store → Prop) : Prop :=
  OP (ixA 1 x45 x47) fun t49 =>
  OP (ld 1 false t49 M) fun t50 =>
  OP (lku (.int .i64) (.int .i64 0) x6 t50 true M) fun t54 =>
  OP (tup t54 0) fun t55 =>
  OP (tup t54 1) fun t56 =>
  BR t56 (
  OP (ixA 1 x9 x10) fun t62 =>
  OP (ld 1 false t62 M) fun t63 =>
  OP (bldL (.int .i64 0) 1 1 [(0, t55)]) fun c =>
  LT (.slice (some ⟨M.n, 0, none⟩) 1 1) (M.push (some (.inl (c, Ty.int, true)))) fun t65 M1 =>
  OP2 (appV 1 Ty.int t63 t65 M1) fun t66 M2 =>
  OP (ixA 1 x9 x10) fun t67 =>
  OP (st 1 t67 t66 M2) fun M3 =>
  OP (binI .add x47 (.int .i64 1)) fun t68 =>
  P_grph_Order_int_4 x0 x1 x6 x9 x10 x36 x37 x38 x45 x46 t68 M3 Q
  ) (
  OP (binI .add x47 (.int .i64 1)) fun t68_1 =>
  P_grph_Order_int_4 x0 x1 x6 x9 x10 x36 x37 x38 x45 x46 t68_1 M Q
  )
theorem T_grph_Order_int_6 {x0 x1 x6 x9 x10 x36 x37 x38 x45 x46 x47 : Value} {M : Store} {Q : Value → Store → Prop} (h : S_grph_Order_int_6 x0 x1 x6 x9 x10 x36 x37 x38 x45 x46 x47 M Q) : P_grph_Order_int_6 x0 x1 x6 x9 x10 x36 x37 x38 x45 x46 x47 M Q := by
  intro f h0 h1 h6 h9 h10 h36 h37 h38 h45 h46 h47; subst h0; subst h1; subst h6; subst h9; subst h10; subst h36; subst h37; subst h38; subst h45; subst h46; subst h47
  unfold At
  exact rule (B := 1000) (N := 94) (ct := .no)
    [⟨0, fun a M => dfr a.defers (P_grph_Order_int_4 (a.get 0) (a.get 1) (a.get 6) (a.get 9) (a.get 10) (a.get 36) (a.get 37) (a.get 38) (a.get 45) (a.get 46) (a.get 47) M Q), fun a M => At Try.prog Ex none Try.f36 [1, 1, 1, 1, 1, 0, 1, 0, 0, 1, 1, 0, 0, 1, 1, 0] a M Q⟩]
    [] [0] (by kernel_rfl) (by kernel_rfl) (by kernel_rfl) (by kernel_rfl) (by kernel_rfl)
    ⟨fun a M hn h => by obtain ⟨⟨n, f⟩, ds⟩ := a; have hn : n = 94 := hn; subst hn; obtain ⟨hd, h⟩ := dfr_iff h; have hd : ds = [] := hd; subst hd; exact h f rfl rfl rfl rfl rfl rfl rfl rfl rfl rfl rfl,
    trivial⟩
    (cast (by kernel_rfl) h)
def S_grph_Order_int_7 (x0 x1 x6 x9 x36 x37 x38 : Value) (M : Store) (Q : Value → Store → Prop) : Prop :=
  OP (binI .add x38 (.int .i64 1)) fun t69 =>
  P_grph_Order_int_3 x0 x1 x6 x9 x36 x37 t69 M Q
theorem T_grph_Order_int_7 {x0 x1 x6 x9 x36 x37 x38 : Value} {M : Store} {Q : Value → Store → Prop} (h : S_grph_Order_int_7 x0 x1 x6 x9 x36 x37 x38 M Q) : P_grph_Order_int_7 x0 x1 x6 x9 x36 x37 x38 M Q := by
  intro f h0 h1 h6 h9 h36 h37 h38; subst h0; subst h1; subst h6; subst h9; subst h36; subst h37; subst h38
  unfold At
  exact rule (B := 1000) (N := 94) (ct := .no)
    [⟨0, fun a M => dfr a.defers (P_grph_Order_int_3 (a.get 0) (a.get 1) (a.get 6) (a.get 9) (a.get 36) (a.get 37) (a.get 38) M Q), fun a M => At Try.prog Ex none Try.f36 [1, 1, 1, 1, 1, 0, 1, 0] a M Q⟩]
    [] [0] (by kernel_rfl) (by kernel_rfl) (by kernel_rfl) (by kernel_rfl) (by kernel_rfl)
    ⟨fun a M hn h => by obtain ⟨⟨n, f⟩, ds⟩ := a; have hn : n = 94 := hn; subst hn; obtain ⟨hd, h⟩ := dfr_iff h; have hd : ds = [] := hd; subst hd; exact h f rfl rfl rfl rfl rfl rfl rfl,
    trivial⟩
    (cast (by kernel_rfl) h)
def S_grph_Order_int_8 (x0 x9 x16 x17 x74 x75 : Value) (M : Store) (Q : Value → Store → Prop) : Prop :=
  OP (binI .lss x75 x74) fun t76 =>
  BR t76 (
  P_grph_Order_int_9 x0 x9 x16 x17 x74 x75 M Q
  ) (
  P_grph_Order_int_10 x17 M Q
  )
theorem T_grph_Order_int_8 {x0 x9 x16 x17 x74 x75 : Value} {M : Store} {Q : Value → Store → Prop} (h : S_grph_Order_int_8 x0 x9 x16 x17 x74 x75 M Q) : P_grph_Order_int_8 x0 x9 x16 x17 x74 x75 M Q := by
  intro f h0 h9 h16 h17 h74 h75; subst h0; subst h9; subst h16; subst h17; subst h74; subst h75
  unfold At
  refine cast (by kernel_rfl) (CW.loop (P := Try.prog) (E := Ex) (rd := none) (x := sub (bodyOf Try.f36) [1, 1, 1, 1, 1, 1, 1, 1, 0, 1, 0, 0]) (a := ⟨⟨94, f⟩, []⟩) (M := M) (K := kcont Try.prog Ex none (bodyOf Try.f36) [1, 1, 1, 1, 1, 1, 1, 1, 0, 1, 0] (kfin Try.prog Try.f36.results.toList Q)) ?_)
  exact rule (B := 1000) (N := 94) (ct := (.two .no (.two .no (.here 1000))))
    [⟨1002, fun a M => dfr a.defers (P_grph_Order_int_9 (a.get 0) (a.get 9) (a.get 16) (a.get 17) (a.get 74) (a.get 75) M Q), fun a M => At Try.prog Ex none Try.f36 [1, 1, 1, 1, 1, 1, 1, 1, 0, 1, 0, 0, 1, 1] a M Q⟩,
    ⟨8, fun a M => dfr a.defers (P_grph_Order_int_10 (a.get 17) M Q), fun a M => At Try.prog Ex none Try.f36 [1, 1, 1, 1, 1, 1, 1, 1, 1] a M Q⟩]
    [1000] [8] (by kernel_rfl) (by kernel_rfl) (by kernel_rfl) (by kernel_rfl) (by kernel_rfl)
    ⟨fun a M hn h => by obtain ⟨⟨n, f⟩, ds⟩ := a; have hn : n = 94 := hn; subst hn; obtain ⟨hd, h⟩ := dfr_iff h; have hd : ds = [] := hd; subst hd; exact h f rfl rfl rfl rfl rfl rfl,
    fun a M hn h => by obtain ⟨⟨n, f⟩, ds⟩ := a; have hn : n = 94 := hn; subst hn; obtain ⟨hd, h⟩ := dfr_iff h; have hd : ds = [] := hd; subst hd; exact h f rfl,
    trivial⟩
    (cast (by kernel_rfl) h)
def S_grph_Order_int_9 (x0 x9 x16 x17 x74 x75 : Value) (M : Store) (Q : Value → Store → Prop) : Prop :=
  R F.grph_next #[x9, x16] M fun t79 M1 =>
  OP (binI .lss t79 (.int .i64 0)) fun t81 =>
  BR t81 (
  NTs [(.slice none 0 0), (.bool false)] ∧ Q (.tuple #[(.slice none 0 0), (.bool false)]) M1
  ) (
  OP (ixA 1 x16 t79) fun t84 =>
  OP (st 1 t84 (.bool true) M1) fun M2 =>
  OP (ixA 1 x0 t79) fun t88 =>
  OP (ld 1 false t88 M2) fun t89 =>
  OP (bldL (.int .i64 0) 1 1 [(0, t89)]) fun c =>
  LT (.slice (some ⟨M2.n, 0, none⟩) 1 1) (M2.push (some (.inl (c, Ty.int, true)))) fun t90 M3 =>
  OP2 (appV 1 Ty.int x17 t90 M3) fun t91 M4 =>
  OP (binI .add x75 (.int .i64 1)) fun t92 =>
  P_grph_Order_int_8 x0 x9 x16 t91 x74 t92 M4 Q
  )
theorem T_grph_Order_int_9 {x0 x9 x16 x17 x74 x75 : Value} {M : Store} {Q : Value → Store → Prop} (h : S_grph_Order_int_9 x0 x9 x16 x17 x74 x75 M Q) : P_grph_Order_int_9 x0 x9 x16 x17 x74 x75 M Q := by
  intro f h0 h9 h16 h17 h74 h75; subst h0; subst h9; subst h16; subst h17; subst h74; subst h75
  unfold At
  exact rule (B := 1000) (N := 94) (ct := .no)
    [⟨0, fun a M => dfr a.defers (P_grph_Order_int_8 (a.get 0) (a.get 9) (a.get 16) (a.get 17) (a.get 74) (a.get 75) M Q), fun a M => At Try.prog Ex none Try.f36 [1, 1, 1, 1, 1, 1, 1, 1, 0, 1, 0] a M Q⟩,
    ⟨1, fun a M => kfin Try.prog Try.f36.results.toList Q 1 a M, fun a M => kfin Try.prog Try.f36.results.toList Q 1 a M⟩]
    [] [0, 1] (by kernel_rfl) (by kernel_rfl) (by kernel_rfl) (by kernel_rfl) (by kernel_rfl)
    ⟨fun a M hn h => by obtain ⟨⟨n, f⟩, ds⟩ := a; have hn : n = 94 := hn; subst hn; obtain ⟨hd, h⟩ := dfr_iff h; have hd : ds = [] := hd; subst hd; exact h f rfl rfl rfl rfl rfl rfl,
    fun _ _ _ h => h,
    trivial⟩
    (cast (by kernel_rfl) h)
def S_grph_Order_int_10 (x17 : Value) (M : Store) (Q : Value → Store → Prop) : Prop :=
  NTs [x17, (.bool true)] ∧ Q (.tuple #[x17, (.bool true)]) M
theorem T_grph_Order_int_10 {x17 : Value} {M : Store} {Q : Value → Store → Prop} (h : S_grph_Order_int_10 x17 M Q) : P_grph_Order_int_10 x17 M Q := by
  intro f h17; subst h17
  unfold At
  exact rule (B := 1000) (N := 94) (ct := .no)
    [⟨1, fun a M => kfin Try.prog Try.f36.results.toList Q 1 a M, fun a M => kfin Try.prog Try.f36.results.toList Q 1 a M⟩]
    [] [1] (by kernel_rfl) (by kernel_rfl) (by kernel_rfl) (by kernel_rfl) (by kernel_rfl)
    ⟨fun _ _ _ h => h,
    trivial⟩
    (cast (by kernel_rfl) h)
def S_fettlelaw8_GrphKinds_c2 (x0 : Value) (M : Store) (Q : Value → Store → Prop) : Prop :=
  OP (bldL (.int .i64 0) 1 1 [(0, x0)]) fun c =>
  LT (.slice (some ⟨M.n, 0, none⟩) 1 1) (M.push (some (.inl (c, Ty.int, true)))) fun t4 M1 =>
  NTs [t4] ∧ Q t4 M1
theorem T_fettlelaw8_GrphKinds_c2 {x0 : Value} {M : Store} {Q : Value → Store → Prop} (h : S_fettlelaw8_GrphKinds_c2 x0 M Q) : R F.fettlelaw8_GrphKinds_c2 #[x0] M Q := by
  refine runs_of (c := bodyOf Try.f37) Try.func37 rfl (by kernel_rfl) (by kernel_rfl) ?_
  unfold At
  exact rule (B := 1000) (N := 5) (ct := .no)
    [⟨1, fun a M => kfin Try.prog Try.f37.results.toList Q 1 a M, fun a M => kfin Try.prog Try.f37.results.toList Q 1 a M⟩]
    [] [1] (by kernel_rfl) (by kernel_rfl) (by kernel_rfl) (by kernel_rfl) (by kernel_rfl)
    ⟨fun _ _ _ h => h,
    trivial⟩
    (cast (by kernel_rfl) h)
def S_grph_Reach_int (x0 x1 : Value) (M : Store) (Q : Value → Store → Prop) : Prop :=
  OP (boxv x0) fun c =>
  LT (.pointer (some ⟨M.n, 0, none⟩)) (M.push (some (.inl (c, Ty.sl_int, true)))) fun t2 M1 =>
  OP (boxv x1) fun c_1 =>
  LT (.pointer (some ⟨M1.n, 0, none⟩)) (M1.push (some (.inl (c_1, Ty.func_int_sl_int, true)))) fun t3 M2 =>
  OP (ld 1 false t2 M2) fun t5 =>
  R F.slices_Clone_sl_int_int #[t5] M2 fun t6 M3 =>
  OP (st 1 t2 t6 M3) fun M4 =>
  OP (mkF (.func F.grph_Reach_int_c1) [] [t2, t3]) fun t7 =>
  NTs [t7] ∧ Q t7 M4
theorem T_grph_Reach_int {x0 x1 : Value} {M : Store} {Q : Value → Store → Prop} (h : S_grph_Reach_int x0 x1 M Q) : R F.grph_Reach_int #[x0, x1] M Q := by
  refine runs_of (c := bodyOf Try.f38) Try.func38 rfl (by kernel_rfl) (by kernel_rfl) ?_
  unfold At
  exact rule (B := 1000) (N := 8) (ct := .no)
    [⟨1, fun a M => kfin Try.prog Try.f38.results.toList Q 1 a M, fun a M => kfin Try.prog Try.f38.results.toList Q 1 a M⟩]
    [] [1] (by kernel_rfl) (by kernel_rfl) (by kernel_rfl) (by kernel_rfl) (by kernel_rfl)
    ⟨fun _ _ _ h => h,
    trivial⟩
    (cast (by kernel_rfl) h)
def S_fettlelaw8_GrphKinds_c3 (x0 : Value) (M : Store) (Q : Value → Store → Prop) : Prop :=
  OP (binI .add x0 (.int .i64 1)) fun t4 =>
  OP (bldL (.int .i64 0) 1 1 [(0, t4)]) fun c =>
  LT (.slice (some ⟨M.n, 0, none⟩) 1 1) (M.push (some (.inl (c, Ty.int, true)))) fun t5 M1 =>
  NTs [t5] ∧ Q t5 M1
theorem T_fettlelaw8_GrphKinds_c3 {x0 : Value} {M : Store} {Q : Value → Store → Prop} (h : S_fettlelaw8_GrphKinds_c3 x0 M Q) : R F.fettlelaw8_GrphKinds_c3 #[x0] M Q := by
  refine runs_of (c := bodyOf Try.f39) Try.func39 rfl (by kernel_rfl) (by kernel_rfl) ?_
  unfold At
  exact rule (B := 1000) (N := 6) (ct := .no)
    [⟨1, fun a M => kfin Try.prog Try.f39.results.toList Q 1 a M, fun a M => kfin Try.prog Try.f39.results.toList Q 1 a M⟩]
    [] [1] (by kernel_rfl) (by kernel_rfl) (by kernel_rfl) (by kernel_rfl) (by kernel_rfl)
    ⟨fun _ _ _ h => h,
    trivial⟩
    (cast (by kernel_rfl) h)
def P_fettleref1_SameTexts_1 (x0 x1 x5 : Value) (M : Store) (Q : Value → Store → Prop) : Prop :=
  ∀ f : Nat → Value, f 0 = x0 → f 1 = x1 → f 5 = x5 → At Try.prog Ex none Try.f40 [1, 1, 0, 1, 0] ⟨⟨26, f⟩, []⟩ M Q
def P_fettleref1_SameTexts_2 (x0 x1 x5 : Value) (M : Store) (Q : Value → Store → Prop) : Prop :=
  ∀ f : Nat → Value, f 0 = x0 → f 1 = x1 → f 5 = x5 → At Try.prog Ex none Try.f40 [1, 1, 0, 1, 0, 0, 1] ⟨⟨26, f⟩, []⟩ M Q
def P_fettleref1_SameTexts_3 (M : Store) (Q : Value → Store → Prop) : Prop :=
  ∀ f : Nat → Value, At Try.prog Ex none Try.f40 [1, 1, 1] ⟨⟨26, f⟩, []⟩ M Q
def S_fettleref1_SameTexts (x0 x1 : Value) (M : Store) (Q : Value → Store → Prop) : Prop :=
  OP (lenV x0) fun t7 =>
  OP (lenV x1) fun t9 =>
  OP (binI .neq t7 t9) fun t10 =>
  BR t10 (
  NTs [(.bool false)] ∧ Q (.bool false) M
  ) (
  P_fettleref1_SameTexts_1 x0 x1 (.int .i64 0) M Q
  )
theorem T_fettleref1_SameTexts {x0 x1 : Value} {M : Store} {Q : Value → Store → Prop} (h : S_fettleref1_SameTexts x0 x1 M Q) : R F.fettleref1_SameTexts #[x0, x1] M Q := by
  refine runs_of (c := bodyOf Try.f40) Try.func40 rfl (by kernel_rfl) (by kernel_rfl) ?_
  unfold At
  exact rule (B := 1000) (N := 26) (ct := (.two .no (.two .no (.two (.two .no (.two (.here 1000) .no)) (.here 1001)))))
    [⟨1002, fun a M => dfr a.defers (P_fettleref1_SameTexts_1 (a.get 0) (a.get 1) (a.get 5) M Q), fun a M => At Try.prog Ex none Try.f40 [1, 1, 0, 1, 0] a M Q⟩,
    ⟨1003, fun _ _ => False, fun a M => At Try.prog Ex none Try.f40 [1, 1, 1] a M Q⟩,
    ⟨1, fun a M => kfin Try.prog Try.f40.results.toList Q 1 a M, fun a M => kfin Try.prog Try.f40.results.toList Q 1 a M⟩]
    [1000, 1001] [1] (by kernel_rfl) (by kernel_rfl) (by kernel_rfl) (by kernel_rfl) (by kernel_rfl)
    ⟨fun a M hn h => by obtain ⟨⟨n, f⟩, ds⟩ := a; have hn : n = 26 := hn; subst hn; obtain ⟨hd, h⟩ := dfr_iff h; have hd : ds = [] := hd; subst hd; exact h f rfl rfl rfl,
    fun _ _ _ h => h.elim,
    fun _ _ _ h => h,
    trivial⟩
    (cast (by kernel_rfl) h)
def S_fettleref1_SameTexts_1 (x0 x1 x5 : Value) (M : Store) (Q : Value → Store → Prop) : Prop :=
  OP (lenV x0) fun t13 =>
  OP (binI .lss x5 t13) fun t14 =>
  BR t14 (
  P_fettleref1_SameTexts_2 x0 x1 x5 M Q
  ) (
  P_fettleref1_SameTexts_3 M Q
  )
theorem T_fettleref1_SameTexts_1 {x0 x1 x5 : Value} {M : Store} {Q : Value → Store → Prop} (h : S_fettleref1_SameTexts_1 x0 x1 x5 M Q) : P_fettleref1_SameTexts_1 x0 x1 x5 M Q := by
  intro f h0 h1 h5; subst h0; subst h1; subst h5
  unfold At
  refine cast (by kernel_rfl) (CW.loop (P := Try.prog) (E := Ex) (rd := none) (x := sub (bodyOf Try.f40) [1, 1, 0, 1, 0, 0]) (a := ⟨⟨26, f⟩, []⟩) (M := M) (K := kcont Try.prog Ex none (bodyOf Try.f40) [1, 1, 0, 1, 0] (kfin Try.prog Try.f40.results.toList Q)) ?_)
  exact rule (B := 1000) (N := 26) (ct := (.two .no (.here 1000)))
    [⟨1002, fun a M => dfr a.defers (P_fettleref1_SameTexts_2 (a.get 0) (a.get 1) (a.get 5) M Q), fun a M => At Try.prog Ex none Try.f40 [1, 1, 0, 1, 0, 0, 1] a M Q⟩,
    ⟨2, fun a M => dfr a.defers (P_fettleref1_SameTexts_3 M Q), fun a M => At Try.prog Ex none Try.f40 [1, 1, 1] a M Q⟩]
    [1000] [2] (by kernel_rfl) (by kernel_rfl) (by kernel_rfl) (by kernel_rfl) (by kernel_rfl)
    ⟨fun a M hn h => by obtain ⟨⟨n, f⟩, ds⟩ := a; have hn : n = 26 := hn; subst hn; obtain ⟨hd, h⟩ := dfr_iff h; have hd : ds = [] := hd; subst hd; exact h f rfl rfl rfl,
    fun a M hn h => by obtain ⟨⟨n, f⟩, ds⟩ := a; have hn : n = 26 := hn; subst hn; obtain ⟨hd, h⟩ := dfr_iff h; have hd : ds = [] := hd; subst hd; exact h f,
    trivial⟩
    (cast (by kernel_rfl) h)
def S_fettleref1_SameTexts_2 (x0 x1 x5 : Value) (M : Store) (Q : Value → Store → Prop) : Prop :=
  OP (ixA 1 x0 x5) fun t19 =>
  OP (ld 1 false t19 M) fun t20 =>
  OP (ixA 1 x1 x5) fun t23 =>
  OP (ld 1 false t23 M) fun t24 =>
  OP (binS .neq t20 t24) fun t25 =>
  BR t25 (
  NTs [(.bool false)] ∧ Q (.bool false) M
  ) (
  OP (binI .add x5 (.int .i64 1)) fun t16 =>
  P_fettleref1_SameTexts_1 x0 x1 t16 M Q
  )
theorem T_fettleref1_SameTexts_2 {x0 x1 x5 : Value} {M : Store} {Q : Value → Store → Prop} (h : S_fettleref1_SameTexts_2 x0 x1 x5 M Q) : P_fettleref1_SameTexts_2 x0 x1 x5 M Q := by
  intro f h0 h1 h5; subst h0; subst h1; subst h5
  unfold At
  exact rule (B := 1000) (N := 26) (ct := .no)
    [⟨0, fun a M => dfr a.defers (P_fettleref1_SameTexts_1 (a.get 0) (a.get 1) (a.get 5) M Q), fun a M => At Try.prog Ex none Try.f40 [1, 1, 0, 1, 0] a M Q⟩,
    ⟨1, fun a M => kfin Try.prog Try.f40.results.toList Q 1 a M, fun a M => kfin Try.prog Try.f40.results.toList Q 1 a M⟩]
    [] [0, 1] (by kernel_rfl) (by kernel_rfl) (by kernel_rfl) (by kernel_rfl) (by kernel_rfl)
    ⟨fun a M hn h => by obtain ⟨⟨n, f⟩, ds⟩ := a; have hn : n = 26 := hn; subst hn; obtain ⟨hd, h⟩ := dfr_iff h; have hd : ds = [] := hd; subst hd; exact h f rfl rfl rfl,
    fun _ _ _ h => h,
    trivial⟩
    (cast (by kernel_rfl) h)
def S_fettleref1_SameTexts_3 (M : Store) (Q : Value → Store → Prop) : Prop :=
  NTs [(.bool true)] ∧ Q (.bool true) M
theorem T_fettleref1_SameTexts_3 {M : Store} {Q : Value → Store → Prop} (h : S_fettleref1_SameTexts_3 M Q) : P_fettleref1_SameTexts_3 M Q := by
  intro f 
  unfold At
  exact rule (B := 1000) (N := 26) (ct := .no)
    [⟨1, fun a M => kfin Try.prog Try.f40.results.toList Q 1 a M, fun a M => kfin Try.prog Try.f40.results.toList Q 1 a M⟩]
    [] [1] (by kernel_rfl) (by kernel_rfl) (by kernel_rfl) (by kernel_rfl) (by kernel_rfl)
    ⟨fun _ _ _ h => h,
    trivial⟩
    (cast (by kernel_rfl) h)
def P_fettlelaw8_edges_1 (x0 x1 x4 x5 x6 : Value) (M : Store) (Q : Value → Store → Prop) : Prop :=
  ∀ f : Nat → Value, f 0 = x0 → f 1 = x1 → f 4 = x4 → f 5 = x5 → f 6 = x6 → At Try.prog Ex none Try.f46 [1, 1, 0, 1, 0] ⟨⟨46, f⟩, []⟩ M Q
def P_fettlelaw8_edges_2 (x0 x1 x4 x5 x6 : Value) (M : Store) (Q : Value → Store → Prop) : Prop :=
  ∀ f : Nat → Value, f 0 = x0 → f 1 = x1 → f 4 = x4 → f 5 = x5 → f 6 = x6 → At Try.prog Ex none Try.f46 [1, 1, 0, 1, 0, 0, 1] ⟨⟨46, f⟩, []⟩ M Q
def P_fettlelaw8_edges_3 (x4 x5 : Value) (M : Store) (Q : Value → Store → Prop) : Prop :=
  ∀ f : Nat → Value, f 4 = x4 → f 5 = x5 → At Try.prog Ex none Try.f46 [1, 1, 1] ⟨⟨46, f⟩, []⟩ M Q
def S_fettlelaw8_edges (x0 x1 : Value) (M : Store) (Q : Value → Store → Prop) : Prop :=
  LT (.pointer (some ⟨M.n, 0, none⟩)) (M.push (some (.inl ([(.slice none 0 0), (.slice none 0 0), (.slice none 0 0), (.slice none 0 0), (.slice none 0 0), (.slice none 0 0), (.slice none 0 0), (.slice none 0 0), (.slice none 0 0), (.slice none 0 0), (.slice none 0 0), (.slice none 0 0), (.slice none 0 0), (.slice none 0 0), (.slice none 0 0), (.slice none 0 0)], Ty.a16_sl_int, true)))) fun t4 M1 =>
  LT (.pointer (some ⟨M1.n, 0, none⟩)) (M1.push (some (.inl ([(.slice none 0 0), (.slice none 0 0), (.slice none 0 0), (.slice none 0 0), (.slice none 0 0), (.slice none 0 0), (.slice none 0 0), (.slice none 0 0), (.slice none 0 0), (.slice none 0 0), (.slice none 0 0), (.slice none 0 0), (.slice none 0 0), (.slice none 0 0), (.slice none 0 0), (.slice none 0 0)], Ty.a16_sl_int, true)))) fun t5 M2 =>
  P_fettlelaw8_edges_1 x0 x1 t4 t5 (.int .i64 0) M2 Q
theorem T_fettlelaw8_edges {x0 x1 : Value} {M : Store} {Q : Value → Store → Prop} (h : S_fettlelaw8_edges x0 x1 M Q) : R F.fettlelaw8_edges #[x0, x1] M Q := by
  refine runs_of (c := bodyOf Try.f46) Try.func46 rfl (by kernel_rfl) (by kernel_rfl) ?_
  unfold At
  exact rule (B := 1000) (N := 46) (ct := (.two .no (.two .no (.two (.two .no (.two (.here 1000) .no)) (.here 1001)))))
    [⟨1002, fun a M => dfr a.defers (P_fettlelaw8_edges_1 (a.get 0) (a.get 1) (a.get 4) (a.get 5) (a.get 6) M Q), fun a M => At Try.prog Ex none Try.f46 [1, 1, 0, 1, 0] a M Q⟩,
    ⟨1003, fun _ _ => False, fun a M => At Try.prog Ex none Try.f46 [1, 1, 1] a M Q⟩]
    [1000, 1001] [] (by kernel_rfl) (by kernel_rfl) (by kernel_rfl) (by kernel_rfl) (by kernel_rfl)
    ⟨fun a M hn h => by obtain ⟨⟨n, f⟩, ds⟩ := a; have hn : n = 46 := hn; subst hn; obtain ⟨hd, h⟩ := dfr_iff h; have hd : ds = [] := hd; subst hd; exact h f rfl rfl rfl rfl rfl,
    fun _ _ _ h => h.elim,
    trivial⟩
    (cast (by kernel_rfl) h)
def S_fettlelaw8_edges_1 (x0 x1 x4 x5 x6 : Value) (M : Store) (Q : Value → Store → Prop) : Prop :=
  OP (lenV x0) fun t11 =>
  OP (binI .lss x6 t11) fun t12 =>
  BR t12 (
  OP (binI .lss x6 (.int .i64 40)) fun t15 =>
  BR t15 (
  P_fettlelaw8_edges_2 x0 x1 x4 x5 x6 M Q
  ) (
  P_fettlelaw8_edges_3 x4 x5 M Q
  )
  ) (
  P_fettlelaw8_edges_3 x4 x5 M Q
  )
theorem T_fettlelaw8_edges_1 {x0 x1 x4 x5 x6 : Value} {M : Store} {Q : Value → Store → Prop} (h : S_fettlelaw8_edges_1 x0 x1 x4 x5 x6 M Q) : P_fettlelaw8_edges_1 x0 x1 x4 x5 x6 M Q := by
  intro f h0 h1 h4 h5 h6; subst h0; subst h1; subst h4; subst h5; subst h6
  unfold At
  refine cast (by kernel_rfl) (CW.loop (P := Try.prog) (E := Ex) (rd := none) (x := sub (bodyOf Try.f46) [1, 1, 0, 1, 0, 0]) (a := ⟨⟨46, f⟩, []⟩) (M := M) (K := kcont Try.prog Ex none (bodyOf Try.f46) [1, 1, 0, 1, 0] (kfin Try.prog Try.f46.results.toList Q)) ?_)
  exact rule (B := 1000) (N := 46) (ct := (.two .no (.here 1000)))
    [⟨1002, fun a M => dfr a.defers (P_fettlelaw8_edges_2 (a.get 0) (a.get 1) (a.get 4) (a.get 5) (a.get 6) M Q), fun a M => At Try.prog Ex none Try.f46 [1, 1, 0, 1, 0, 0, 1] a M Q⟩,
    ⟨2, fun a M => dfr a.defers (P_fettlelaw8_edges_3 (a.get 4) (a.get 5) M Q), fun a M => At Try.prog Ex none Try.f46 [1, 1, 1] a M Q⟩]
    [1000] [2] (by kernel_rfl) (by kernel_rfl) (by kernel_rfl) (by kernel_rfl) (by kernel_rfl)
    ⟨fun a M hn h => by obtain ⟨⟨n, f⟩, ds⟩ := a; have hn : n = 46 := hn; subst hn; obtain ⟨hd, h⟩ := dfr_iff h; have hd : ds = [] := hd; subst hd; exact h f rfl rfl rfl rfl rfl,
    fun a M hn h => by obtain ⟨⟨n, f⟩, ds⟩ := a; have hn : n = 46 := hn; subst hn; obtain ⟨hd, h⟩ := dfr_iff h; have hd : ds = [] := hd; subst hd; exact h f rfl rfl,
    trivial⟩
    (cast (by kernel_rfl) h)
def S_fettlelaw8_edges_2 (x0 x1 x4 x5 x6 : Value) (M : Store) (Q : Value → Store → Prop) : Prop :=
  OP (ixA 1 x0 x6) fun t21 =>
  OP (ld 1 false t21 M) fun t22 =>
  OP (binI .and t22 (.int .i64 15)) fun t23 =>
  OP (ixA 1 x0 x6) fun t26 =>
  OP (ld 1 false t26 M) fun t27 =>
  OP (binI .shr t27 (.int .u64 4)) fun t28 =>
  OP (binI .and t28 (.int .i64 15)) fun t29 =>
  OP (aun .not x1) fun t31 =>
  BR t31 (
  OP (binI .leq t23 t29) fun t35 =>
  BR t35 (
  OP (binI .add x6 (.int .i64 1)) fun t18 =>
  P_fettlelaw8_edges_1 x0 x1 x4 x5 t18 M Q
  ) (
  OP (ixP 1 16 x5 t23) fun t39 =>
  OP (ld 1 false t39 M) fun t40 =>
  OP (bldL (.int .i64 0) 1 1 [(0, t29)]) fun c =>
  LT (.slice (some ⟨M.n, 0, none⟩) 1 1) (M.push (some (.inl (c, Ty.int, true)))) fun t42 M1 =>
  OP2 (appV 1 Ty.int t40 t42 M1) fun t43 M2 =>
  OP (ixP 1 16 x5 t23) fun t44 =>
  OP (st 1 t44 t43 M2) fun M3 =>
  OP (binI .add x6 (.int .i64 1)) fun t18_1 =>
  P_fettlelaw8_edges_1 x0 x1 x4 x5 t18_1 M3 Q
  )
  ) (
  OP (ixP 1 16 x5 t23) fun t39_1 =>
  OP (ld 1 false t39_1 M) fun t40_1 =>
  OP (bldL (.int .i64 0) 1 1 [(0, t29)]) fun c_1 =>
  LT (.slice (some ⟨M.n, 0, none⟩) 1 1) (M.push (some (.inl (c_1, Ty.int, true)))) fun t42_1 M4 =>
  OP2 (appV 1 Ty.int t40_1 t42_1 M4) fun t43_1 M5 =>
  OP (ixP 1 16 x5 t23) fun t44_1 =>
  OP (st 1 t44_1 t43_1 M5) fun M6 =>
  OP (binI .add x6 (.int .i64 1)) fun t18_2 =>
  P_fettlelaw8_edges_1 x0 x1 x4 x5 t18_2 M6 Q
  )
theorem T_fettlelaw8_edges_2 {x0 x1 x4 x5 x6 : Value} {M : Store} {Q : Value → Store → Prop} (h : S_fettlelaw8_edges_2 x0 x1 x4 x5 x6 M Q) : P_fettlelaw8_edges_2 x0 x1 x4 x5 x6 M Q := by
  intro f h0 h1 h4 h5 h6; subst h0; subst h1; subst h4; subst h5; subst h6
  unfold At
  exact rule (B := 1000) (N := 46) (ct := .no)
    [⟨0, fun a M => dfr a.defers (P_fettlelaw8_edges_1 (a.get 0) (a.get 1) (a.get 4) (a.get 5) (a.get 6) M Q), fun a M => At Try.prog Ex none Try.f46 [1, 1, 0, 1, 0] a M Q⟩]
    [] [0] (by kernel_rfl) (by kernel_rfl) (by kernel_rfl) (by kernel_rfl) (by kernel_rfl)
    ⟨fun a M hn h => by obtain ⟨⟨n, f⟩, ds⟩ := a; have hn : n = 46 := hn; subst hn; obtain ⟨hd, h⟩ := dfr_iff h; have hd : ds = [] := hd; subst hd; exact h f rfl rfl rfl rfl rfl,
    trivial⟩
    (cast (by kernel_rfl) h)
def S_fettlelaw8_edges_3 (x4 x5 : Value) (M : Store) (Q : Value → Store → Prop) : Prop :=
  OP (ld 16 true x5 M) fun t45 =>
  OP (st 16 x4 t45 M) fun M1 =>
  OP (ld 16 true x4 M1) fun r4 =>
  NTs [r4] ∧ Q r4 M1
theorem T_fettlelaw8_edges_3 {x4 x5 : Value} {M : Store} {Q : Value → Store → Prop} (h : S_fettlelaw8_edges_3 x4 x5 M Q) : P_fettlelaw8_edges_3 x4 x5 M Q := by
  intro f h4 h5; subst h4; subst h5
  unfold At
  exact rule (B := 1000) (N := 46) (ct := .no)
    [⟨1, fun a M => kfin Try.prog Try.f46.results.toList Q 1 a M, fun a M => kfin Try.prog Try.f46.results.toList Q 1 a M⟩]
    [] [1] (by kernel_rfl) (by kernel_rfl) (by kernel_rfl) (by kernel_rfl) (by kernel_rfl)
    ⟨fun _ _ _ h => h,
    trivial⟩
    (cast (by kernel_rfl) h)
def S_fettlelaw8_GrphStable_c1 (x0 x1 : Value) (M : Store) (Q : Value → Store → Prop) : Prop :=
  OP (binI .and x0 (.int .i64 15)) fun t5 =>
  OP (ixP 1 16 x1 t5) fun t6 =>
  OP (ld 1 false t6 M) fun t7 =>
  NTs [t7] ∧ Q t7 M
theorem T_fettlelaw8_GrphStable_c1 {x0 x1 : Value} {M : Store} {Q : Value → Store → Prop} (h : S_fettlelaw8_GrphStable_c1 x0 x1 M Q) : R F.fettlelaw8_GrphStable_c1 #[x0, x1] M Q := by
  refine runs_of (c := bodyOf Try.f47) Try.func47 rfl (by kernel_rfl) (by kernel_rfl) ?_
  unfold At
  exact rule (B := 1000) (N := 8) (ct := .no)
    [⟨1, fun a M => kfin Try.prog Try.f47.results.toList Q 1 a M, fun a M => kfin Try.prog Try.f47.results.toList Q 1 a M⟩]
    [] [1] (by kernel_rfl) (by kernel_rfl) (by kernel_rfl) (by kernel_rfl) (by kernel_rfl)
    ⟨fun _ _ _ h => h,
    trivial⟩
    (cast (by kernel_rfl) h)
def P_fettleref1_SameInts_1 (x0 x1 x5 : Value) (M : Store) (Q : Value → Store → Prop) : Prop :=
  ∀ f : Nat → Value, f 0 = x0 → f 1 = x1 → f 5 = x5 → At Try.prog Ex none Try.f48 [1, 1, 0, 1, 0] ⟨⟨26, f⟩, []⟩ M Q
def P_fettleref1_SameInts_2 (x0 x1 x5 : Value) (M : Store) (Q : Value → Store → Prop) : Prop :=
  ∀ f : Nat → Value, f 0 = x0 → f 1 = x1 → f 5 = x5 → At Try.prog Ex none Try.f48 [1, 1, 0, 1, 0, 0, 1] ⟨⟨26, f⟩, []⟩ M Q
def P_fettleref1_SameInts_3 (M : Store) (Q : Value → Store → Prop) : Prop :=
  ∀ f : Nat → Value, At Try.prog Ex none Try.f48 [1, 1, 1] ⟨⟨26, f⟩, []⟩ M Q
def S_fettleref1_SameInts (x0 x1 : Value) (M : Store) (Q : Value → Store → Prop) : Prop :=
  OP (lenV x0) fun t7 =>
  OP (lenV x1) fun t9 =>
  OP (binI .neq t7 t9) fun t10 =>
  BR t10 (
  NTs [(.bool false)] ∧ Q (.bool false) M
  ) (
  P_fettleref1_SameInts_1 x0 x1 (.int .i64 0) M Q
  )
theorem T_fettleref1_SameInts {x0 x1 : Value} {M : Store} {Q : Value → Store → Prop} (h : S_fettleref1_SameInts x0 x1 M Q) : R F.fettleref1_SameInts #[x0, x1] M Q := by
  refine runs_of (c := bodyOf Try.f48) Try.func48 rfl (by kernel_rfl) (by kernel_rfl) ?_
  unfold At
  exact rule (B := 1000) (N := 26) (ct := (.two .no (.two .no (.two (.two .no (.two (.here 1000) .no)) (.here 1001)))))
    [⟨1002, fun a M => dfr a.defers (P_fettleref1_SameInts_1 (a.get 0) (a.get 1) (a.get 5) M Q), fun a M => At Try.prog Ex none Try.f48 [1, 1, 0, 1, 0] a M Q⟩,
    ⟨1003, fun _ _ => False, fun a M => At Try.prog Ex none Try.f48 [1, 1, 1] a M Q⟩,
    ⟨1, fun a M => kfin Try.prog Try.f48.results.toList Q 1 a M, fun a M => kfin Try.prog Try.f48.results.toList Q 1 a M⟩]
    [1000, 1001] [1] (by kernel_rfl) (by kernel_rfl) (by kernel_rfl) (by kernel_rfl) (by kernel_rfl)
    ⟨fun a M hn h => by obtain ⟨⟨n, f⟩, ds⟩ := a; have hn : n = 26 := hn; subst hn; obtain ⟨hd, h⟩ := dfr_iff h; have hd : ds = [] := hd; subst hd; exact h f rfl rfl rfl,
    fun _ _ _ h => h.elim,
    fun _ _ _ h => h,
    trivial⟩
    (cast (by kernel_rfl) h)
def S_fettleref1_SameInts_1 (x0 x1 x5 : Value) (M : Store) (Q : Value → Store → Prop) : Prop :=
  OP (lenV x0) fun t13 =>
  OP (binI .lss x5 t13) fun t14 =>
  BR t14 (
  P_fettleref1_SameInts_2 x0 x1 x5 M Q
  ) (
  P_fettleref1_SameInts_3 M Q
  )
theorem T_fettleref1_SameInts_1 {x0 x1 x5 : Value} {M : Store} {Q : Value → Store → Prop} (h : S_fettleref1_SameInts_1 x0 x1 x5 M Q) : P_fettleref1_SameInts_1 x0 x1 x5 M Q := by
  intro f h0 h1 h5; subst h0; subst h1; subst h5
  unfold At
  refine cast (by kernel_rfl) (CW.loop (P := Try.prog) (E := Ex) (rd := none) (x := sub (bodyOf Try.f48) [1, 1, 0, 1, 0, 0]) (a := ⟨⟨26, f⟩, []⟩) (M := M) (K := kcont Try.prog Ex none (bodyOf Try.f48) [1, 1, 0, 1, 0] (kfin Try.prog Try.f48.results.toList Q)) ?_)
  exact rule (B := 1000) (N := 26) (ct := (.two .no (.here 1000)))
    [⟨1002, fun a M => dfr a.defers (P_fettleref1_SameInts_2 (a.get 0) (a.get 1) (a.get 5) M Q), fun a M => At Try.prog Ex none Try.f48 [1, 1, 0, 1, 0, 0, 1] a M Q⟩,
    ⟨2, fun a M => dfr a.defers (P_fettleref1_SameInts_3 M Q), fun a M => At Try.prog Ex none Try.f48 [1, 1, 1] a M Q⟩]
    [1000] [2] (by kernel_rfl) (by kernel_rfl) (by kernel_rfl) (by kernel_rfl) (by kernel_rfl)
    ⟨fun a M hn h => by obtain ⟨⟨n, f⟩, ds⟩ := a; have hn : n = 26 := hn; subst hn; obtain ⟨hd, h⟩ := dfr_iff h; have hd : ds = [] := hd; subst hd; exact h f rfl rfl rfl,
    fun a M hn h => by obtain ⟨⟨n, f⟩, ds⟩ := a; have hn : n = 26 := hn; subst hn; obtain ⟨hd, h⟩ := dfr_iff h; have hd : ds = [] := hd; subst hd; exact h f,
    trivial⟩
    (cast (by kernel_rfl) h)
def S_fettleref1_SameInts_2 (x0 x1 x5 : Value) (M : Store) (Q : Value → Store → Prop) : Prop :=
  OP (ixA 1 x0 x5) fun t19 =>
  OP (ld 1 false t19 M) fun t20 =>
  OP (ixA 1 x1 x5) fun t23 =>
  OP (ld 1 false t23 M) fun t24 =>
  OP (binI .neq t20 t24) fun t25 =>
  BR t25 (
  NTs [(.bool false)] ∧ Q (.bool false) M
  ) (
  OP (binI .add x5 (.int .i64 1)) fun t16 =>
  P_fettleref1_SameInts_1 x0 x1 t16 M Q
  )
theorem T_fettleref1_SameInts_2 {x0 x1 x5 : Value} {M : Store} {Q : Value → Store → Prop} (h : S_fettleref1_SameInts_2 x0 x1 x5 M Q) : P_fettleref1_SameInts_2 x0 x1 x5 M Q := by
  intro f h0 h1 h5; subst h0; subst h1; subst h5
  unfold At
  exact rule (B := 1000) (N := 26) (ct := .no)
    [⟨0, fun a M => dfr a.defers (P_fettleref1_SameInts_1 (a.get 0) (a.get 1) (a.get 5) M Q), fun a M => At Try.prog Ex none Try.f48 [1, 1, 0, 1, 0] a M Q⟩,
    ⟨1, fun a M => kfin Try.prog Try.f48.results.toList Q 1 a M, fun a M => kfin Try.prog Try.f48.results.toList Q 1 a M⟩]
    [] [0, 1] (by kernel_rfl) (by kernel_rfl) (by kernel_rfl) (by kernel_rfl) (by kernel_rfl)
    ⟨fun a M hn h => by obtain ⟨⟨n, f⟩, ds⟩ := a; have hn : n = 26 := hn; subst hn; obtain ⟨hd, h⟩ := dfr_iff h; have hd : ds = [] := hd; subst hd; exact h f rfl rfl rfl,
    fun _ _ _ h => h,
    trivial⟩
    (cast (by kernel_rfl) h)
def S_fettleref1_SameInts_3 (M : Store) (Q : Value → Store → Prop) : Prop :=
  NTs [(.bool true)] ∧ Q (.bool true) M
theorem T_fettleref1_SameInts_3 {M : Store} {Q : Value → Store → Prop} (h : S_fettleref1_SameInts_3 M Q) : P_fettleref1_SameInts_3 M Q := by
  intro f 
  unfold At
  exact rule (B := 1000) (N := 26) (ct := .no)
    [⟨1, fun a M => kfin Try.prog Try.f48.results.toList Q 1 a M, fun a M => kfin Try.prog Try.f48.results.toList Q 1 a M⟩]
    [] [1] (by kernel_rfl) (by kernel_rfl) (by kernel_rfl) (by kernel_rfl) (by kernel_rfl)
    ⟨fun _ _ _ h => h,
    trivial⟩
    (cast (by kernel_rfl) h)
def S_fettlelaw8_GrphOrder_c1 (x0 x1 : Value) (M : Store) (Q : Value → Store → Prop) : Prop :=
  OP (ixP 1 16 x1 x0) fun t5 =>
  OP (ld 1 false t5 M) fun t6 =>
  NTs [t6] ∧ Q t6 M
theorem T_fettlelaw8_GrphOrder_c1 {x0 x1 : Value} {M : Store} {Q : Value → Store → Prop} (h : S_fettlelaw8_GrphOrder_c1 x0 x1 M Q) : R F.fettlelaw8_GrphOrder_c1 #[x0, x1] M Q := by
  refine runs_of (c := bodyOf Try.f49) Try.func49 rfl (by kernel_rfl) (by kernel_rfl) ?_
  unfold At
  exact rule (B := 1000) (N := 7) (ct := .no)
    [⟨1, fun a M => kfin Try.prog Try.f49.results.toList Q 1 a M, fun a M => kfin Try.prog Try.f49.results.toList Q 1 a M⟩]
    [] [1] (by kernel_rfl) (by kernel_rfl) (by kernel_rfl) (by kernel_rfl) (by kernel_rfl)
    ⟨fun _ _ _ h => h,
    trivial⟩
    (cast (by kernel_rfl) h)
def P_fettlelaw8_GrphOrder_c2_1 (x3 x6 x7 x8 : Value) (M : Store) (Q : Value → Store → Prop) : Prop :=
  ∀ f : Nat → Value, f 3 = x3 → f 6 = x6 → f 7 = x7 → f 8 = x8 → At Try.prog Ex none Try.f50 [1, 1, 0, 1, 0] ⟨⟨22, f⟩, []⟩ M Q
def P_fettlelaw8_GrphOrder_c2_2 (x3 x6 x7 x8 : Value) (M : Store) (Q : Value → Store → Prop) : Prop :=
  ∀ f : Nat → Value, f 3 = x3 → f 6 = x6 → f 7 = x7 → f 8 = x8 → At Try.prog Ex none Try.f50 [1, 1, 0, 1, 0, 0, 1, 1] ⟨⟨22, f⟩, []⟩ M Q
def P_fettlelaw8_GrphOrder_c2_3 (x3 : Value) (M : Store) (Q : Value → Store → Prop) : Prop :=
  ∀ f : Nat → Value, f 3 = x3 → At Try.prog Ex none Try.f50 [1, 1, 1] ⟨⟨22, f⟩, []⟩ M Q
def S_fettlelaw8_GrphOrder_c2 (x0 : Value) (M : Store) (Q : Value → Store → Prop) : Prop :=
  OP (lenV x0) fun t7 =>
  P_fettlelaw8_GrphOrder_c2_1 (.slice none 0 0) x0 t7 (.int .i64 0) M Q
theorem T_fettlelaw8_GrphOrder_c2 {x0 : Value} {M : Store} {Q : Value → Store → Prop} (h : S_fettlelaw8_GrphOrder_c2 x0 M Q) : R F.fettlelaw8_GrphOrder_c2 #[x0] M Q := by
  refine runs_of (c := bodyOf Try.f50) Try.func50 rfl (by kernel_rfl) (by kernel_rfl) ?_
  unfold At
  exact rule (B := 1000) (N := 22) (ct := (.two .no (.two .no (.two (.two .no (.two (.here 1000) .no)) (.here 1001)))))
    [⟨1002, fun a M => dfr a.defers (P_fettlelaw8_GrphOrder_c2_1 (a.get 3) (a.get 6) (a.get 7) (a.get 8) M Q), fun a M => At Try.prog Ex none Try.f50 [1, 1, 0, 1, 0] a M Q⟩,
    ⟨1003, fun _ _ => False, fun a M => At Try.prog Ex none Try.f50 [1, 1, 1] a M Q⟩]
    [1000, 1001] [] (by kernel_rfl) (by kernel_rfl) (by kernel_rfl) (by kernel_rfl) (by kernel_rfl)
    ⟨fun a M hn h => by obtain ⟨⟨n, f⟩, ds⟩ := a; have hn : n = 22 := hn; subst hn; obtain ⟨hd, h⟩ := dfr_iff h; have hd : ds = [] := hd; subst hd; exact h f rfl rfl rfl rfl,
    fun _ _ _ h => h.elim,
    trivial⟩
    (cast (by kernel_rfl) h)
def S_fettlelaw8_GrphOrder_c2_1 (x3 x6 x7 x8 : Value) (M : Store) (Q : Value → Store → Prop) : Prop :=
  OP (binI .lss x8 x7) fun t9 =>
  BR t9 (
  P_fettlelaw8_GrphOrder_c2_2 x3 x6 x7 x8 M Q
  ) (
  P_fettlelaw8_GrphOrder_c2_3 x3 M Q
  )
theorem T_fettlelaw8_GrphOrder_c2_1 {x3 x6 x7 x8 : Value} {M : Store} {Q : Value → Store → Prop} (h : S_fettlelaw8_GrphOrder_c2_1 x3 x6 x7 x8 M Q) : P_fettlelaw8_GrphOrder_c2_1 x3 x6 x7 x8 M Q := by
  intro f h3 h6 h7 h8; subst h3; subst h6; subst h7; subst h8
  unfold At
  refine cast (by kernel_rfl) (CW.loop (P := Try.prog) (E := Ex) (rd := none) (x := sub (bodyOf Try.f50) [1, 1, 0, 1, 0, 0]) (a := ⟨⟨22, f⟩, []⟩) (M := M) (K := kcont Try.prog Ex none (bodyOf Try.f50) [1, 1, 0, 1, 0] (kfin Try.prog Try.f50.results.toList Q)) ?_)
  exact rule (B := 1000) (N := 22) (ct := (.two .no (.two .no (.here 1000))))
    [⟨1002, fun a M => dfr a.defers (P_fettlelaw8_GrphOrder_c2_2 (a.get 3) (a.get 6) (a.get 7) (a.get 8) M Q), fun a M => At Try.prog Ex none Try.f50 [1, 1, 0, 1, 0, 0, 1, 1] a M Q⟩,
    ⟨2, fun a M => dfr a.defers (P_fettlelaw8_GrphOrder_c2_3 (a.get 3) M Q), fun a M => At Try.prog Ex none Try.f50 [1, 1, 1] a M Q⟩]
    [1000] [2] (by kernel_rfl) (by kernel_rfl) (by kernel_rfl) (by kernel_rfl) (by kernel_rfl)
    ⟨fun a M hn h => by obtain ⟨⟨n, f⟩, ds⟩ := a; have hn : n = 22 := hn; subst hn; obtain ⟨hd, h⟩ := dfr_iff h; have hd : ds = [] := hd; subst hd; exact h f rfl rfl rfl rfl,
    fun a M hn h => by obtain ⟨⟨n, f⟩, ds⟩ := a; have hn : n = 22 := hn; subst hn; obtain ⟨hd, h⟩ := dfr_iff h; have hd : ds = [] := hd; subst hd; exact h f rfl,
    trivial⟩
    (cast (by kernel_rfl) h)
def S_fettlelaw8_GrphOrder_c2_2 (x3 x6 x7 x8 : Value) (M : Store) (Q : Value → Store → Prop) : Prop :=
  OP (ixA 1 x6 x8) fun t10 =>
  OP (ld 1 false t10 M) fun t11 =>
  OP (binI .add (.int .i64 97) t11) fun t14 =>
  OP (cvI .u8 t14) fun t15 =>
  OP (bldL (.int .u8 0) 1 1 [(0, t15)]) fun c =>
  LT (.slice (some ⟨M.n, 0, none⟩) 1 1) (M.push (some (.inl (c, Ty.uint8, true)))) fun t16 M1 =>
  OP (cvBS t16 M1) fun t17 =>
  OP (bldL (.string ⟨#[]⟩) 1 1 [(0, t17)]) fun c_1 =>
  LT (.slice (some ⟨M1.n, 0, none⟩) 1 1) (M1.push (some (.inl (c_1, Ty.string, true)))) fun t18 M2 =>
  OP2 (appV 1 Ty.string x3 t18 M2) fun t19 M3 =>
  OP (binI .add x8 (.int .i64 1)) fun t20 =>
  P_fettlelaw8_GrphOrder_c2_1 t19 x6 x7 t20 M3 Q
theorem T_fettlelaw8_GrphOrder_c2_2 {x3 x6 x7 x8 : Value} {M : Store} {Q : Value → Store → Prop} (h : S_fettlelaw8_GrphOrder_c2_2 x3 x6 x7 x8 M Q) : P_fettlelaw8_GrphOrder_c2_2 x3 x6 x7 x8 M Q := by
  intro f h3 h6 h7 h8; subst h3; subst h6; subst h7; subst h8
  unfold At
  exact rule (B := 1000) (N := 22) (ct := .no)
    [⟨0, fun a M => dfr a.defers (P_fettlelaw8_GrphOrder_c2_1 (a.get 3) (a.get 6) (a.get 7) (a.get 8) M Q), fun a M => At Try.prog Ex none Try.f50 [1, 1, 0, 1, 0] a M Q⟩]
    [] [0] (by kernel_rfl) (by kernel_rfl) (by kernel_rfl) (by kernel_rfl) (by kernel_rfl)
    ⟨fun a M hn h => by obtain ⟨⟨n, f⟩, ds⟩ := a; have hn : n = 22 := hn; subst hn; obtain ⟨hd, h⟩ := dfr_iff h; have hd : ds = [] := hd; subst hd; exact h f rfl rfl rfl rfl,
    trivial⟩
    (cast (by kernel_rfl) h)
def S_fettlelaw8_GrphOrder_c2_3 (x3 : Value) (M : Store) (Q : Value → Store → Prop) : Prop :=
  NTs [x3] ∧ Q x3 M
theorem T_fettlelaw8_GrphOrder_c2_3 {x3 : Value} {M : Store} {Q : Value → Store → Prop} (h : S_fettlelaw8_GrphOrder_c2_3 x3 M Q) : P_fettlelaw8_GrphOrder_c2_3 x3 M Q := by
  intro f h3; subst h3
  unfold At
  exact rule (B := 1000) (N := 22) (ct := .no)
    [⟨1, fun a M => kfin Try.prog Try.f50.results.toList Q 1 a M, fun a M => kfin Try.prog Try.f50.results.toList Q 1 a M⟩]
    [] [1] (by kernel_rfl) (by kernel_rfl) (by kernel_rfl) (by kernel_rfl) (by kernel_rfl)
    ⟨fun _ _ _ h => h,
    trivial⟩
    (cast (by kernel_rfl) h)
def S_fettlelaw8_GrphOrder_c3 (x0 x1 x2 : Value) (M : Store) (Q : Value → Store → Prop) : Prop :=
  OP (lenS x0) fun t6 =>
  OP (binI .neq t6 (.int .i64 1)) fun t7 =>
  BR t7 (
  NTs [(.slice none 0 0)] ∧ Q (.slice none 0 0) M
  ) (
  OP (ixS x0 (.int .i64 0)) fun t10 =>
  OP (binI .lss t10 (.int .u8 97)) fun t11 =>
  BR t11 (
  NTs [(.slice none 0 0)] ∧ Q (.slice none 0 0) M
  ) (
  OP (ixS x0 (.int .i64 0)) fun t15 =>
  OP (binI .gtr t15 (.int .u8 112)) fun t16 =>
  BR t16 (
  NTs [(.slice none 0 0)] ∧ Q (.slice none 0 0) M
  ) (
  OP (ld 1 false x1 M) fun t18 =>
  OP (ixS x0 (.int .i64 0)) fun t20 =>
  OP (binI .sub t20 (.int .u8 97)) fun t21 =>
  OP (ixP 1 16 x2 t21) fun t22 =>
  OP (ld 1 false t22 M) fun t23 =>
  KC t18 [t23] M fun t24 M1 =>
  TDx [0, 0, 2, 6, 14, 30, 63, 127] [M.n, M.n, M.n, M.n, M.n, M.n, M.n] 6 M M1 ∧
  NTs [t24] ∧ Q t24 M1
  )
  )
  )
theorem T_fettlelaw8_GrphOrder_c3 {x0 x1 x2 : Value} {M : Store} {Q : Value → Store → Prop} (h : S_fettlelaw8_GrphOrder_c3 x0 x1 x2 M Q) : R F.fettlelaw8_GrphOrder_c3 #[x0, x1, x2] M Q := by
  refine runs_of (c := bodyOf Try.f51) Try.func51 rfl (by kernel_rfl) (by kernel_rfl) ?_
  unfold At
  exact rule (B := 1000) (N := 25) (ct := .no)
    [⟨1, fun a M => kfin Try.prog Try.f51.results.toList Q 1 a M, fun a M => kfin Try.prog Try.f51.results.toList Q 1 a M⟩]
    [] [1] (by kernel_rfl) (by kernel_rfl) (by kernel_rfl) (by kernel_rfl) (by kernel_rfl)
    ⟨fun _ _ _ h => h,
    trivial⟩
    (cast (by kernel_rfl) h)
def S_fettlelaw8_GrphReach_c1 (x0 x1 : Value) (M : Store) (Q : Value → Store → Prop) : Prop :=
  OP (ixP 1 16 x1 x0) fun t5 =>
  OP (ld 1 false t5 M) fun t6 =>
  NTs [t6] ∧ Q t6 M
theorem T_fettlelaw8_GrphReach_c1 {x0 x1 : Value} {M : Store} {Q : Value → Store → Prop} (h : S_fettlelaw8_GrphReach_c1 x0 x1 M Q) : R F.fettlelaw8_GrphReach_c1 #[x0, x1] M Q := by
  refine runs_of (c := bodyOf Try.f52) Try.func52 rfl (by kernel_rfl) (by kernel_rfl) ?_
  unfold At
  exact rule (B := 1000) (N := 7) (ct := .no)
    [⟨1, fun a M => kfin Try.prog Try.f52.results.toList Q 1 a M, fun a M => kfin Try.prog Try.f52.results.toList Q 1 a M⟩]
    [] [1] (by kernel_rfl) (by kernel_rfl) (by kernel_rfl) (by kernel_rfl) (by kernel_rfl)
    ⟨fun _ _ _ h => h,
    trivial⟩
    (cast (by kernel_rfl) h)
def P_grph_unlike_string_1 (x3 x4 x10 x11 x12 : Value) (M : Store) (Q : Value → Store → Prop) : Prop :=
  ∀ f : Nat → Value, f 3 = x3 → f 4 = x4 → f 10 = x10 → f 11 = x11 → f 12 = x12 → At Try.prog Ex none Try.f86 [1, 1, 1, 0, 1, 0] ⟨⟨32, f⟩, []⟩ M Q
def P_grph_unlike_string_2 (x3 x4 x10 x11 x12 : Value) (M : Store) (Q : Value → Store → Prop) : Prop :=
  ∀ f : Nat → Value, f 3 = x3 → f 4 = x4 → f 10 = x10 → f 11 = x11 → f 12 = x12 → At Try.prog Ex none Try.f86 [1, 1, 1, 0, 1, 0, 0, 1, 1] ⟨⟨32, f⟩, []⟩ M Q
def P_grph_unlike_string_3 (x4 : Value) (M : Store) (Q : Value → Store → Prop) : Prop :=
  ∀ f : Nat → Value, f 4 = x4 → At Try.prog Ex none Try.f86 [1, 1, 1, 1] ⟨⟨32, f⟩, []⟩ M Q
def S_grph_unlike_string (x0 : Value) (M : Store) (Q : Value → Store → Prop) : Prop :=
  LT (.map (some M.n)) (M.push (some (.inr (.inl [])))) fun t9 M1 =>
  OP (lenV x0) fun t11 =>
  P_grph_unlike_string_1 t9 (.slice none 0 0) x0 t11 (.int .i64 0) M1 Q
theorem T_grph_unlike_string {x0 : Value} {M : Store} {Q : Value → Store → Prop} (h : S_grph_unlike_string x0 M Q) : R F.grph_unlike_string #[x0] M Q := by
  refine runs_of (c := bodyOf Try.f86) Try.func86 rfl (by kernel_rfl) (by kernel_rfl) ?_
  unfold At
  exact rule (B := 1000) (N := 32) (ct := (.two .no (.two .no (.two .no (.two (.two .no (.two (.here 1000) .no)) (.here 1001))))))
    [⟨1002, fun a M => dfr a.defers (P_grph_unlike_string_1 (a.get 3) (a.get 4) (a.get 10) (a.get 11) (a.get 12) M Q), fun a M => At Try.prog Ex none Try.f86 [1, 1, 1, 0, 1, 0] a M Q⟩,
    ⟨1003, fun _ _ => False, fun a M => At Try.prog Ex none Try.f86 [1, 1, 1, 1] a M Q⟩]
    [1000, 1001] [] (by kernel_rfl) (by kernel_rfl) (by kernel_rfl) (by kernel_rfl) (by kernel_rfl)
    ⟨fun a M hn h => by obtain ⟨⟨n, f⟩, ds⟩ := a; have hn : n = 32 := hn; subst hn; obtain ⟨hd, h⟩ := dfr_iff h; have hd : ds = [] := hd; subst hd; exact h f rfl rfl rfl rfl rfl,
    fun _ _ _ h => h.elim,
    trivial⟩
    (cast (by kernel_rfl) h)
def S_grph_unlike_string_1 (x3 x4 x10 x11 x12 : Value) (M : Store) (Q : Value → Store → Prop) : Prop :=
  OP (binI .lss x12 x11) fun t13 =>
  BR t13 (
  P_grph_unlike_string_2 x3 x4 x10 x11 x12 M Q
  ) (
  P_grph_unlike_string_3 x4 M Q
  )
theorem T_grph_unlike_string_1 {x3 x4 x10 x11 x12 : Value} {M : Store} {Q : Value → Store → Prop} (h : S_grph_unlike_string_1 x3 x4 x10 x11 x12 M Q) : P_grph_unlike_string_1 x3 x4 x10 x11 x12 M Q := by
  intro f h3 h4 h10 h11 h12; subst h3; subst h4; subst h10; subst h11; subst h12
  unfold At
  refine cast (by kernel_rfl) (CW.loop (P := Try.prog) (E := Ex) (rd := none) (x := sub (bodyOf Try.f86) [1, 1, 1, 0, 1, 0, 0]) (a := ⟨⟨32, f⟩, []⟩) (M := M) (K := kcont Try.prog Ex none (bodyOf Try.f86) [1, 1, 1, 0, 1, 0] (kfin Try.prog Try.f86.results.toList Q)) ?_)
  exact rule (B := 1000) (N := 32) (ct := (.two .no (.two .no (.here 1000))))
    [⟨1002, fun a M => dfr a.defers (P_grph_unlike_string_2 (a.get 3) (a.get 4) (a.get 10) (a.get 11) (a.get 12) M Q), fun a M => At Try.prog Ex none Try.f86 [1, 1, 1, 0, 1, 0, 0, 1, 1] a M Q⟩,
    ⟨2, fun a M => dfr a.defers (P_grph_unlike_string_3 (a.get 4) M Q), fun a M => At Try.prog Ex none Try.f86 [1, 1, 1, 1] a M Q⟩]
    [1000] [2] (by kernel_rfl) (by kernel_rfl) (by kernel_rfl) (by kernel_rfl) (by kernel_rfl)
    ⟨fun a M hn h => by obtain ⟨⟨n, f⟩, ds⟩ := a; have hn : n = 32 := hn; subst hn; obtain ⟨hd, h⟩ := dfr_iff h; have hd : ds = [] := hd; subst hd; exact h f rfl rfl rfl rfl rfl,
    fun a M hn h => by obtain ⟨⟨n, f⟩, ds⟩ := a; have hn : n = 32 := hn; subst hn; obtain ⟨hd, h⟩ := dfr_iff h; have hd : ds = [] := hd; subst hd; exact h f rfl,
    trivial⟩
    (cast (by kernel_rfl) h)
def S_grph_unlike_string_2 (x3 x4 x10 x11 x12 : Value) (M : Store) (Q : Value → Store → Prop) : Prop :=
  OP (ixA 1 x10 x12) fun t14 =>
  OP (ld 1 false t14 M) fun t15 =>
  OP (lku .string (.int .i64 0) x3 t15 true M) fun t19 =>
  OP (tup t19 0) fun t20 =>
  OP (tup t19 1) fun t21 =>
  OP (aun .not t21) fun t23 =>
  BR t23 (
  OP (mup .string x3 t15 (.int .i64 1) M) fun M1 =>
  OP (bldL (.string ⟨#[]⟩) 1 1 [(0, t15)]) fun c =>
  LT (.slice (some ⟨M1.n, 0, none⟩) 1 1) (M1.push (some (.inl (c, Ty.string, true)))) fun t28 M2 =>
  OP2 (appV 1 Ty.string x4 t28 M2) fun t29 M3 =>
  OP (binI .add x12 (.int .i64 1)) fun t30 =>
  P_grph_unlike_string_1 x3 t29 x10 x11 t30 M3 Q
  ) (
  OP (binI .add x12 (.int .i64 1)) fun t30_1 =>
  P_grph_unlike_string_1 x3 x4 x10 x11 t30_1 M Q
  )
theorem T_grph_unlike_string_2 {x3 x4 x10 x11 x12 : Value} {M : Store} {Q : Value → Store → Prop} (h : S_grph_unlike_string_2 x3 x4 x10 x11 x12 M Q) : P_grph_unlike_string_2 x3 x4 x10 x11 x12 M Q := by
  intro f h3 h4 h10 h11 h12; subst h3; subst h4; subst h10; subst h11; subst h12
  unfold At
  exact rule (B := 1000) (N := 32) (ct := .no)
    [⟨0, fun a M => dfr a.defers (P_grph_unlike_string_1 (a.get 3) (a.get 4) (a.get 10) (a.get 11) (a.get 12) M Q), fun a M => At Try.prog Ex none Try.f86 [1, 1, 1, 0, 1, 0] a M Q⟩]
    [] [0] (by kernel_rfl) (by kernel_rfl) (by kernel_rfl) (by kernel_rfl) (by kernel_rfl)
    ⟨fun a M hn h => by obtain ⟨⟨n, f⟩, ds⟩ := a; have hn : n = 32 := hn; subst hn; obtain ⟨hd, h⟩ := dfr_iff h; have hd : ds = [] := hd; subst hd; exact h f rfl rfl rfl rfl rfl,
    trivial⟩
    (cast (by kernel_rfl) h)
def S_grph_unlike_string_3 (x4 : Value) (M : Store) (Q : Value → Store → Prop) : Prop :=
  NTs [x4] ∧ Q x4 M
theorem T_grph_unlike_string_3 {x4 : Value} {M : Store} {Q : Value → Store → Prop} (h : S_grph_unlike_string_3 x4 M Q) : P_grph_unlike_string_3 x4 M Q := by
  intro f h4; subst h4
  unfold At
  exact rule (B := 1000) (N := 32) (ct := .no)
    [⟨1, fun a M => kfin Try.prog Try.f86.results.toList Q 1 a M, fun a M => kfin Try.prog Try.f86.results.toList Q 1 a M⟩]
    [] [1] (by kernel_rfl) (by kernel_rfl) (by kernel_rfl) (by kernel_rfl) (by kernel_rfl)
    ⟨fun _ _ _ h => h,
    trivial⟩
    (cast (by kernel_rfl) h)
def P_grph_next_1 (x3 x7 x8 x9 : Value) (M : Store) (Q : Value → Store → Prop) : Prop :=
  ∀ f : Nat → Value, f 3 = x3 → f 7 = x7 → f 8 = x8 → f 9 = x9 → At Try.prog Ex none Try.f87 [1, 0, 1, 0] ⟨⟨27, f⟩, []⟩ M Q
def P_grph_next_2 (x3 x7 x8 x9 : Value) (M : Store) (Q : Value → Store → Prop) : Prop :=
  ∀ f : Nat → Value, f 3 = x3 → f 7 = x7 → f 8 = x8 → f 9 = x9 → At Try.prog Ex none Try.f87 [1, 0, 1, 0, 0, 1, 1] ⟨⟨27, f⟩, []⟩ M Q
def P_grph_next_3 (M : Store) (Q : Value → Store → Prop) : Prop :=
  ∀ f : Nat → Value, At Try.prog Ex none Try.f87 [1, 1] ⟨⟨27, f⟩, []⟩ M Q
def S_grph_next (x0 x1 : Value) (M : Store) (Q : Value → Store → Prop) : Prop :=
  OP (boxv x1) fun c =>
  LT (.pointer (some ⟨M.n, 0, none⟩)) (M.push (some (.inl (c, Ty.sl_bool, true)))) fun t3 M1 =>
  OP (lenV x0) fun t8 =>
  P_grph_next_1 t3 x0 t8 (.int .i64 0) M1 Q
theorem T_grph_next {x0 x1 : Value} {M : Store} {Q : Value → Store → Prop} (h : S_grph_next x0 x1 M Q) : R F.grph_next #[x0, x1] M Q := by
  refine runs_of (c := bodyOf Try.f87) Try.func87 rfl (by kernel_rfl) (by kernel_rfl) ?_
  unfold At
  exact rule (B := 1000) (N := 27) (ct := (.two .no (.two (.two .no (.two (.here 1000) .no)) (.here 1001))))
    [⟨1002, fun a M => dfr a.defers (P_grph_next_1 (a.get 3) (a.get 7) (a.get 8) (a.get 9) M Q), fun a M => At Try.prog Ex none Try.f87 [1, 0, 1, 0] a M Q⟩,
    ⟨1003, fun _ _ => False, fun a M => At Try.prog Ex none Try.f87 [1, 1] a M Q⟩]
    [1000, 1001] [] (by kernel_rfl) (by kernel_rfl) (by kernel_rfl) (by kernel_rfl) (by kernel_rfl)
    ⟨fun a M hn h => by obtain ⟨⟨n, f⟩, ds⟩ := a; have hn : n = 27 := hn; subst hn; obtain ⟨hd, h⟩ := dfr_iff h; have hd : ds = [] := hd; subst hd; exact h f rfl rfl rfl rfl,
    fun _ _ _ h => h.elim,
    trivial⟩
    (cast (by kernel_rfl) h)
def S_grph_next_1 (x3 x7 x8 x9 : Value) (M : Store) (Q : Value → Store → Prop) : Prop :=
  OP (binI .lss x9 x8) fun t10 =>
  BR t10 (
  P_grph_next_2 x3 x7 x8 x9 M Q
  ) (
  P_grph_next_3 M Q
  )
theorem T_grph_next_1 {x3 x7 x8 x9 : Value} {M : Store} {Q : Value → Store → Prop} (h : S_grph_next_1 x3 x7 x8 x9 M Q) : P_grph_next_1 x3 x7 x8 x9 M Q := by
  intro f h3 h7 h8 h9; subst h3; subst h7; subst h8; subst h9
  unfold At
  refine cast (by kernel_rfl) (CW.loop (P := Try.prog) (E := Ex) (rd := none) (x := sub (bodyOf Try.f87) [1, 0, 1, 0, 0]) (a := ⟨⟨27, f⟩, []⟩) (M := M) (K := kcont Try.prog Ex none (bodyOf Try.f87) [1, 0, 1, 0] (kfin Try.prog Try.f87.results.toList Q)) ?_)
  exact rule (B := 1000) (N := 27) (ct := (.two .no (.two .no (.here 1000))))
    [⟨1002, fun a M => dfr a.defers (P_grph_next_2 (a.get 3) (a.get 7) (a.get 8) (a.get 9) M Q), fun a M => At Try.prog Ex none Try.f87 [1, 0, 1, 0, 0, 1, 1] a M Q⟩,
    ⟨2, fun a M => dfr a.defers (P_grph_next_3 M Q), fun a M => At Try.prog Ex none Try.f87 [1, 1] a M Q⟩]
    [1000] [2] (by kernel_rfl) (by kernel_rfl) (by kernel_rfl) (by kernel_rfl) (by kernel_rfl)
    ⟨fun a M hn h => by obtain ⟨⟨n, f⟩, ds⟩ := a; have hn : n = 27 := hn; subst hn; obtain ⟨hd, h⟩ := dfr_iff h; have hd : ds = [] := hd; subst hd; exact h f rfl rfl rfl rfl,
    fun a M hn h => by obtain ⟨⟨n, f⟩, ds⟩ := a; have hn : n = 27 := hn; subst hn; obtain ⟨hd, h⟩ := dfr_iff h; have hd : ds = [] := hd; subst hd; exact h f,
    trivial⟩
    (cast (by kernel_rfl) h)
def S_grph_next_2 (x3 x7 x8 x9 : Value) (M : Store) (Q : Value → Store → Prop) : Prop :=
  OP (ixA 1 x7 x9) fun t12 =>
  OP (ld 1 false t12 M) fun t13 =>
  OP (ld 1 false x3 M) fun t14 =>
  OP (ixA 1 t14 x9) fun t16 =>
  OP (ld 1 false t16 M) fun t17 =>
  OP (aun .not t17) fun t18 =>
  BR t18 (
  OP (mkF (.func F.grph_next_c1) [] [x3]) fun t21 =>
  R F.slices_ContainsFunc_sl_int_int #[t13, t21] M fun t22 M1 =>
  OP (aun .not t22) fun t23 =>
  BR t23 (
  NTs [x9] ∧ Q x9 M1
  ) (
  OP (binI .add x9 (.int .i64 1)) fun t26 =>
  P_grph_next_1 x3 x7 x8 t26 M1 Q
  )
  ) (
  OP (binI .add x9 (.int .i64 1)) fun t26_1 =>
  P_grph_next_1 x3 x7 x8 t26_1 M Q
  )
theorem T_grph_next_2 {x3 x7 x8 x9 : Value} {M : Store} {Q : Value → Store → Prop} (h : S_grph_next_2 x3 x7 x8 x9 M Q) : P_grph_next_2 x3 x7 x8 x9 M Q := by
  intro f h3 h7 h8 h9; subst h3; subst h7; subst h8; subst h9
  unfold At
  exact rule (B := 1000) (N := 27) (ct := .no)
    [⟨0, fun a M => dfr a.defers (P_grph_next_1 (a.get 3) (a.get 7) (a.get 8) (a.get 9) M Q), fun a M => At Try.prog Ex none Try.f87 [1, 0, 1, 0] a M Q⟩,
    ⟨1, fun a M => kfin Try.prog Try.f87.results.toList Q 1 a M, fun a M => kfin Try.prog Try.f87.results.toList Q 1 a M⟩]
    [] [0, 1] (by kernel_rfl) (by kernel_rfl) (by kernel_rfl) (by kernel_rfl) (by kernel_rfl)
    ⟨fun a M hn h => by obtain ⟨⟨n, f⟩, ds⟩ := a; have hn : n = 27 := hn; subst hn; obtain ⟨hd, h⟩ := dfr_iff h; have hd : ds = [] := hd; subst hd; exact h f rfl rfl rfl rfl,
    fun _ _ _ h => h,
    trivial⟩
    (cast (by kernel_rfl) h)
def S_grph_next_3 (M : Store) (Q : Value → Store → Prop) : Prop :=
  NTs [(.int .i64 (-1))] ∧ Q (.int .i64 (-1)) M
theorem T_grph_next_3 {M : Store} {Q : Value → Store → Prop} (h : S_grph_next_3 M Q) : P_grph_next_3 M Q := by
  intro f 
  unfold At
  exact rule (B := 1000) (N := 27) (ct := .no)
    [⟨1, fun a M => kfin Try.prog Try.f87.results.toList Q 1 a M, fun a M => kfin Try.prog Try.f87.results.toList Q 1 a M⟩]
    [] [1] (by kernel_rfl) (by kernel_rfl) (by kernel_rfl) (by kernel_rfl) (by kernel_rfl)
    ⟨fun _ _ _ h => h,
    trivial⟩
    (cast (by kernel_rfl) h)
def P_grph_unlike_int_1 (x3 x4 x10 x11 x12 : Value) (M : Store) (Q : Value → Store → Prop) : Prop :=
  ∀ f : Nat → Value, f 3 = x3 → f 4 = x4 → f 10 = x10 → f 11 = x11 → f 12 = x12 → At Try.prog Ex none Try.f88 [1, 1, 1, 0, 1, 0] ⟨⟨32, f⟩, []⟩ M Q
def P_grph_unlike_int_2 (x3 x4 x10 x11 x12 : Value) (M : Store) (Q : Value → Store → Prop) : Prop :=
  ∀ f : Nat → Value, f 3 = x3 → f 4 = x4 → f 10 = x10 → f 11 = x11 → f 12 = x12 → At Try.prog Ex none Try.f88 [1, 1, 1, 0, 1, 0, 0, 1, 1] ⟨⟨32, f⟩, []⟩ M Q
def P_grph_unlike_int_3 (x4 : Value) (M : Store) (Q : Value → Store → Prop) : Prop :=
  ∀ f : Nat → Value, f 4 = x4 → At Try.prog Ex none Try.f88 [1, 1, 1, 1] ⟨⟨32, f⟩, []⟩ M Q
def S_grph_unlike_int (x0 : Value) (M : Store) (Q : Value → Store → Prop) : Prop :=
  LT (.map (some M.n)) (M.push (some (.inr (.inl [])))) fun t9 M1 =>
  OP (lenV x0) fun t11 =>
  P_grph_unlike_int_1 t9 (.slice none 0 0) x0 t11 (.int .i64 0) M1 Q
theorem T_grph_unlike_int {x0 : Value} {M : Store} {Q : Value → Store → Prop} (h : S_grph_unlike_int x0 M Q) : R F.grph_unlike_int #[x0] M Q := by
  refine runs_of (c := bodyOf Try.f88) Try.func88 rfl (by kernel_rfl) (by kernel_rfl) ?_
  unfold At
  exact rule (B := 1000) (N := 32) (ct := (.two .no (.two .no (.two .no (.two (.two .no (.two (.here 1000) .no)) (.here 1001))))))
    [⟨1002, fun a M => dfr a.defers (P_grph_unlike_int_1 (a.get 3) (a.get 4) (a.get 10) (a.get 11) (a.get 12) M Q), fun a M => At Try.prog Ex none Try.f88 [1, 1, 1, 0, 1, 0] a M Q⟩,
    ⟨1003, fun _ _ => False, fun a M => At Try.prog Ex none Try.f88 [1, 1, 1, 1] a M Q⟩]
    [1000, 1001] [] (by kernel_rfl) (by kernel_rfl) (by kernel_rfl) (by kernel_rfl) (by kernel_rfl)
    ⟨fun a M hn h => by obtain ⟨⟨n, f⟩, ds⟩ := a; have hn : n = 32 := hn; subst hn; obtain ⟨hd, h⟩ := dfr_iff h; have hd : ds = [] := hd; subst hd; exact h f rfl rfl rfl rfl rfl,
    fun _ _ _ h => h.elim,
    trivial⟩
    (cast (by kernel_rfl) h)
def S_grph_unlike_int_1 (x3 x4 x10 x11 x12 : Value) (M : Store) (Q : Value → Store → Prop) : Prop :=
  OP (binI .lss x12 x11) fun t13 =>
  BR t13 (
  P_grph_unlike_int_2 x3 x4 x10 x11 x12 M Q
  ) (
  P_grph_unlike_int_3 x4 M Q
  )
theorem T_grph_unlike_int_1 {x3 x4 x10 x11 x12 : Value} {M : Store} {Q : Value → Store → Prop} (h : S_grph_unlike_int_1 x3 x4 x10 x11 x12 M Q) : P_grph_unlike_int_1 x3 x4 x10 x11 x12 M Q := by
  intro f h3 h4 h10 h11 h12; subst h3; subst h4; subst h10; subst h11; subst h12
  unfold At
  refine cast (by kernel_rfl) (CW.loop (P := Try.prog) (E := Ex) (rd := none) (x := sub (bodyOf Try.f88) [1, 1, 1, 0, 1, 0, 0]) (a := ⟨⟨32, f⟩, []⟩) (M := M) (K := kcont Try.prog Ex none (bodyOf Try.f88) [1, 1, 1, 0, 1, 0] (kfin Try.prog Try.f88.results.toList Q)) ?_)
  exact rule (B := 1000) (N := 32) (ct := (.two .no (.two .no (.here 1000))))
    [⟨1002, fun a M => dfr a.defers (P_grph_unlike_int_2 (a.get 3) (a.get 4) (a.get 10) (a.get 11) (a.get 12) M Q), fun a M => At Try.prog Ex none Try.f88 [1, 1, 1, 0, 1, 0, 0, 1, 1] a M Q⟩,
    ⟨2, fun a M => dfr a.defers (P_grph_unlike_int_3 (a.get 4) M Q), fun a M => At Try.prog Ex none Try.f88 [1, 1, 1, 1] a M Q⟩]
    [1000] [2] (by kernel_rfl) (by kernel_rfl) (by kernel_rfl) (by kernel_rfl) (by kernel_rfl)
    ⟨fun a M hn h => by obtain ⟨⟨n, f⟩, ds⟩ := a; have hn : n = 32 := hn; subst hn; obtain ⟨hd, h⟩ := dfr_iff h; have hd : ds = [] := hd; subst hd; exact h f rfl rfl rfl rfl rfl,
    fun a M hn h => by obtain ⟨⟨n, f⟩, ds⟩ := a; have hn : n = 32 := hn; subst hn; obtain ⟨hd, h⟩ := dfr_iff h; have hd : ds = [] := hd; subst hd; exact h f rfl,
    trivial⟩
    (cast (by kernel_rfl) h)
def S_grph_unlike_int_2 (x3 x4 x10 x11 x12 : Value) (M : Store) (Q : Value → Store → Prop) : Prop :=
  OP (ixA 1 x10 x12) fun t14 =>
  OP (ld 1 false t14 M) fun t15 =>
  OP (lku (.int .i64) (.int .i64 0) x3 t15 true M) fun t19 =>
  OP (tup t19 0) fun t20 =>
  OP (tup t19 1) fun t21 =>
  OP (aun .not t21) fun t23 =>
  BR t23 (
  OP (mup (.int .i64) x3 t15 (.int .i64 1) M) fun M1 =>
  OP (bldL (.int .i64 0) 1 1 [(0, t15)]) fun c =>
  LT (.slice (some ⟨M1.n, 0, none⟩) 1 1) (M1.push (some (.inl (c, Ty.int, true)))) fun t28 M2 =>
  OP2 (appV 1 Ty.int x4 t28 M2) fun t29 M3 =>
  OP (binI .add x12 (.int .i64 1)) fun t30 =>
  P_grph_unlike_int_1 x3 t29 x10 x11 t30 M3 Q
  ) (
  OP (binI .add x12 (.int .i64 1)) fun t30_1 =>
  P_grph_unlike_int_1 x3 x4 x10 x11 t30_1 M Q
  )
theorem T_grph_unlike_int_2 {x3 x4 x10 x11 x12 : Value} {M : Store} {Q : Value → Store → Prop} (h : S_grph_unlike_int_2 x3 x4 x10 x11 x12 M Q) : P_grph_unlike_int_2 x3 x4 x10 x11 x12 M Q := by
  intro f h3 h4 h10 h11 h12; subst h3; subst h4; subst h10; subst h11; subst h12
  unfold At
  exact rule (B := 1000) (N := 32) (ct := .no)
    [⟨0, fun a M => dfr a.defers (P_grph_unlike_int_1 (a.get 3) (a.get 4) (a.get 10) (a.get 11) (a.get 12) M Q), fun a M => At Try.prog Ex none Try.f88 [1, 1, 1, 0, 1, 0] a M Q⟩]
    [] [0] (by kernel_rfl) (by kernel_rfl) (by kernel_rfl) (by kernel_rfl) (by kernel_rfl)
    ⟨fun a M hn h => by obtain ⟨⟨n, f⟩, ds⟩ := a; have hn : n = 32 := hn; subst hn; obtain ⟨hd, h⟩ := dfr_iff h; have hd : ds = [] := hd; subst hd; exact h f rfl rfl rfl rfl rfl,
    trivial⟩
    (cast (by kernel_rfl) h)
def S_grph_unlike_int_3 (x4 : Value) (M : Store) (Q : Value → Store → Prop) : Prop :=
  NTs [x4] ∧ Q x4 M
theorem T_grph_unlike_int_3 {x4 : Value} {M : Store} {Q : Value → Store → Prop} (h : S_grph_unlike_int_3 x4 M Q) : P_grph_unlike_int_3 x4 M Q := by
  intro f h4; subst h4
  unfold At
  exact rule (B := 1000) (N := 32) (ct := .no)
    [⟨1, fun a M => kfin Try.prog Try.f88.results.toList Q 1 a M, fun a M => kfin Try.prog Try.f88.results.toList Q 1 a M⟩]
    [] [1] (by kernel_rfl) (by kernel_rfl) (by kernel_rfl) (by kernel_rfl) (by kernel_rfl)
    ⟨fun _ _ _ h => h,
    trivial⟩
    (cast (by kernel_rfl) h)
def S_slices_Clone_sl_int_int (x0 : Value) (M : Store) (Q : Value → Store → Prop) : Prop :=
  OP (abin Try.prog true .eql Ty.sl_int x0 (.slice none 0 0)) fun t4 =>
  BR t4 (
  NTs [(.slice none 0 0)] ∧ Q (.slice none 0 0) M
  ) (
  OP (bldL (.int .i64 0) 1 0 []) fun c =>
  LT (.slice (some ⟨M.n, 0, none⟩) 0 0) (M.push (some (.inl (c, Ty.int, true)))) fun t5 M1 =>
  OP2 (appV 1 Ty.int t5 x0 M1) fun t7 M2 =>
  NTs [t7] ∧ Q t7 M2
  )
theorem T_slices_Clone_sl_int_int {x0 : Value} {M : Store} {Q : Value → Store → Prop} (h : S_slices_Clone_sl_int_int x0 M Q) : R F.slices_Clone_sl_int_int #[x0] M Q := by
  refine runs_of (c := bodyOf Try.f89) Try.func89 rfl (by kernel_rfl) (by kernel_rfl) ?_
  unfold At
  exact rule (B := 1000) (N := 8) (ct := .no)
    [⟨1, fun a M => kfin Try.prog Try.f89.results.toList Q 1 a M, fun a M => kfin Try.prog Try.f89.results.toList Q 1 a M⟩]
    [] [1] (by kernel_rfl) (by kernel_rfl) (by kernel_rfl) (by kernel_rfl) (by kernel_rfl)
    ⟨fun _ _ _ h => h,
    trivial⟩
    (cast (by kernel_rfl) h)
def P_grph_Reach_int_c1_1 (x0 x2 x4 x5 x16 x17 x18 : Value) (M : Store) (Q : Value → Store → Prop) : Prop :=
  ∀ f : Nat → Value, f 0 = x0 → f 2 = x2 → f 4 = x4 → f 5 = x5 → f 16 = x16 → f 17 = x17 → f 18 = x18 → At Try.prog Ex none Try.f90 [1, 1, 0, 1, 0] ⟨⟨64, f⟩, []⟩ M Q
def P_grph_Reach_int_c1_2 (x0 x2 x4 x5 : Value) (M : Store) (Q : Value → Store → Prop) : Prop :=
  ∀ f : Nat → Value, f 0 = x0 → f 2 = x2 → f 4 = x4 → f 5 = x5 → At Try.prog Ex none Try.f90 [1, 1, 1] ⟨⟨64, f⟩, []⟩ M Q
def P_grph_Reach_int_c1_3 (x0 x2 x4 x5 x8 : Value) (M : Store) (Q : Value → Store → Prop) : Prop :=
  ∀ f : Nat → Value, f 0 = x0 → f 2 = x2 → f 4 = x4 → f 5 = x5 → f 8 = x8 → At Try.prog Ex none Try.f90 [1, 1, 1, 1, 0] ⟨⟨64, f⟩, []⟩ M Q
def P_grph_Reach_int_c1_4 (x0 x2 x4 x5 x8 : Value) (M : Store) (Q : Value → Store → Prop) : Prop :=
  ∀ f : Nat → Value, f 0 = x0 → f 2 = x2 → f 4 = x4 → f 5 = x5 → f 8 = x8 → At Try.prog Ex none Try.f90 [1, 1, 1, 1, 0, 0, 1] ⟨⟨64, f⟩, []⟩ M Q
def P_grph_Reach_int_c1_5 (x0 x2 x4 x5 x8 x43 x44 x45 : Value) (M : Store) (Q : Value → Store → Prop) : Prop :=
  ∀ f : Nat → Value, f 0 = x0 → f 2 = x2 → f 4 = x4 → f 5 = x5 → f 8 = x8 → f 43 = x43 → f 44 = x44 → f 45 = x45 → At Try.prog Ex none Try.f90 [1, 1, 1, 1, 0, 0, 1, 0, 0, 1, 1, 0] ⟨⟨64, f⟩, []⟩ M Q
def P_grph_Reach_int_c1_6 (x0 x2 x4 x5 x8 x43 x44 x45 : Value) (M : Store) (Q : Value → Store → Prop) : Prop :=
  ∀ f : Nat → Value, f 0 = x0 → f 2 = x2 → f 4 = x4 → f 5 = x5 → f 8 = x8 → f 43 = x43 → f 44 = x44 → f 45 = x45 → At Try.prog Ex none Try.f90 [1, 1, 1, 1, 0, 0, 1, 0, 0, 1, 1, 0, 0, 1, 1] ⟨⟨64, f⟩, []⟩ M Q
def P_grph_Reach_int_c1_7 (x0 x2 x4 x5 x8 : Value) (M : Store) (Q : Value → Store → Prop) : Prop :=
  ∀ f : Nat → Value, f 0 = x0 → f 2 = x2 → f 4 = x4 → f 5 = x5 → f 8 = x8 → At Try.prog Ex none Try.f90 [1, 1, 1, 1, 0, 0, 1, 1] ⟨⟨64, f⟩, []⟩ M Q
def S_grph_Reach_int_c1 (x0 x1 x2 : Value) (M : Store) (Q : Value → Store → Prop) : Prop :=
  OP (ld 1 false x1 M) fun t13 =>
  R F.grph_unlike_int #[t13] M fun t14 M1 =>
  LT (.map (some M1.n)) (M1.push (some (.inr (.inl [])))) fun t15 M2 =>
  OP (lenV t14) fun t17 =>
  P_grph_Reach_int_c1_1 x0 x2 t14 t15 t14 t17 (.int .i64 0) M2 Q
theorem T_grph_Reach_int_c1 {x0 x1 x2 : Value} {M : Store} {Q : Value → Store → Prop} (h : S_grph_Reach_int_c1 x0 x1 x2 M Q) : R F.grph_Reach_int_c1 #[x0, x1, x2] M Q := by
  refine runs_of (c := bodyOf Try.f90) Try.func90 rfl (by kernel_rfl) (by kernel_rfl) ?_
  unfold At
  exact rule (B := 1000) (N := 64) (ct := (.two .no (.two .no (.two (.two .no (.two (.here 1000) .no)) (.here 1001)))))
    [⟨1002, fun a M => dfr a.defers (P_grph_Reach_int_c1_1 (a.get 0) (a.get 2) (a.get 4) (a.get 5) (a.get 16) (a.get 17) (a.get 18) M Q), fun a M => At Try.prog Ex none Try.f90 [1, 1, 0, 1, 0] a M Q⟩,
    ⟨1003, fun _ _ => False, fun a M => At Try.prog Ex none Try.f90 [1, 1, 1] a M Q⟩]
    [1000, 1001] [] (by kernel_rfl) (by kernel_rfl) (by kernel_rfl) (by kernel_rfl) (by kernel_rfl)
    ⟨fun a M hn h => by obtain ⟨⟨n, f⟩, ds⟩ := a; have hn : n = 64 := hn; subst hn; obtain ⟨hd, h⟩ := dfr_iff h; have hd : ds = [] := hd; subst hd; exact h f rfl rfl rfl rfl rfl rfl rfl,
    fun _ _ _ h => h.elim,
    trivial⟩
    (cast (by kernel_rfl) h)
def S_grph_Reach_int_c1_1 (x0 x2 x4 x5 x16 x17 x18 : Value) (M : Store) (Q : Value → Store → Prop) : Prop :=
  OP (binI .lss x18 x17) fun t19 =>
  BR t19 (
  OP (ixA 1 x16 x18) fun t20 =>
  OP (ld 1 false t20 M) fun t21 =>
  OP (mup (.int .i64) x5 t21 (.int .i64 1) M) fun M1 =>
  OP (binI .add x18 (.int .i64 1)) fun t24 =>
  P_grph_Reach_int_c1_1 x0 x2 x4 x5 x16 x17 t24 M1 Q
  ) (
  P_grph_Reach_int_c1_2 x0 x2 x4 x5 M Q
  )
theorem T_grph_Reach_int_c1_1 {x0 x2 x4 x5 x16 x17 x18 : Value} {M : Store} {Q : Value → Store → Prop} (h : S_grph_Reach_int_c1_1 x0 x2 x4 x5 x16 x17 x18 M Q) : P_grph_Reach_int_c1_1 x0 x2 x4 x5 x16 x17 x18 M Q := by
  intro f h0 h2 h4 h5 h16 h17 h18; subst h0; subst h2; subst h4; subst h5; subst h16; subst h17; subst h18
  unfold At
  refine cast (by kernel_rfl) (CW.loop (P := Try.prog) (E := Ex) (rd := none) (x := sub (bodyOf Try.f90) [1, 1, 0, 1, 0, 0]) (a := ⟨⟨64, f⟩, []⟩) (M := M) (K := kcont Try.prog Ex none (bodyOf Try.f90) [1, 1, 0, 1, 0] (kfin Try.prog Try.f90.results.toList Q)) ?_)
  exact rule (B := 1000) (N := 64) (ct := .no)
    [⟨0, fun a M => dfr a.defers (P_grph_Reach_int_c1_1 (a.get 0) (a.get 2) (a.get 4) (a.get 5) (a.get 16) (a.get 17) (a.get 18) M Q), fun a M => At Try.prog Ex none Try.f90 [1, 1, 0, 1, 0] a M Q⟩,
    ⟨2, fun a M => dfr a.defers (P_grph_Reach_int_c1_2 (a.get 0) (a.get 2) (a.get 4) (a.get 5) M Q), fun a M => At Try.prog Ex none Try.f90 [1, 1, 1] a M Q⟩]
    [] [0, 2] (by kernel_rfl) (by kernel_rfl) (by kernel_rfl) (by kernel_rfl) (by kernel_rfl)
    ⟨fun a M hn h => by obtain ⟨⟨n, f⟩, ds⟩ := a; have hn : n = 64 := hn; subst hn; obtain ⟨hd, h⟩ := dfr_iff h; have hd : ds = [] := hd; subst hd; exact h f rfl rfl rfl rfl rfl rfl rfl,
    fun a M hn h => by obtain ⟨⟨n, f⟩, ds⟩ := a; have hn : n = 64 := hn; subst hn; obtain ⟨hd, h⟩ := dfr_iff h; have hd : ds = [] := hd; subst hd; exact h f rfl rfl rfl rfl,
    trivial⟩
    (cast (by kernel_rfl) h)
def S_grph_Reach_int_c1_2 (x0 x2 x4 x5 : Value) (M : Store) (Q : Value → Store → Prop) : Prop :=
  P_grph_Reach_int_c1_3 x0 x2 x4 x5 (.int .i64 0) M Q
theorem T_grph_Reach_int_c1_2 {x0 x2 x4 x5 : Value} {M : Store} {Q : Value → Store → Prop} (h : S_grph_Reach_int_c1_2 x0 x2 x4 x5 M Q) : P_grph_Reach_int_c1_2 x0 x2 x4 x5 M Q := by
  intro f h0 h2 h4 h5; subst h0; subst h2; subst h4; subst h5
  unfold At
  exact rule (B := 1000) (N := 64) (ct := (.two .no (.two (.here 1000) .no)))
    [⟨1002, fun a M => dfr a.defers (P_grph_Reach_int_c1_3 (a.get 0) (a.get 2) (a.get 4) (a.get 5) (a.get 8) M Q), fun a M => At Try.prog Ex none Try.f90 [1, 1, 1, 1, 0] a M Q⟩]
    [1000] [] (by kernel_rfl) (by kernel_rfl) (by kernel_rfl) (by kernel_rfl) (by kernel_rfl)
    ⟨fun a M hn h => by obtain ⟨⟨n, f⟩, ds⟩ := a; have hn : n = 64 := hn; subst hn; obtain ⟨hd, h⟩ := dfr_iff h; have hd : ds = [] := hd; subst hd; exact h f rfl rfl rfl rfl rfl,
    trivial⟩
    (cast (by kernel_rfl) h)
def S_grph_Reach_int_c1_3 (x0 x2 x4 x5 x8 : Value) (M : Store) (Q : Value → Store → Prop) : Prop :=
  OP (lenV x4) fun t27 =>
  OP (binI .lss x8 t27) fun t28 =>
  BR t28 (
  P_grph_Reach_int_c1_4 x0 x2 x4 x5 x8 M Q
  ) (
  NTs [] ∧ Q (.tuple #[]) M
  )
theorem T_grph_Reach_int_c1_3 {x0 x2 x4 x5 x8 : Value} {M : Store} {Q : Value → Store → Prop} (h : S_grph_Reach_int_c1_3 x0 x2 x4 x5 x8 M Q) : P_grph_Reach_int_c1_3 x0 x2 x4 x5 x8 M Q := by
  intro f h0 h2 h4 h5 h8; subst h0; subst h2; subst h4; subst h5; subst h8
  unfold At
  refine cast (by kernel_rfl) (CW.loop (P := Try.prog) (E := Ex) (rd := none) (x := sub (bodyOf Try.f90) [1, 1, 1, 1, 0, 0]) (a := ⟨⟨64, f⟩, []⟩) (M := M) (K := kcont Try.prog Ex none (bodyOf Try.f90) [1, 1, 1, 1, 0] (kfin Try.prog Try.f90.results.toList Q)) ?_)
  exact rule (B := 1000) (N := 64) (ct := (.two .no (.here 1000)))
    [⟨1002, fun a M => dfr a.defers (P_grph_Reach_int_c1_4 (a.get 0) (a.get 2) (a.get 4) (a.get 5) (a.get 8) M Q), fun a M => At Try.prog Ex none Try.f90 [1, 1, 1, 1, 0, 0, 1] a M Q⟩,
    ⟨4, fun a M => kfin Try.prog Try.f90.results.toList Q 0 a M, fun a M => kfin Try.prog Try.f90.results.toList Q 0 a M⟩]
    [1000] [4] (by kernel_rfl) (by kernel_rfl) (by kernel_rfl) (by kernel_rfl) (by kernel_rfl)
    ⟨fun a M hn h => by obtain ⟨⟨n, f⟩, ds⟩ := a; have hn : n = 64 := hn; subst hn; obtain ⟨hd, h⟩ := dfr_iff h; have hd : ds = [] := hd; subst hd; exact h f rfl rfl rfl rfl rfl,
    fun _ _ _ h => h,
    trivial⟩
    (cast (by kernel_rfl) h)
def S_grph_Reach_int_c1_4 (x0 x2 x4 x5 x8 : Value) (M : Store) (Q : Value → Store → Prop) : Prop :=
  OP (ixA 1 x4 x8) fun t34 =>
  OP (ld 1 false t34 M) fun t35 =>
  KC x0 [t35] M fun t36 M1 =>
  OP (aun .not t36) fun t37 =>
  BR t37 (
  NTs [] ∧ Q (.tuple #[]) M1
  ) (
  OP (ld 1 false x2 M1) fun t38 =>
  OP (ixA 1 x4 x8) fun t41 =>
  OP (ld 1 false t41 M1) fun t42 =>
  KC t38 [t42] M1 fun t43 M2 =>
  TDx [0, 0, 0, 6, 14, 31, 63, 0] [M1.n, M1.n, M1.n, M1.n, M1.n, M1.n] 5 M1 M2 ∧
  OP (lenV t43) fun t44 =>
  P_grph_Reach_int_c1_5 x0 x2 x4 x5 x8 t43 t44 (.int .i64 0) M2 Q
  )
theorem T_grph_Reach_int_c1_4 {x0 x2 x4 x5 x8 : Value} {M : Store} {Q : Value → Store → Prop} (h : S_grph_Reach_int_c1_4 x0 x2 x4 x5 x8 M Q) : P_grph_Reach_int_c1_4 x0 x2 x4 x5 x8 M Q := by
  intro f h0 h2 h4 h5 h8; subst h0; subst h2; subst h4; subst h5; subst h8
  unfold At
  exact rule (B := 1000) (N := 64) (ct := (.two (.two (.two .no (.two .no (.two (.here 1000) .no))) .no) (.here 1001)))
    [⟨1002, fun a M => dfr a.defers (P_grph_Reach_int_c1_5 (a.get 0) (a.get 2) (a.get 4) (a.get 5) (a.get 8) (a.get 43) (a.get 44) (a.get 45) M Q), fun a M => At Try.prog Ex none Try.f90 [1, 1, 1, 1, 0, 0, 1, 0, 0, 1, 1, 0] a M Q⟩,
    ⟨1003, fun _ _ => False, fun a M => At Try.prog Ex none Try.f90 [1, 1, 1, 1, 0, 0, 1, 1] a M Q⟩,
    ⟨1, fun a M => kfin Try.prog Try.f90.results.toList Q 1 a M, fun a M => kfin Try.prog Try.f90.results.toList Q 1 a M⟩]
    [1000, 1001] [1] (by kernel_rfl) (by kernel_rfl) (by kernel_rfl) (by kernel_rfl) (by kernel_rfl)
    ⟨fun a M hn h => by obtain ⟨⟨n, f⟩, ds⟩ := a; have hn : n = 64 := hn; subst hn; obtain ⟨hd, h⟩ := dfr_iff h; have hd : ds = [] := hd; subst hd; exact h f rfl rfl rfl rfl rfl rfl rfl rfl,
    fun _ _ _ h => h.elim,
    fun _ _ _ h => h,
    trivial⟩
    (cast (by kernel_rfl) h)
def S_grph_Reach_int_c1_5 (x0 x2 x4 x5 x8 x43 x44 x45 : Value) (M : Store) (Q : Value → Store → Prop) : Prop :=
  OP (binI .lss x45 x44) fun t46 =>
  BR t46 (
  P_grph_Reach_int_c1_6 x0 x2 x4 x5 x8 x43 x44 x45 M Q
  ) (
  P_grph_Reach_int_c1_7 x0 x2 x4 x5 x8 M Q
  )
theorem T_grph_Reach_int_c1_5 {x0 x2 x4 x5 x8 x43 x44 x45 : Value} {M : Store} {Q : Value → Store → Prop} (h : S_grph_Reach_int_c1_5 x0 x2 x4 x5 x8 x43 x44 x45 M Q) : P_grph_Reach_int_c1_5 x0 x2 x4 x5 x8 x43 x44 x45 M Q := by
  intro f h0 h2 h4 h5 h8 h43 h44 h45; subst h0; subst h2; subst h4; subst h5; subst h8; subst h43; subst h44; subst h45
  unfold At
  refine cast (by kernel_rfl) (CW.loop (P := Try.prog) (E := Ex) (rd := none) (x := sub (bodyOf Try.f90) [1, 1, 1, 1, 0, 0, 1, 0, 0, 1, 1, 0, 0]) (a := ⟨⟨64, f⟩, []⟩) (M := M) (K := kcont Try.prog Ex none (bodyOf Try.f90) [1, 1, 1, 1, 0, 0, 1, 0, 0, 1, 1, 0] (kfin Try.prog Try.f90.results.toList Q)) ?_)
  exact rule (B := 1000) (N := 64) (ct := (.two .no (.two .no (.here 1000))))
    [⟨1002, fun a M => dfr a.defers (P_grph_Reach_int_c1_6 (a.get 0) (a.get 2) (a.get 4) (a.get 5) (a.get 8) (a.get 43) (a.get 44) (a.get 45) M Q), fun a M => At Try.prog Ex none Try.f90 [1, 1, 1, 1, 0, 0, 1, 0, 0, 1, 1, 0, 0, 1, 1] a M Q⟩,
    ⟨6, fun a M => dfr a.defers (P_grph_Reach_int_c1_7 (a.get 0) (a.get 2) (a.get 4) (a.get 5) (a.get 8) M Q), fun a M => At Try.prog Ex none Try.f90 [1, 1, 1, 1, 0, 0, 1, 1] a M Q⟩]
    [1000] [6] (by kernel_rfl) (by kernel_rfl) (by kernel_rfl) (by kernel_rfl) (by kernel_rfl)
    ⟨fun a M hn h => by obtain ⟨⟨n, f⟩, ds⟩ := a; have hn : n = 64 := hn; subst hn; obtain ⟨hd, h⟩ := dfr_iff h; have hd : ds = [] := hd; subst hd; exact h f rfl rfl rfl rfl rfl rfl rfl rfl,
    fun a M hn h => by obtain ⟨⟨n, f⟩, ds⟩ := a; have hn : n = 64 := hn; subst hn; obtain ⟨hd, h⟩ := dfr_iff h; have hd : ds = [] := hd; subst hd; exact h f rfl rfl rfl rfl rfl,
    trivial⟩
    (cast (by kernel_rfl) h)
def S_grph_Reach_int_c1_6 (x0 x2 x4 x5 x8 x43 x44 x45 : Value) (M : Store) (Q : Value → Store → Prop) : Prop :=
  OP (ixA 1 x43 x45) fun t47 =>
  OP (ld 1 false t47 M) fun t48 =>
  OP (lku (.int .i64) (.int .i64 0) x5 t48 true M) fun t52 =>
  OP (tup t52 0) fun t53 =>
  OP (tup t52 1) fun t54 =>
  OP (aun .not t54) fun t56 =>
  BR t56 (
  OP (mup (.int .i64) x5 t48 (.int .i64 1) M) fun M1 =>
  OP (bldL (.int .i64 0) 1 1 [(0, t48)]) fun c =>
  LT (.slice (some ⟨M1.n, 0, none⟩) 1 1) (M1.push (some (.inl (c, Ty.int, true)))) fun t61 M2 =>
  OP2 (appV 1 Ty.int x4 t61 M2) fun t62 M3 =>
  OP (binI .add x45 (.int .i64 1)) fun t63 =>
  P_grph_Reach_int_c1_5 x0 x2 t62 x5 x8 x43 x44 t63 M3 Q
  ) (
  OP (binI .add x45 (.int .i64 1)) fun t63_1 =>
  P_grph_Reach_int_c1_5 x0 x2 x4 x5 x8 x43 x44 t63_1 M Q
  )
theorem T_grph_Reach_int_c1_6 {x0 x2 x4 x5 x8 x43 x44 x45 : Value} {M : Store} {Q : Value → Store → Prop} (h : S_grph_Reach_int_c1_6 x0 x2 x4 x5 x8 x43 x44 x45 M Q) : P_grph_Reach_int_c1_6 x0 x2 x4 x5 x8 x43 x44 x45 M Q := by
  intro f h0 h2 h4 h5 h8 h43 h44 h45; subst h0; subst h2; subst h4; subst h5; subst h8; subst h43; subst h44; subst h45
  unfold At
  exact rule (B := 1000) (N := 64) (ct := .no)
    [⟨0, fun a M => dfr a.defers (P_grph_Reach_int_c1_5 (a.get 0) (a.get 2) (a.get 4) (a.get 5) (a.get 8) (a.get 43) (a.get 44) (a.get 45) M Q), fun a M => At Try.prog Ex none Try.f90 [1, 1, 1, 1, 0, 0, 1, 0, 0, 1, 1, 0] a M Q⟩]
    [] [0] (by kernel_rfl) (by kernel_rfl) (by kernel_rfl) (by kernel_rfl) (by kernel_rfl)
    ⟨fun a M hn h => by obtain ⟨⟨n, f⟩, ds⟩ := a; have hn : n = 64 := hn; subst hn; obtain ⟨hd, h⟩ := dfr_iff h; have hd : ds = [] := hd; subst hd; exact h f rfl rfl rfl rfl rfl rfl rfl rfl,
    trivial⟩
    (cast (by kernel_rfl) h)
def S_grph_Reach_int_c1_7 (x0 x2 x4 x5 x8 : Value) (M : Store) (Q : Value → Store → Prop) : Prop :=
  OP (binI .add x8 (.int .i64 1)) fun t30 =>
  P_grph_Reach_int_c1_3 x0 x2 x4 x5 t30 M Q
theorem T_grph_Reach_int_c1_7 {x0 x2 x4 x5 x8 : Value} {M : Store} {Q : Value → Store → Prop} (h : S_grph_Reach_int_c1_7 x0 x2 x4 x5 x8 M Q) : P_grph_Reach_int_c1_7 x0 x2 x4 x5 x8 M Q := by
  intro f h0 h2 h4 h5 h8; subst h0; subst h2; subst h4; subst h5; subst h8
  unfold At
  exact rule (B := 1000) (N := 64) (ct := .no)
    [⟨0, fun a M => dfr a.defers (P_grph_Reach_int_c1_3 (a.get 0) (a.get 2) (a.get 4) (a.get 5) (a.get 8) M Q), fun a M => At Try.prog Ex none Try.f90 [1, 1, 1, 1, 0] a M Q⟩]
    [] [0] (by kernel_rfl) (by kernel_rfl) (by kernel_rfl) (by kernel_rfl) (by kernel_rfl)
    ⟨fun a M hn h => by obtain ⟨⟨n, f⟩, ds⟩ := a; have hn : n = 64 := hn; subst hn; obtain ⟨hd, h⟩ := dfr_iff h; have hd : ds = [] := hd; subst hd; exact h f rfl rfl rfl rfl rfl,
    trivial⟩
    (cast (by kernel_rfl) h)
def S_slices_ContainsFunc_sl_int_int (x0 x1 : Value) (M : Store) (Q : Value → Store → Prop) : Prop :=
  R F.slices_IndexFunc_sl_int_int #[x0, x1] M fun t7 M1 =>
  OP (binI .geq t7 (.int .i64 0)) fun t8 =>
  NTs [t8] ∧ Q t8 M1
theorem T_slices_ContainsFunc_sl_int_int {x0 x1 : Value} {M : Store} {Q : Value → Store → Prop} (h : S_slices_ContainsFunc_sl_int_int x0 x1 M Q) : R F.slices_ContainsFunc_sl_int_int #[x0, x1] M Q := by
  refine runs_of (c := bodyOf Try.f114) Try.func114 rfl (by kernel_rfl) (by kernel_rfl) ?_
  unfold At
  exact rule (B := 1000) (N := 9) (ct := .no)
    [⟨1, fun a M => kfin Try.prog Try.f114.results.toList Q 1 a M, fun a M => kfin Try.prog Try.f114.results.toList Q 1 a M⟩]
    [] [1] (by kernel_rfl) (by kernel_rfl) (by kernel_rfl) (by kernel_rfl) (by kernel_rfl)
    ⟨fun _ _ _ h => h,
    trivial⟩
    (cast (by kernel_rfl) h)
def S_grph_next_c1 (x0 x1 : Value) (M : Store) (Q : Value → Store → Prop) : Prop :=
  OP (ld 1 false x1 M) fun t4 =>
  OP (ixA 1 t4 x0) fun t6 =>
  OP (ld 1 false t6 M) fun t7 =>
  OP (aun .not t7) fun t8 =>
  NTs [t8] ∧ Q t8 M
theorem T_grph_next_c1 {x0 x1 : Value} {M : Store} {Q : Value → Store → Prop} (h : S_grph_next_c1 x0 x1 M Q) : R F.grph_next_c1 #[x0, x1] M Q := by
  refine runs_of (c := bodyOf Try.f115) Try.func115 rfl (by kernel_rfl) (by kernel_rfl) ?_
  unfold At
  exact rule (B := 1000) (N := 9) (ct := .no)
    [⟨1, fun a M => kfin Try.prog Try.f115.results.toList Q 1 a M, fun a M => kfin Try.prog Try.f115.results.toList Q 1 a M⟩]
    [] [1] (by kernel_rfl) (by kernel_rfl) (by kernel_rfl) (by kernel_rfl) (by kernel_rfl)
    ⟨fun _ _ _ h => h,
    trivial⟩
    (cast (by kernel_rfl) h)
def P_slices_IndexFunc_sl_int_int_1 (x0 x1 x7 x8 : Value) (M : Store) (Q : Value → Store → Prop) : Prop :=
  ∀ f : Nat → Value, f 0 = x0 → f 1 = x1 → f 7 = x7 → f 8 = x8 → At Try.prog Ex none Try.f132 [1, 0, 1, 0] ⟨⟨19, f⟩, []⟩ M Q
def P_slices_IndexFunc_sl_int_int_2 (M : Store) (Q : Value → Store → Prop) : Prop :=
  ∀ f : Nat → Value, At Try.prog Ex none Try.f132 [1, 1] ⟨⟨19, f⟩, []⟩ M Q
def S_slices_IndexFunc_sl_int_int (x0 x1 : Value) (M : Store) (Q : Value → Store → Prop) : Prop :=
  OP (lenV x0) fun t7 =>
  P_slices_IndexFunc_sl_int_int_1 x0 x1 t7 (.int .i64 0) M Q
theorem T_slices_IndexFunc_sl_int_int {x0 x1 : Value} {M : Store} {Q : Value → Store → Prop} (h : S_slices_IndexFunc_sl_int_int x0 x1 M Q) : R F.slices_IndexFunc_sl_int_int #[x0, x1] M Q := by
  refine runs_of (c := bodyOf Try.f132) Try.func132 rfl (by kernel_rfl) (by kernel_rfl) ?_
  unfold At
  exact rule (B := 1000) (N := 19) (ct := (.two .no (.two (.two .no (.two (.here 1000) .no)) (.here 1001))))
    [⟨1002, fun a M => dfr a.defers (P_slices_IndexFunc_sl_int_int_1 (a.get 0) (a.get 1) (a.get 7) (a.get 8) M Q), fun a M => At Try.prog Ex none Try.f132 [1, 0, 1, 0] a M Q⟩,
    ⟨1003, fun _ _ => False, fun a M => At Try.prog Ex none Try.f132 [1, 1] a M Q⟩]
    [1000, 1001] [] (by kernel_rfl) (by kernel_rfl) (by kernel_rfl) (by kernel_rfl) (by kernel_rfl)
    ⟨fun a M hn h => by obtain ⟨⟨n, f⟩, ds⟩ := a; have hn : n = 19 := hn; subst hn; obtain ⟨hd, h⟩ := dfr_iff h; have hd : ds = [] := hd; subst hd; exact h f rfl rfl rfl rfl,
    fun _ _ _ h => h.elim,
    trivial⟩
    (cast (by kernel_rfl) h)
def S_slices_IndexFunc_sl_int_int_1 (x0 x1 x7 x8 : Value) (M : Store) (Q : Value → Store → Prop) : Prop :=
  OP (binI .lss x8 x7) fun t9 =>
  BR t9 (
  OP (ixA 1 x0 x8) fun t14 =>
  OP (ld 1 false t14 M) fun t15 =>
  KC x1 [t15] M fun t16 M1 =>
  BR t16 (
  NTs [x8] ∧ Q x8 M1
  ) (
  OP (binI .add x8 (.int .i64 1)) fun t18 =>
  P_slices_IndexFunc_sl_int_int_1 x0 x1 x7 t18 M1 Q
  )
  ) (
  P_slices_IndexFunc_sl_int_int_2 M Q
  )
theorem T_slices_IndexFunc_sl_int_int_1 {x0 x1 x7 x8 : Value} {M : Store} {Q : Value → Store → Prop} (h : S_slices_IndexFunc_sl_int_int_1 x0 x1 x7 x8 M Q) : P_slices_IndexFunc_sl_int_int_1 x0 x1 x7 x8 M Q := by
  intro f h0 h1 h7 h8; subst h0; subst h1; subst h7; subst h8
  unfold At
  refine cast (by kernel_rfl) (CW.loop (P := Try.prog) (E := Ex) (rd := none) (x := sub (bodyOf Try.f132) [1, 0, 1, 0, 0]) (a := ⟨⟨19, f⟩, []⟩) (M := M) (K := kcont Try.prog Ex none (bodyOf Try.f132) [1, 0, 1, 0] (kfin Try.prog Try.f132.results.toList Q)) ?_)
  exact rule (B := 1000) (N := 19) (ct := .no)
    [⟨0, fun a M => dfr a.defers (P_slices_IndexFunc_sl_int_int_1 (a.get 0) (a.get 1) (a.get 7) (a.get 8) M Q), fun a M => At Try.prog Ex none Try.f132 [1, 0, 1, 0] a M Q⟩,
    ⟨1, fun a M => kfin Try.prog Try.f132.results.toList Q 1 a M, fun a M => kfin Try.prog Try.f132.results.toList Q 1 a M⟩,
    ⟨2, fun a M => dfr a.defers (P_slices_IndexFunc_sl_int_int_2 M Q), fun a M => At Try.prog Ex none Try.f132 [1, 1] a M Q⟩]
    [] [0, 1, 2] (by kernel_rfl) (by kernel_rfl) (by kernel_rfl) (by kernel_rfl) (by kernel_rfl)
    ⟨fun a M hn h => by obtain ⟨⟨n, f⟩, ds⟩ := a; have hn : n = 19 := hn; subst hn; obtain ⟨hd, h⟩ := dfr_iff h; have hd : ds = [] := hd; subst hd; exact h f rfl rfl rfl rfl,
    fun _ _ _ h => h,
    fun a M hn h => by obtain ⟨⟨n, f⟩, ds⟩ := a; have hn : n = 19 := hn; subst hn; obtain ⟨hd, h⟩ := dfr_iff h; have hd : ds = [] := hd; subst hd; exact h f,
    trivial⟩
    (cast (by kernel_rfl) h)
def S_slices_IndexFunc_sl_int_int_2 (M : Store) (Q : Value → Store → Prop) : Prop :=
  NTs [(.int .i64 (-1))] ∧ Q (.int .i64 (-1)) M
theorem T_slices_IndexFunc_sl_int_int_2 {M : Store} {Q : Value → Store → Prop} (h : S_slices_IndexFunc_sl_int_int_2 M Q) : P_slices_IndexFunc_sl_int_int_2 M Q := by
  intro f 
  unfold At
  exact rule (B := 1000) (N := 19) (ct := .no)
    [⟨1, fun a M => kfin Try.prog Try.f132.results.toList Q 1 a M, fun a M => kfin Try.prog Try.f132.results.toList Q 1 a M⟩]
    [] [1] (by kernel_rfl) (by kernel_rfl) (by kernel_rfl) (by kernel_rfl) (by kernel_rfl)
    ⟨fun _ _ _ h => h,
    trivial⟩
    (cast (by kernel_rfl) h)
end Go.G
