/-  -/
import Derived.Test.YtnonfejhkbaikaaPGN
open Go.RowKit
namespace Go.G
open Go.Ab Go.Proofs
set_option linter.unusedVariables false
set_option maxRecDepth 100000
def P_fettlelaw8_GrphReach_1 (ds : List Deferred) (x0 x5 x7 x8 x9 x10 : Value) (M : Store) (Q : Value → Store → Prop) : Prop :=
  ∀ f : Nat → Value, f 0 = x0 → f 5 = x5 → f 7 = x7 → f 8 = x8 → f 9 = x9 → f 10 = x10 → At Try.prog Ex none Try.f5 [1, 1, 1, 1, 0, 1, 0] ⟨⟨119, f⟩, ds⟩ M Q
def P_fettlelaw8_GrphReach_2 (ds : List Deferred) (x0 x5 x7 x8 x9 x10 : Value) (M : Store) (Q : Value → Store → Prop) : Prop :=
  ∀ f : Nat → Value, f 0 = x0 → f 5 = x5 → f 7 = x7 → f 8 = x8 → f 9 = x9 → f 10 = x10 → At Try.prog Ex none Try.f5 [1, 1, 1, 1, 0, 1, 0, 0, 1] ⟨⟨119, f⟩, ds⟩ M Q
def P_fettlelaw8_GrphReach_3 (ds : List Deferred) (x5 x7 x8 x9 : Value) (M : Store) (Q : Value → Store → Prop) : Prop :=
  ∀ f : Nat → Value, f 5 = x5 → f 7 = x7 → f 8 = x8 → f 9 = x9 → At Try.prog Ex none Try.f5 [1, 1, 1, 1, 1] ⟨⟨119, f⟩, ds⟩ M Q
def P_fettlelaw8_GrphReach_4 (ds : List Deferred) (x5 x7 x8 x9 x12 x13 : Value) (M : Store) (Q : Value → Store → Prop) : Prop :=
  ∀ f : Nat → Value, f 5 = x5 → f 7 = x7 → f 8 = x8 → f 9 = x9 → f 12 = x12 → f 13 = x13 → At Try.prog Ex none Try.f5 [1, 1, 1, 1, 1, 1, 0, 1, 0] ⟨⟨119, f⟩, ds⟩ M Q
def P_fettlelaw8_GrphReach_5 (ds : List Deferred) (x5 x7 x8 x9 x12 x13 : Value) (M : Store) (Q : Value → Store → Prop) : Prop :=
  ∀ f : Nat → Value, f 5 = x5 → f 7 = x7 → f 8 = x8 → f 9 = x9 → f 12 = x12 → f 13 = x13 → At Try.prog Ex none Try.f5 [1, 1, 1, 1, 1, 1, 0, 1, 0, 0, 1] ⟨⟨119, f⟩, ds⟩ M Q
def P_fettlelaw8_GrphReach_6 (ds : List Deferred) (x5 x7 x8 x12 : Value) (M : Store) (Q : Value → Store → Prop) : Prop :=
  ∀ f : Nat → Value, f 5 = x5 → f 7 = x7 → f 8 = x8 → f 12 = x12 → At Try.prog Ex none Try.f5 [1, 1, 1, 1, 1, 1, 1] ⟨⟨119, f⟩, ds⟩ M Q
def P_fettlelaw8_GrphReach_7 (ds : List Deferred) (x5 x7 x8 x9 x12 x13 x63 x64 x65 : Value) (M : Store) (Q : Value → Store → Prop) : Prop :=
  ∀ f : Nat → Value, f 5 = x5 → f 7 = x7 → f 8 = x8 → f 9 = x9 → f 12 = x12 → f 13 = x13 → f 63 = x63 → f 64 = x64 → f 65 = x65 → At Try.prog Ex none Try.f5 [1, 1, 1, 1, 1, 1, 0, 1, 0, 0, 1, 0, 0, 1, 0] ⟨⟨119, f⟩, ds⟩ M Q
def P_fettlelaw8_GrphReach_8 (ds : List Deferred) (x5 x8 x16 x17 x18 x87 : Value) (M : Store) (Q : Value → Store → Prop) : Prop :=
  ∀ f : Nat → Value, f 5 = x5 → f 8 = x8 → f 16 = x16 → f 17 = x17 → f 18 = x18 → f 87 = x87 → At Try.prog Ex none Try.f5 [1, 1, 1, 1, 1, 1, 1, 1, 1, 1, 1, 0, 1, 0] ⟨⟨119, f⟩, ds⟩ M Q
def P_fettlelaw8_GrphReach_9 (ds : List Deferred) (x5 x7 x8 x9 x12 x13 x63 x64 x65 : Value) (M : Store) (Q : Value → Store → Prop) : Prop :=
  ∀ f : Nat → Value, f 5 = x5 → f 7 = x7 → f 8 = x8 → f 9 = x9 → f 12 = x12 → f 13 = x13 → f 63 = x63 → f 64 = x64 → f 65 = x65 → At Try.prog Ex none Try.f5 [1, 1, 1, 1, 1, 1, 0, 1, 0, 0, 1, 0, 0, 1, 0, 0, 1, 1] ⟨⟨119, f⟩, ds⟩ M Q
def P_fettlelaw8_GrphReach_10 (ds : List Deferred) (x5 x7 x8 x9 x12 x13 : Value) (M : Store) (Q : Value → Store → Prop) : Prop :=
  ∀ f : Nat → Value, f 5 = x5 → f 7 = x7 → f 8 = x8 → f 9 = x9 → f 12 = x12 → f 13 = x13 → At Try.prog Ex none Try.f5 [1, 1, 1, 1, 1, 1, 0, 1, 0, 0, 1, 1] ⟨⟨119, f⟩, ds⟩ M Q
def P_fettlelaw8_GrphReach_11 (l : Nat) (x5 x17 x19 : Value) (M : Store) (Q : Value → Store → Prop) : Prop :=
  ∀ f : Nat → Value, f 5 = x5 → f 17 = x17 → f 19 = x19 → AtY Try.prog Ex l Try.f5 [1, 1, 1, 1, 1, 1, 1, 1, 1, 1, 1, 0, 1, 0, 1] [] ⟨⟨119, f⟩, []⟩ M Q
def P_fettlelaw8_GrphReach_12 (ds : List Deferred) (x5 x8 x16 x17 x18 : Value) (M : Store) (Q : Value → Store → Prop) : Prop :=
  ∀ f : Nat → Value, f 5 = x5 → f 8 = x8 → f 16 = x16 → f 17 = x17 → f 18 = x18 → At Try.prog Ex none Try.f5 [1, 1, 1, 1, 1, 1, 1, 1, 1, 1, 1, 1] ⟨⟨119, f⟩, ds⟩ M Q
def P_fettlelaw8_GrphReach_13 (ds : List Deferred) (x5 x8 x17 x18 x97 : Value) (M : Store) (Q : Value → Store → Prop) : Prop :=
  ∀ f : Nat → Value, f 5 = x5 → f 8 = x8 → f 17 = x17 → f 18 = x18 → f 97 = x97 → At Try.prog Ex none Try.f5 [1, 1, 1, 1, 1, 1, 1, 1, 1, 1, 1, 1, 0, 1, 0] ⟨⟨119, f⟩, ds⟩ M Q
def P_fettlelaw8_GrphReach_14 (l : Nat) (x18 x20 : Value) (M : Store) (Q : Value → Store → Prop) : Prop :=
  ∀ f : Nat → Value, f 18 = x18 → f 20 = x20 → AtY Try.prog Ex l Try.f5 [1, 1, 1, 1, 1, 1, 1, 1, 1, 1, 1, 1, 0, 1, 0, 1] [] ⟨⟨119, f⟩, []⟩ M Q
def P_fettlelaw8_GrphReach_15 (ds : List Deferred) (x5 x8 x17 x18 : Value) (M : Store) (Q : Value → Store → Prop) : Prop :=
  ∀ f : Nat → Value, f 5 = x5 → f 8 = x8 → f 17 = x17 → f 18 = x18 → At Try.prog Ex none Try.f5 [1, 1, 1, 1, 1, 1, 1, 1, 1, 1, 1, 1, 1] ⟨⟨119, f⟩, ds⟩ M Q
def S_fettlelaw8_GrphReach (x0 x1 x2 : Value) (M : Store) (Q : Value → Store → Prop) : Prop :=
  OP (boxv x2) fun c =>
  LT (.pointer (some ⟨M.n, 0, none⟩)) (M.push (some (.inl (c, Ty.int, true)))) fun t5 M1 =>
  R F.fettlelaw8_edges #[x1, (.bool true)] M1 fun t22 M2 =>
  LT (.pointer (some ⟨M2.n, 0, none⟩)) (M2.push (some (.inl ([(.slice none 0 0), (.slice none 0 0), (.slice none 0 0), (.slice none 0 0), (.slice none 0 0), (.slice none 0 0), (.slice none 0 0), (.slice none 0 0), (.slice none 0 0), (.slice none 0 0), (.slice none 0 0), (.slice none 0 0), (.slice none 0 0), (.slice none 0 0), (.slice none 0 0), (.slice none 0 0)], Ty.a16_sl_int, true)))) fun t7 M3 =>
  OP (st 16 t7 t22 M3) fun M4 =>
  LT (.map (some M4.n)) (M4.push (some (.inr (.inl [])))) fun t23 M5 =>
  P_fettlelaw8_GrphReach_1 [] x0 t5 t7 (.slice none 0 0) t23 (.int .i64 0) M5 Q
theorem T_fettlelaw8_GrphReach {x0 x1 x2 : Value} {M : Store} {Q : Value → Store → Prop} (h : S_fettlelaw8_GrphReach x0 x1 x2 M Q) : R F.fettlelaw8_GrphReach #[x0, x1, x2] M Q := by
  refine runs_of (c := bodyOf Try.f5) Try.func5 rfl (by kernel_rfl) (by kernel_rfl) ?_
  unfold At
  exact rule (B := 1000) (N := 119) (ct := (.two .no (.two .no (.two .no (.two .no (.two (.two .no (.two (.here 1000) .no)) (.here 1001)))))))
    [⟨1002, fun a M => P_fettlelaw8_GrphReach_1 a.defers (a.get 0) (a.get 5) (a.get 7) (a.get 8) (a.get 9) (a.get 10) M Q, fun a M => At Try.prog Ex none Try.f5 [1, 1, 1, 1, 0, 1, 0] a M Q⟩,
    ⟨1003, fun _ _ => False, fun a M => At Try.prog Ex none Try.f5 [1, 1, 1, 1, 1] a M Q⟩]
    [1000, 1001] [] (by kernel_rfl) (by kernel_rfl) (by kernel_rfl) (by kernel_rfl) (by kernel_rfl)
    ⟨fun a M hn h => by obtain ⟨⟨n, f⟩, ds⟩ := a; have hn : n = 119 := hn; subst hn; exact h f rfl rfl rfl rfl rfl rfl,
    fun _ _ _ h => h.elim,
    trivial⟩
    (cast (by kernel_rfl) h)
def S_fettlelaw8_GrphReach_1 (ds : List Deferred) (x0 x5 x7 x8 x9 x10 : Value) (M : Store) (Q : Value → Store → Prop) : Prop :=
  OP (lenV x0) fun t26 =>
  OP (binI .lss x10 t26) fun t27 =>
  BR t27 (
  OP (binI .lss x10 (.int .i64 10)) fun t30 =>
  BR t30 (
  P_fettlelaw8_GrphReach_2 ds x0 x5 x7 x8 x9 x10 M Q
  ) (
  P_fettlelaw8_GrphReach_3 ds x5 x7 x8 x9 M Q
  )
  ) (
  P_fettlelaw8_GrphReach_3 ds x5 x7 x8 x9 M Q
  )
theorem T_fettlelaw8_GrphReach_1 {ds : List Deferred} {x0 x5 x7 x8 x9 x10 : Value} {M : Store} {Q : Value → Store → Prop} (h : S_fettlelaw8_GrphReach_1 ds x0 x5 x7 x8 x9 x10 M Q) : P_fettlelaw8_GrphReach_1 ds x0 x5 x7 x8 x9 x10 M Q := by
  intro f h0 h5 h7 h8 h9 h10; subst h0; subst h5; subst h7; subst h8; subst h9; subst h10
  unfold At
  refine cast (by kernel_rfl) (CW.loop (P := Try.prog) (E := Ex) (rd := none) (x := sub (bodyOf Try.f5) [1, 1, 1, 1, 0, 1, 0, 0]) (a := ⟨⟨119, f⟩, ds⟩) (M := M) (K := kcont Try.prog Ex none (bodyOf Try.f5) [1, 1, 1, 1, 0, 1, 0] (kfin Try.prog Try.f5.results.toList Q)) ?_)
  exact rule (B := 1000) (N := 119) (ct := (.two .no (.here 1000)))
    [⟨1002, fun a M => P_fettlelaw8_GrphReach_2 a.defers (a.get 0) (a.get 5) (a.get 7) (a.get 8) (a.get 9) (a.get 10) M Q, fun a M => At Try.prog Ex none Try.f5 [1, 1, 1, 1, 0, 1, 0, 0, 1] a M Q⟩,
    ⟨2, fun a M => P_fettlelaw8_GrphReach_3 a.defers (a.get 5) (a.get 7) (a.get 8) (a.get 9) M Q, fun a M => At Try.prog Ex none Try.f5 [1, 1, 1, 1, 1] a M Q⟩]
    [1000] [2] (by kernel_rfl) (by kernel_rfl) (by kernel_rfl) (by kernel_rfl) (by kernel_rfl)
    ⟨fun a M hn h => by obtain ⟨⟨n, f⟩, ds⟩ := a; have hn : n = 119 := hn; subst hn; exact h f rfl rfl rfl rfl rfl rfl,
    fun a M hn h => by obtain ⟨⟨n, f⟩, ds⟩ := a; have hn : n = 119 := hn; subst hn; exact h f rfl rfl rfl rfl,
    trivial⟩
    (cast (by kernel_rfl) h)
def S_fettlelaw8_GrphReach_2 (ds : List Deferred) (x0 x5 x7 x8 x9 x10 : Value) (M : Store) (Q : Value → Store → Prop) : Prop :=
  OP (ixA 1 x0 x10) fun t36 =>
  OP (ld 1 false t36 M) fun t37 =>
  OP (binI .and t37 (.int .i64 15)) fun t38 =>
  OP (lku (.int .i64) (.bool false) x9 t38 false M) fun t41 =>
  OP (aun .not t41) fun t42 =>
  BR t42 (
  OP (mup (.int .i64) x9 t38 (.bool true) M) fun M1 =>
  OP (bldL (.int .i64 0) 1 1 [(0, t38)]) fun c =>
  LT (.slice (some ⟨M1.n, 0, none⟩) 1 1) (M1.push (some (.inl (c, Ty.int, true)))) fun t47 M2 =>
  OP2 (appV 1 Ty.int x8 t47 M2) fun t48 M3 =>
  OP (binI .add x10 (.int .i64 1)) fun t33 =>
  P_fettlelaw8_GrphReach_1 ds x0 x5 x7 t48 x9 t33 M3 Q
  ) (
  OP (binI .add x10 (.int .i64 1)) fun t33_1 =>
  P_fettlelaw8_GrphReach_1 ds x0 x5 x7 x8 x9 t33_1 M Q
  )
theorem T_fettlelaw8_GrphReach_2 {ds : List Deferred} {x0 x5 x7 x8 x9 x10 : Value} {M : Store} {Q : Value → Store → Prop} (h : S_fettlelaw8_GrphReach_2 ds x0 x5 x7 x8 x9 x10 M Q) : P_fettlelaw8_GrphReach_2 ds x0 x5 x7 x8 x9 x10 M Q := by
  intro f h0 h5 h7 h8 h9 h10; subst h0; subst h5; subst h7; subst h8; subst h9; subst h10
  unfold At
  exact rule (B := 1000) (N := 119) (ct := .no)
    [⟨0, fun a M => P_fettlelaw8_GrphReach_1 a.defers (a.get 0) (a.get 5) (a.get 7) (a.get 8) (a.get 9) (a.get 10) M Q, fun a M => At Try.prog Ex none Try.f5 [1, 1, 1, 1, 0, 1, 0] a M Q⟩]
    [] [0] (by kernel_rfl) (by kernel_rfl) (by kernel_rfl) (by kernel_rfl) (by kernel_rfl)
    ⟨fun a M hn h => by obtain ⟨⟨n, f⟩, ds⟩ := a; have hn : n = 119 := hn; subst hn; exact h f rfl rfl rfl rfl rfl rfl,
    trivial⟩
    (cast (by kernel_rfl) h)
def S_fettlelaw8_GrphReach_3 (ds : List Deferred) (x5 x7 x8 x9 : Value) (M : Store) (Q : Value → Store → Prop) : Prop :=
  OP (bldL (.int .i64 0) 1 0 []) fun c =>
  LT (.slice (some ⟨M.n, 0, none⟩) 0 0) (M.push (some (.inl (c, Ty.int, true)))) fun t49 M1 =>
  OP2 (appV 1 Ty.int t49 x8 M1) fun t51 M2 =>
  P_fettlelaw8_GrphReach_4 ds x5 x7 x8 x9 t51 (.int .i64 0) M2 Q
theorem T_fettlelaw8_GrphReach_3 {ds : List Deferred} {x5 x7 x8 x9 : Value} {M : Store} {Q : Value → Store → Prop} (h : S_fettlelaw8_GrphReach_3 ds x5 x7 x8 x9 M Q) : P_fettlelaw8_GrphReach_3 ds x5 x7 x8 x9 M Q := by
  intro f h5 h7 h8 h9; subst h5; subst h7; subst h8; subst h9
  unfold At
  exact rule (B := 1000) (N := 119) (ct := (.two .no (.two (.two .no (.two (.here 1000) .no)) (.here 1001))))
    [⟨1002, fun a M => P_fettlelaw8_GrphReach_4 a.defers (a.get 5) (a.get 7) (a.get 8) (a.get 9) (a.get 12) (a.get 13) M Q, fun a M => At Try.prog Ex none Try.f5 [1, 1, 1, 1, 1, 1, 0, 1, 0] a M Q⟩,
    ⟨1003, fun _ _ => False, fun a M => At Try.prog Ex none Try.f5 [1, 1, 1, 1, 1, 1, 1] a M Q⟩]
    [1000, 1001] [] (by kernel_rfl) (by kernel_rfl) (by kernel_rfl) (by kernel_rfl) (by kernel_rfl)
    ⟨fun a M hn h => by obtain ⟨⟨n, f⟩, ds⟩ := a; have hn : n = 119 := hn; subst hn; exact h f rfl rfl rfl rfl rfl rfl,
    fun _ _ _ h => h.elim,
    trivial⟩
    (cast (by kernel_rfl) h)
def S_fettlelaw8_GrphReach_4 (ds : List Deferred) (x5 x7 x8 x9 x12 x13 : Value) (M : Store) (Q : Value → Store → Prop) : Prop :=
  OP (lenV x8) fun t54 =>
  OP (binI .lss x13 t54) fun t55 =>
  BR t55 (
  P_fettlelaw8_GrphReach_5 ds x5 x7 x8 x9 x12 x13 M Q
  ) (
  P_fettlelaw8_GrphReach_6 ds x5 x7 x8 x12 M Q
  )
theorem T_fettlelaw8_GrphReach_4 {ds : List Deferred} {x5 x7 x8 x9 x12 x13 : Value} {M : Store} {Q : Value → Store → Prop} (h : S_fettlelaw8_GrphReach_4 ds x5 x7 x8 x9 x12 x13 M Q) : P_fettlelaw8_GrphReach_4 ds x5 x7 x8 x9 x12 x13 M Q := by
  intro f h5 h7 h8 h9 h12 h13; subst h5; subst h7; subst h8; subst h9; subst h12; subst h13
  unfold At
  refine cast (by kernel_rfl) (CW.loop (P := Try.prog) (E := Ex) (rd := none) (x := sub (bodyOf Try.f5) [1, 1, 1, 1, 1, 1, 0, 1, 0, 0]) (a := ⟨⟨119, f⟩, ds⟩) (M := M) (K := kcont Try.prog Ex none (bodyOf Try.f5) [1, 1, 1, 1, 1, 1, 0, 1, 0] (kfin Try.prog Try.f5.results.toList Q)) ?_)
  exact rule (B := 1000) (N := 119) (ct := (.two .no (.here 1000)))
    [⟨1002, fun a M => P_fettlelaw8_GrphReach_5 a.defers (a.get 5) (a.get 7) (a.get 8) (a.get 9) (a.get 12) (a.get 13) M Q, fun a M => At Try.prog Ex none Try.f5 [1, 1, 1, 1, 1, 1, 0, 1, 0, 0, 1] a M Q⟩,
    ⟨4, fun a M => P_fettlelaw8_GrphReach_6 a.defers (a.get 5) (a.get 7) (a.get 8) (a.get 12) M Q, fun a M => At Try.prog Ex none Try.f5 [1, 1, 1, 1, 1, 1, 1] a M Q⟩]
    [1000] [4] (by kernel_rfl) (by kernel_rfl) (by kernel_rfl) (by kernel_rfl) (by kernel_rfl)
    ⟨fun a M hn h => by obtain ⟨⟨n, f⟩, ds⟩ := a; have hn : n = 119 := hn; subst hn; exact h f rfl rfl rfl rfl rfl rfl,
    fun a M hn h => by obtain ⟨⟨n, f⟩, ds⟩ := a; have hn : n = 119 := hn; subst hn; exact h f rfl rfl rfl rfl,
    trivial⟩
    (cast (by kernel_rfl) h)
def S_fettlelaw8_GrphReach_5 (ds : List Deferred) (x5 x7 x8 x9 x12 x13 : Value) (M : Store) (Q : Value → Store → Prop) : Prop :=
  OP (ixA 1 x8 x13) fun t60 =>
  OP (ld 1 false t60 M) fun t61 =>
  OP (ixP 1 16 x7 t61) fun t62 =>
  OP (ld 1 false t62 M) fun t63 =>
  OP (lenV t63) fun t64 =>
  P_fettlelaw8_GrphReach_7 ds x5 x7 x8 x9 x12 x13 t63 t64 (.int .i64 0) M Q
theorem T_fettlelaw8_GrphReach_5 {ds : List Deferred} {x5 x7 x8 x9 x12 x13 : Value} {M : Store} {Q : Value → Store → Prop} (h : S_fettlelaw8_GrphReach_5 ds x5 x7 x8 x9 x12 x13 M Q) : P_fettlelaw8_GrphReach_5 ds x5 x7 x8 x9 x12 x13 M Q := by
  intro f h5 h7 h8 h9 h12 h13; subst h5; subst h7; subst h8; subst h9; subst h12; subst h13
  unfold At
  exact rule (B := 1000) (N := 119) (ct := (.two (.two (.two .no (.two (.here 1000) .no)) .no) (.here 1001)))
    [⟨1002, fun a M => P_fettlelaw8_GrphReach_7 a.defers (a.get 5) (a.get 7) (a.get 8) (a.get 9) (a.get 12) (a.get 13) (a.get 63) (a.get 64) (a.get 65) M Q, fun a M => At Try.prog Ex none Try.f5 [1, 1, 1, 1, 1, 1, 0, 1, 0, 0, 1, 0, 0, 1, 0] a M Q⟩,
    ⟨1003, fun _ _ => False, fun a M => At Try.prog Ex none Try.f5 [1, 1, 1, 1, 1, 1, 0, 1, 0, 0, 1, 1] a M Q⟩]
    [1000, 1001] [] (by kernel_rfl) (by kernel_rfl) (by kernel_rfl) (by kernel_rfl) (by kernel_rfl)
    ⟨fun a M hn h => by obtain ⟨⟨n, f⟩, ds⟩ := a; have hn : n = 119 := hn; subst hn; exact h f rfl rfl rfl rfl rfl rfl rfl rfl rfl,
    fun _ _ _ h => h.elim,
    trivial⟩
    (cast (by kernel_rfl) h)
def S_fettlelaw8_GrphReach_6 (ds : List Deferred) (x5 x7 x8 x12 : Value) (M : Store) (Q : Value → Store → Prop) : Prop :=
  OP (mkF (.func F.fettlelaw8_GrphReach_c1) [] [x7]) fun t81 =>
  R F.grph_Reach_int #[x12, t81] M fun t82 M1 =>
  OP (abin Try.prog true .eql Ty.iter_Seq_int t82 .nilFunc) fun t84 =>
  BR t84 (
  OP (atake ds M1) fun M2 =>
  NTs [(.bool false)] ∧ Q (.bool false) M2
  ) (
  OP (ld 1 false x5 M1) fun t85 =>
  OP (binI .and t85 (.int .i64 15)) fun t86 =>
  OP (st 1 x5 t86 M1) fun M3 =>
  LT (.pointer (some ⟨M3.n, 0, none⟩)) (M3.push (some (.inl ([(.slice none 0 0)], Ty.sl_int, true)))) fun t17 M4 =>
  LT (.pointer (some ⟨M4.n, 0, none⟩)) (M4.push (some (.inl ([(.slice none 0 0)], Ty.sl_int, true)))) fun t18 M5 =>
  P_fettlelaw8_GrphReach_8 ds x5 x8 t82 t17 t18 t82 M5 Q
  )
theorem T_fettlelaw8_GrphReach_6 {ds : List Deferred} {x5 x7 x8 x12 : Value} {M : Store} {Q : Value → Store → Prop} (h : S_fettlelaw8_GrphReach_6 ds x5 x7 x8 x12 M Q) : P_fettlelaw8_GrphReach_6 ds x5 x7 x8 x12 M Q := by
  intro f h5 h7 h8 h12; subst h5; subst h7; subst h8; subst h12
  unfold At
  exact rule (B := 1000) (N := 119) (ct := (.two .no (.two .no (.two .no (.two .no (.two (.two .no (.two (.here 1000) .no)) (.here 1001)))))))
    [⟨1002, fun a M => P_fettlelaw8_GrphReach_8 a.defers (a.get 5) (a.get 8) (a.get 16) (a.get 17) (a.get 18) (a.get 87) M Q, fun a M => At Try.prog Ex none Try.f5 [1, 1, 1, 1, 1, 1, 1, 1, 1, 1, 1, 0, 1, 0] a M Q⟩,
    ⟨1003, fun _ _ => False, fun a M => At Try.prog Ex none Try.f5 [1, 1, 1, 1, 1, 1, 1, 1, 1, 1, 1, 1] a M Q⟩,
    ⟨1, fun a M => kfin Try.prog Try.f5.results.toList Q 1 a M, fun a M => kfin Try.prog Try.f5.results.toList Q 1 a M⟩]
    [1000, 1001] [1] (by kernel_rfl) (by kernel_rfl) (by kernel_rfl) (by kernel_rfl) (by kernel_rfl)
    ⟨fun a M hn h => by obtain ⟨⟨n, f⟩, ds⟩ := a; have hn : n = 119 := hn; subst hn; exact h f rfl rfl rfl rfl rfl rfl,
    fun _ _ _ h => h.elim,
    fun _ _ _ h => h,
    trivial⟩
    (cast (by kernel_rfl) h)
def S_fettlelaw8_GrphReach_7 (ds : List Deferred) (x5 x7 x8 x9 x12 x13 x63 x64 x65 : Value) (M : Store) (Q : Value → Store → Prop) : Prop :=
  OP (binI .lss x65 x64) fun t66 =>
  BR t66 (
  P_fettlelaw8_GrphReach_9 ds x5 x7 x8 x9 x12 x13 x63 x64 x65 M Q
  ) (
  P_fettlelaw8_GrphReach_10 ds x5 x7 x8 x9 x12 x13 M Q
  )
theorem T_fettlelaw8_GrphReach_7 {ds : List Deferred} {x5 x7 x8 x9 x12 x13 x63 x64 x65 : Value} {M : Store} {Q : Value → Store → Prop} (h : S_fettlelaw8_GrphReach_7 ds x5 x7 x8 x9 x12 x13 x63 x64 x65 M Q) : P_fettlelaw8_GrphReach_7 ds x5 x7 x8 x9 x12 x13 x63 x64 x65 M Q := by
  intro f h5 h7 h8 h9 h12 h13 h63 h64 h65; subst h5; subst h7; subst h8; subst h9; subst h12; subst h13; subst h63; subst h64; subst h65
  unfold At
  refine cast (by kernel_rfl) (CW.loop (P := Try.prog) (E := Ex) (rd := none) (x := sub (bodyOf Try.f5) [1, 1, 1, 1, 1, 1, 0, 1, 0, 0, 1, 0, 0, 1, 0, 0]) (a := ⟨⟨119, f⟩, ds⟩) (M := M) (K := kcont Try.prog Ex none (bodyOf Try.f5) [1, 1, 1, 1, 1, 1, 0, 1, 0, 0, 1, 0, 0, 1, 0] (kfin Try.prog Try.f5.results.toList Q)) ?_)
  exact rule (B := 1000) (N := 119) (ct := (.two .no (.two .no (.here 1000))))
    [⟨1002, fun a M => P_fettlelaw8_GrphReach_9 a.defers (a.get 5) (a.get 7) (a.get 8) (a.get 9) (a.get 12) (a.get 13) (a.get 63) (a.get 64) (a.get 65) M Q, fun a M => At Try.prog Ex none Try.f5 [1, 1, 1, 1, 1, 1, 0, 1, 0, 0, 1, 0, 0, 1, 0, 0, 1, 1] a M Q⟩,
    ⟨6, fun a M => P_fettlelaw8_GrphReach_10 a.defers (a.get 5) (a.get 7) (a.get 8) (a.get 9) (a.get 12) (a.get 13) M Q, fun a M => At Try.prog Ex none Try.f5 [1, 1, 1, 1, 1, 1, 0, 1, 0, 0, 1, 1] a M Q⟩]
    [1000] [6] (by kernel_rfl) (by kernel_rfl) (by kernel_rfl) (by kernel_rfl) (by kernel_rfl)
    ⟨fun a M hn h => by obtain ⟨⟨n, f⟩, ds⟩ := a; have hn : n = 119 := hn; subst hn; exact h f rfl rfl rfl rfl rfl rfl rfl rfl rfl,
    fun a M hn h => by obtain ⟨⟨n, f⟩, ds⟩ := a; have hn : n = 119 := hn; subst hn; exact h f rfl rfl rfl rfl rfl rfl,
    trivial⟩
    (cast (by kernel_rfl) h)
/-- The record of the range, and a round. -/
def RC_fettlelaw8_GrphReach_8 (x5 x17 : Value) (st : LoopState) (pe : Nat) (rc : LRec) : Prop := ∃ f : Nat → Value, f 5 = x5 ∧ f 17 = x17 ∧ rc = ⟨st, pe, ⟨119, f⟩, #[88], (sub (bodyOf Try.f5) [1, 1, 1, 1, 1, 1, 1, 1, 1, 1, 1, 0, 1, 0, 0]), (sub (bodyOf Try.f5) [1, 1, 1, 1, 1, 1, 1, 1, 1, 1, 1, 0, 1, 0, 1])⟩
def SY_fettlelaw8_GrphReach_8 (l : Nat) (x5 x17 : Value) (y88 : Value) (M : Store) (Q : Value → Store → Prop) : Prop :=
  OP (recOf M l) fun r => r.st = .ready ∧
  P_fettlelaw8_GrphReach_11 l x5 x17 y88 (putRec M l { r with st := .busy }) Q
theorem Y_fettlelaw8_GrphReach_8 {l pe : Nat} {x5 x17 : Value} {y88 : Value} {M : Store} {Q : Value → Store → Prop} {rc : LRec} (hr : recOf M l = some rc) (hc : RC_fettlelaw8_GrphReach_8 x5 x17 .ready pe rc) (h : SY_fettlelaw8_GrphReach_8 l x5 x17 y88 M Q) : RunsY Try.prog Ex l #[y88] M Q := by
  obtain ⟨f, h5, h17, hc⟩ := hc; subst h5; subst h17; subst hc
  refine runsY_of (args := [y88]) hr (by kernel_rfl) ?_
  exact rule (B := 1000) (N := 119) (ct := .no)
    [⟨0, fun a M => OP (recOf M l) fun r => r.st = .ready ∧ dfr a.defers (P_fettlelaw8_GrphReach_11 l (a.get 5) (a.get 17) (a.get 19) (putRec M l { r with st := .busy }) Q), fun a M => kmid Try.prog Ex l (sub (bodyOf Try.f5) [1, 1, 1, 1, 1, 1, 1, 1, 1, 1, 1, 0, 1, 0, 1]) Q 0 a M⟩]
    [] [0] (by kernel_rfl) (by kernel_rfl) (by kernel_rfl) (by kernel_rfl) (by kernel_rfl)
    ⟨fun a M hn h => by obtain ⟨⟨n, f⟩, ds⟩ := a; have hn : n = 119 := hn; subst hn; obtain ⟨r, hr, hs, h⟩ := OP_iff.1 h; obtain ⟨hd, h⟩ := dfr_iff h; have hd : ds = [] := hd; subst hd; exact OP_iff.2 ⟨r, hr, hs, cast (by kernel_rfl) (h f rfl rfl rfl)⟩, trivial⟩
    (cast (by kernel_rfl) h)
def S_fettlelaw8_GrphReach_8 (ds : List Deferred) (x5 x8 x16 x17 x18 x87 : Value) (M : Store) (Q : Value → Store → Prop) : Prop :=
  ∀ rc : LRec, RC_fettlelaw8_GrphReach_8 x5 x17 .ready 0 rc →
  rfc Try.prog Ex x87 (M.n + 1) ((M.push (some (.inr (.inr none)))).push (some (.inr (.inr (some rc))))) fun _ M1 =>
  OP (recOf M1 (M.n + 1)) fun r => r.st ≠ .busy ∧
  bif Nat.beq 0 r.pe then (
  P_fettlelaw8_GrphReach_12 ({ target := .collected M.n, args := #[] } :: ds) x5 x8 x16 x17 x18 (putRec M1 (M.n + 1) { r with st := .exhausted }) Q
  ) else
  bif Nat.beq 8 r.pe then (
  P_fettlelaw8_GrphReach_12 ({ target := .collected M.n, args := #[] } :: ds) x5 x8 x16 x17 x18 (putRec M1 (M.n + 1) { r with st := .exhausted }) Q
  ) else
  False
theorem T_fettlelaw8_GrphReach_8 {ds : List Deferred} {x5 x8 x16 x17 x18 x87 : Value} {M : Store} {Q : Value → Store → Prop} (h : S_fettlelaw8_GrphReach_8 ds x5 x8 x16 x17 x18 x87 M Q) : P_fettlelaw8_GrphReach_8 ds x5 x8 x16 x17 x18 x87 M Q := by
  intro f h5 h8 h16 h17 h18 h87; subst h5; subst h8; subst h16; subst h17; subst h18; subst h87
  unfold At
  refine cast (by kernel_rfl) (CW.rf (P := Try.prog) (E := Ex) (g := .tmp 87) (ps := #[88]) (x := (sub (bodyOf Try.f5) [1, 1, 1, 1, 1, 1, 1, 1, 1, 1, 1, 0, 1, 0, 0])) (y := (sub (bodyOf Try.f5) [1, 1, 1, 1, 1, 1, 1, 1, 1, 1, 1, 0, 1, 0, 1])) (a := ⟨⟨119, f⟩, ds⟩) (M := M) (K := kcont Try.prog Ex none (bodyOf Try.f5) [1, 1, 1, 1, 1, 1, 1, 1, 1, 1, 1, 0, 1, 0] (kfin Try.prog Try.f5.results.toList Q)) ?_)
  refine cast (by kernel_rfl) (rfc_mono (k' := fun _ M' => OP (recOf M' (M.n + 1)) fun r => r.st ≠ .busy ∧ kcont Try.prog Ex none (bodyOf Try.f5) [1, 1, 1, 1, 1, 1, 1, 1, 1, 1, 1, 0, 1, 0] (kfin Try.prog Try.f5.results.toList Q) r.pe ⟨⟨119, f⟩, { target := .collected M.n, args := #[] } :: ds⟩ (putRec M' (M.n + 1) { r with st := .exhausted })) (h ⟨.ready, 0, ⟨119, f⟩, #[88], (sub (bodyOf Try.f5) [1, 1, 1, 1, 1, 1, 1, 1, 1, 1, 1, 0, 1, 0, 0]), (sub (bodyOf Try.f5) [1, 1, 1, 1, 1, 1, 1, 1, 1, 1, 1, 0, 1, 0, 1])⟩ ⟨f, rfl, rfl, rfl⟩) ?_)
  intro _ M1 h
  obtain ⟨r, hr, hs, h⟩ := OP_iff.1 h
  refine OP_iff.2 ⟨r, hr, hs, ?_⟩
  exact disp_K (N := 119) (L := [⟨0, fun a M => P_fettlelaw8_GrphReach_12 a.defers (a.get 5) (a.get 8) (a.get 16) (a.get 17) (a.get 18) M Q, fun a M => At Try.prog Ex none Try.f5 [1, 1, 1, 1, 1, 1, 1, 1, 1, 1, 1, 1] a M Q⟩,
    ⟨8, fun a M => P_fettlelaw8_GrphReach_12 a.defers (a.get 5) (a.get 8) (a.get 16) (a.get 17) (a.get 18) M Q, fun a M => At Try.prog Ex none Try.f5 [1, 1, 1, 1, 1, 1, 1, 1, 1, 1, 1, 1] a M Q⟩])
    [0, 8] (by kernel_rfl) (by kernel_rfl)
    ⟨fun a M hn h => by obtain ⟨⟨n, f⟩, ds⟩ := a; have hn : n = 119 := hn; subst hn; exact h f rfl rfl rfl rfl rfl,
    fun a M hn h => by obtain ⟨⟨n, f⟩, ds⟩ := a; have hn : n = 119 := hn; subst hn; exact h f rfl rfl rfl rfl rfl,
    trivial⟩
    rfl (cast (by kernel_rfl) h)
def S_fettlelaw8_GrphReach_9 (ds : List Deferred) (x5 x7 x8 x9 x12 x13 x63 x64 x65 : Value) (M : Store) (Q : Value → Store → Prop) : Prop :=
  OP (ixA 1 x63 x65) fun t67 =>
  OP (ld 1 false t67 M) fun t68 =>
  OP (lku (.int .i64) (.bool false) x9 t68 false M) fun t71 =>
  OP (aun .not t71) fun t72 =>
  BR t72 (
  OP (mup (.int .i64) x9 t68 (.bool true) M) fun M1 =>
  OP (bldL (.int .i64 0) 1 1 [(0, t68)]) fun c =>
  LT (.slice (some ⟨M1.n, 0, none⟩) 1 1) (M1.push (some (.inl (c, Ty.int, true)))) fun t77 M2 =>
  OP2 (appV 1 Ty.int x8 t77 M2) fun t78 M3 =>
  OP (binI .add x65 (.int .i64 1)) fun t79 =>
  P_fettlelaw8_GrphReach_7 ds x5 x7 t78 x9 x12 x13 x63 x64 t79 M3 Q
  ) (
  OP (binI .add x65 (.int .i64 1)) fun t79_1 =>
  P_fettlelaw8_GrphReach_7 ds x5 x7 x8 x9 x12 x13 x63 x64 t79_1 M Q
  )
theorem T_fettlelaw8_GrphReach_9 {ds : List Deferred} {x5 x7 x8 x9 x12 x13 x63 x64 x65 : Value} {M : Store} {Q : Value → Store → Prop} (h : S_fettlelaw8_GrphReach_9 ds x5 x7 x8 x9 x12 x13 x63 x64 x65 M Q) : P_fettlelaw8_GrphReach_9 ds x5 x7 x8 x9 x12 x13 x63 x64 x65 M Q := by
  intro f h5 h7 h8 h9 h12 h13 h63 h64 h65; subst h5; subst h7; subst h8; subst h9; subst h12; subst h13; subst h63; subst h64; subst h65
  unfold At
  exact rule (B := 1000) (N := 119) (ct := .no)
    [⟨0, fun a M => P_fettlelaw8_GrphReach_7 a.defers (a.get 5) (a.get 7) (a.get 8) (a.get 9) (a.get 12) (a.get 13) (a.get 63) (a.get 64) (a.get 65) M Q, fun a M => At Try.prog Ex none Try.f5 [1, 1, 1, 1, 1, 1, 0, 1, 0, 0, 1, 0, 0, 1, 0] a M Q⟩]
    [] [0] (by kernel_rfl) (by kernel_rfl) (by kernel_rfl) (by kernel_rfl) (by kernel_rfl)
    ⟨fun a M hn h => by obtain ⟨⟨n, f⟩, ds⟩ := a; have hn : n = 119 := hn; subst hn; exact h f rfl rfl rfl rfl rfl rfl rfl rfl rfl,
    trivial⟩
    (cast (by kernel_rfl) h)
def S_fettlelaw8_GrphReach_10 (ds : List Deferred) (x5 x7 x8 x9 x12 x13 : Value) (M : Store) (Q : Value → Store → Prop) : Prop :=
  OP (binI .add x13 (.int .i64 1)) fun t57 =>
  P_fettlelaw8_GrphReach_4 ds x5 x7 x8 x9 x12 t57 M Q
theorem T_fettlelaw8_GrphReach_10 {ds : List Deferred} {x5 x7 x8 x9 x12 x13 : Value} {M : Store} {Q : Value → Store → Prop} (h : S_fettlelaw8_GrphReach_10 ds x5 x7 x8 x9 x12 x13 M Q) : P_fettlelaw8_GrphReach_10 ds x5 x7 x8 x9 x12 x13 M Q := by
  intro f h5 h7 h8 h9 h12 h13; subst h5; subst h7; subst h8; subst h9; subst h12; subst h13
  unfold At
  exact rule (B := 1000) (N := 119) (ct := .no)
    [⟨0, fun a M => P_fettlelaw8_GrphReach_4 a.defers (a.get 5) (a.get 7) (a.get 8) (a.get 9) (a.get 12) (a.get 13) M Q, fun a M => At Try.prog Ex none Try.f5 [1, 1, 1, 1, 1, 1, 0, 1, 0] a M Q⟩]
    [] [0] (by kernel_rfl) (by kernel_rfl) (by kernel_rfl) (by kernel_rfl) (by kernel_rfl)
    ⟨fun a M hn h => by obtain ⟨⟨n, f⟩, ds⟩ := a; have hn : n = 119 := hn; subst hn; exact h f rfl rfl rfl rfl rfl rfl,
    trivial⟩
    (cast (by kernel_rfl) h)
def S_fettlelaw8_GrphReach_11 (l : Nat) (x5 x17 x19 : Value) (M : Store) (Q : Value → Store → Prop) : Prop :=
  OP (ld 1 false x17 M) fun t89 =>
  OP (lenV t89) fun t90 =>
  OP (ld 1 false x5 M) fun t91 =>
  OP (binI .eql t90 t91) fun t92 =>
  BR t92 (
  YE l 8 M Q
  ) (
  OP (ld 1 false x17 M) fun t93 =>
  OP (bldL (.int .i64 0) 1 1 [(0, x19)]) fun c =>
  LT (.slice (some ⟨M.n, 0, none⟩) 1 1) (M.push (some (.inl (c, Ty.int, true)))) fun t95 M1 =>
  OP2 (appV 1 Ty.int t93 t95 M1) fun t96 M2 =>
  OP (st 1 x17 t96 M2) fun M3 =>
  YE l 0 M3 Q
  )
theorem T_fettlelaw8_GrphReach_11 {l : Nat} {x5 x17 x19 : Value} {M : Store} {Q : Value → Store → Prop} (h : S_fettlelaw8_GrphReach_11 l x5 x17 x19 M Q) : P_fettlelaw8_GrphReach_11 l x5 x17 x19 M Q := by
  intro f h5 h17 h19; subst h5; subst h17; subst h19
  unfold AtY
  exact rule (B := 1000) (N := 119) (ct := .no)
    [⟨0, fun a M => kfinY l Q 0 a M, fun a M => kfinY l Q 0 a M⟩,
    ⟨8, fun a M => kfinY l Q 8 a M, fun a M => kfinY l Q 8 a M⟩]
    [] [0, 8] (by kernel_rfl) (by kernel_rfl) (by kernel_rfl) (by kernel_rfl) (by kernel_rfl)
    ⟨fun _ _ _ h => h,
    fun _ _ _ h => h,
    trivial⟩
    (cast (by kernel_rfl) h)
def S_fettlelaw8_GrphReach_12 (ds : List Deferred) (x5 x8 x16 x17 x18 : Value) (M : Store) (Q : Value → Store → Prop) : Prop :=
  P_fettlelaw8_GrphReach_13 ds x5 x8 x17 x18 x16 M Q
theorem T_fettlelaw8_GrphReach_12 {ds : List Deferred} {x5 x8 x16 x17 x18 : Value} {M : Store} {Q : Value → Store → Prop} (h : S_fettlelaw8_GrphReach_12 ds x5 x8 x16 x17 x18 M Q) : P_fettlelaw8_GrphReach_12 ds x5 x8 x16 x17 x18 M Q := by
  intro f h5 h8 h16 h17 h18; subst h5; subst h8; subst h16; subst h17; subst h18
  unfold At
  exact rule (B := 1000) (N := 119) (ct := (.two (.two .no (.two (.here 1000) .no)) (.here 1001)))
    [⟨1002, fun a M => P_fettlelaw8_GrphReach_13 a.defers (a.get 5) (a.get 8) (a.get 17) (a.get 18) (a.get 97) M Q, fun a M => At Try.prog Ex none Try.f5 [1, 1, 1, 1, 1, 1, 1, 1, 1, 1, 1, 1, 0, 1, 0] a M Q⟩,
    ⟨1003, fun _ _ => False, fun a M => At Try.prog Ex none Try.f5 [1, 1, 1, 1, 1, 1, 1, 1, 1, 1, 1, 1, 1] a M Q⟩]
    [1000, 1001] [] (by kernel_rfl) (by kernel_rfl) (by kernel_rfl) (by kernel_rfl) (by kernel_rfl)
    ⟨fun a M hn h => by obtain ⟨⟨n, f⟩, ds⟩ := a; have hn : n = 119 := hn; subst hn; exact h f rfl rfl rfl rfl rfl,
    fun _ _ _ h => h.elim,
    trivial⟩
    (cast (by kernel_rfl) h)
/-- The record of the range, and a round. -/
def RC_fettlelaw8_GrphReach_13 (x18 : Value) (st : LoopState) (pe : Nat) (rc : LRec) : Prop := ∃ f : Nat → Value, f 18 = x18 ∧ rc = ⟨st, pe, ⟨119, f⟩, #[98], (sub (bodyOf Try.f5) [1, 1, 1, 1, 1, 1, 1, 1, 1, 1, 1, 1, 0, 1, 0, 0]), (sub (bodyOf Try.f5) [1, 1, 1, 1, 1, 1, 1, 1, 1, 1, 1, 1, 0, 1, 0, 1])⟩
def SY_fettlelaw8_GrphReach_13 (l : Nat) (x18 : Value) (y98 : Value) (M : Store) (Q : Value → Store → Prop) : Prop :=
  OP (recOf M l) fun r => r.st = .ready ∧
  P_fettlelaw8_GrphReach_14 l x18 y98 (putRec M l { r with st := .busy }) Q
theorem Y_fettlelaw8_GrphReach_13 {l pe : Nat} {x18 : Value} {y98 : Value} {M : Store} {Q : Value → Store → Prop} {rc : LRec} (hr : recOf M l = some rc) (hc : RC_fettlelaw8_GrphReach_13 x18 .ready pe rc) (h : SY_fettlelaw8_GrphReach_13 l x18 y98 M Q) : RunsY Try.prog Ex l #[y98] M Q := by
  obtain ⟨f, h18, hc⟩ := hc; subst h18; subst hc
  refine runsY_of (args := [y98]) hr (by kernel_rfl) ?_
  exact rule (B := 1000) (N := 119) (ct := .no)
    [⟨0, fun a M => OP (recOf M l) fun r => r.st = .ready ∧ dfr a.defers (P_fettlelaw8_GrphReach_14 l (a.get 18) (a.get 20) (putRec M l { r with st := .busy }) Q), fun a M => kmid Try.prog Ex l (sub (bodyOf Try.f5) [1, 1, 1, 1, 1, 1, 1, 1, 1, 1, 1, 1, 0, 1, 0, 1]) Q 0 a M⟩]
    [] [0] (by kernel_rfl) (by kernel_rfl) (by kernel_rfl) (by kernel_rfl) (by kernel_rfl)
    ⟨fun a M hn h => by obtain ⟨⟨n, f⟩, ds⟩ := a; have hn : n = 119 := hn; subst hn; obtain ⟨r, hr, hs, h⟩ := OP_iff.1 h; obtain ⟨hd, h⟩ := dfr_iff h; have hd : ds = [] := hd; subst hd; exact OP_iff.2 ⟨r, hr, hs, cast (by kernel_rfl) (h f rfl rfl)⟩, trivial⟩
    (cast (by kernel_rfl) h)
def S_fettlelaw8_GrphReach_13 (ds : List Deferred) (x5 x8 x17 x18 x97 : Value) (M : Store) (Q : Value → Store → Prop) : Prop :=
  ∀ rc : LRec, RC_fettlelaw8_GrphReach_13 x18 .ready 0 rc →
  rfc Try.prog Ex x97 (M.n + 1) ((M.push (some (.inr (.inr none)))).push (some (.inr (.inr (some rc))))) fun _ M1 =>
  OP (recOf M1 (M.n + 1)) fun r => r.st ≠ .busy ∧
  bif Nat.beq 0 r.pe then (
  P_fettlelaw8_GrphReach_15 ({ target := .collected M.n, args := #[] } :: ds) x5 x8 x17 x18 (putRec M1 (M.n + 1) { r with st := .exhausted }) Q
  ) else
  False
theorem T_fettlelaw8_GrphReach_13 {ds : List Deferred} {x5 x8 x17 x18 x97 : Value} {M : Store} {Q : Value → Store → Prop} (h : S_fettlelaw8_GrphReach_13 ds x5 x8 x17 x18 x97 M Q) : P_fettlelaw8_GrphReach_13 ds x5 x8 x17 x18 x97 M Q := by
  intro f h5 h8 h17 h18 h97; subst h5; subst h8; subst h17; subst h18; subst h97
  unfold At
  refine cast (by kernel_rfl) (CW.rf (P := Try.prog) (E := Ex) (g := .tmp 97) (ps := #[98]) (x := (sub (bodyOf Try.f5) [1, 1, 1, 1, 1, 1, 1, 1, 1, 1, 1, 1, 0, 1, 0, 0])) (y := (sub (bodyOf Try.f5) [1, 1, 1, 1, 1, 1, 1, 1, 1, 1, 1, 1, 0, 1, 0, 1])) (a := ⟨⟨119, f⟩, ds⟩) (M := M) (K := kcont Try.prog Ex none (bodyOf Try.f5) [1, 1, 1, 1, 1, 1, 1, 1, 1, 1, 1, 1, 0, 1, 0] (kfin Try.prog Try.f5.results.toList Q)) ?_)
  refine cast (by kernel_rfl) (rfc_mono (k' := fun _ M' => OP (recOf M' (M.n + 1)) fun r => r.st ≠ .busy ∧ kcont Try.prog Ex none (bodyOf Try.f5) [1, 1, 1, 1, 1, 1, 1, 1, 1, 1, 1, 1, 0, 1, 0] (kfin Try.prog Try.f5.results.toList Q) r.pe ⟨⟨119, f⟩, { target := .collected M.n, args := #[] } :: ds⟩ (putRec M' (M.n + 1) { r with st := .exhausted })) (h ⟨.ready, 0, ⟨119, f⟩, #[98], (sub (bodyOf Try.f5) [1, 1, 1, 1, 1, 1, 1, 1, 1, 1, 1, 1, 0, 1, 0, 0]), (sub (bodyOf Try.f5) [1, 1, 1, 1, 1, 1, 1, 1, 1, 1, 1, 1, 0, 1, 0, 1])⟩ ⟨f, rfl, rfl⟩) ?_)
  intro _ M1 h
  obtain ⟨r, hr, hs, h⟩ := OP_iff.1 h
  refine OP_iff.2 ⟨r, hr, hs, ?_⟩
  exact disp_K (N := 119) (L := [⟨0, fun a M => P_fettlelaw8_GrphReach_15 a.defers (a.get 5) (a.get 8) (a.get 17) (a.get 18) M Q, fun a M => At Try.prog Ex none Try.f5 [1, 1, 1, 1, 1, 1, 1, 1, 1, 1, 1, 1, 1] a M Q⟩])
    [0] (by kernel_rfl) (by kernel_rfl)
    ⟨fun a M hn h => by obtain ⟨⟨n, f⟩, ds⟩ := a; have hn : n = 119 := hn; subst hn; exact h f rfl rfl rfl rfl,
    trivial⟩
    rfl (cast (by kernel_rfl) h)
def S_fettlelaw8_GrphReach_14 (l : Nat) (x18 x20 : Value) (M : Store) (Q : Value → Store → Prop) : Prop :=
  OP (ld 1 false x18 M) fun t99 =>
  OP (bldL (.int .i64 0) 1 1 [(0, x20)]) fun c =>
  LT (.slice (some ⟨M.n, 0, none⟩) 1 1) (M.push (some (.inl (c, Ty.int, true)))) fun t101 M1 =>
  OP2 (appV 1 Ty.int t99 t101 M1) fun t102 M2 =>
  OP (st 1 x18 t102 M2) fun M3 =>
  YE l 0 M3 Q
theorem T_fettlelaw8_GrphReach_14 {l : Nat} {x18 x20 : Value} {M : Store} {Q : Value → Store → Prop} (h : S_fettlelaw8_GrphReach_14 l x18 x20 M Q) : P_fettlelaw8_GrphReach_14 l x18 x20 M Q := by
  intro f h18 h20; subst h18; subst h20
  unfold AtY
  exact rule (B := 1000) (N := 119) (ct := .no)
    [⟨0, fun a M => kfinY l Q 0 a M, fun a M => kfinY l Q 0 a M⟩]
    [] [0] (by kernel_rfl) (by kernel_rfl) (by kernel_rfl) (by kernel_rfl) (by kernel_rfl)
    ⟨fun _ _ _ h => h,
    trivial⟩
    (cast (by kernel_rfl) h)
def S_fettlelaw8_GrphReach_15 (ds : List Deferred) (x5 x8 x17 x18 : Value) (M : Store) (Q : Value → Store → Prop) : Prop :=
  OP (ld 1 false x18 M) fun t103 =>
  R F.fettleref1_SameInts #[t103, x8] M fun t105 M1 =>
  TDx [0, 0, 3, 7, 15, 15, 15, 15, 143, 463, 1007, 2047, 4095, 8191, 16383, 32767, 65535] [M.n, M.n, M.n] 2 M M1 ∧
  BR t105 (
  OP (ld 1 false x17 M1) fun t107 =>
  OP (ld 1 false x5 M1) fun t109 =>
  OP (lenV x8) fun t111 =>
  OP (amin2 t109 t111) fun t112 =>
  OP (slV 1 Ty.int x8 none (some t112) M1) fun t113 =>
  R F.fettleref1_SameInts #[t107, t113] M1 fun t114 M2 =>
  TDx [0, 0, 3, 7, 15, 15, 15, 15, 143, 463, 1007, 2047, 4095, 8191, 16383, 32767, 65535] [M.n, M.n, M.n, M1.n, M1.n, M1.n, M1.n, M1.n, M1.n, M1.n, M1.n, M1.n] 11 M1 M2 ∧
  BR t114 (
  R F.fettlelaw8_awake #[] M2 fun t117 M3 =>
  TDx [0, 0, 3, 7, 15, 15, 15, 15, 143, 463, 1007, 2047, 4095, 8191, 16383, 32767, 65535] [M.n, M.n, M.n, M1.n, M1.n, M1.n, M1.n, M1.n, M1.n, M1.n, M1.n, M1.n, M2.n, M2.n, M2.n] 14 M2 M3 ∧
  OP (atake ds M3) fun M4 =>
  NTs [t117] ∧ Q t117 M4
  ) (
  OP (atake ds M2) fun M5 =>
  NTs [(.bool false)] ∧ Q (.bool false) M5
  )
  ) (
  OP (atake ds M1) fun M6 =>
  NTs [(.bool false)] ∧ Q (.bool false) M6
  )
theorem T_fettlelaw8_GrphReach_15 {ds : List Deferred} {x5 x8 x17 x18 : Value} {M : Store} {Q : Value → Store → Prop} (h : S_fettlelaw8_GrphReach_15 ds x5 x8 x17 x18 M Q) : P_fettlelaw8_GrphReach_15 ds x5 x8 x17 x18 M Q := by
  intro f h5 h8 h17 h18; subst h5; subst h8; subst h17; subst h18
  unfold At
  exact rule (B := 1000) (N := 119) (ct := .no)
    [⟨1, fun a M => kfin Try.prog Try.f5.results.toList Q 1 a M, fun a M => kfin Try.prog Try.f5.results.toList Q 1 a M⟩]
    [] [1] (by kernel_rfl) (by kernel_rfl) (by kernel_rfl) (by kernel_rfl) (by kernel_rfl)
    ⟨fun _ _ _ h => h,
    trivial⟩
    (cast (by kernel_rfl) h)
def S_fettlelaw8_GrphReach_c1 (x0 x1 : Value) (M : Store) (Q : Value → Store → Prop) : Prop :=
  OP (ixP 1 16 x1 x0) fun t5 =>
  OP (ld 1 false t5 M) fun t6 =>
  NTs [t6] ∧ Q t6 M
theorem T_fettlelaw8_GrphReach_c1 {x0 x1 : Value} {M : Store} {Q : Value → Store → Prop} (h : S_fettlelaw8_GrphReach_c1 x0 x1 M Q) : R F.fettlelaw8_GrphReach_c1 #[x0, x1] M Q := by
  refine runs_of (c := bodyOf Try.f24) Try.func24 rfl (by kernel_rfl) (by kernel_rfl) ?_
  unfold At
  exact rule (B := 1000) (N := 7) (ct := .no)
    [⟨1, fun a M => kfin Try.prog Try.f24.results.toList Q 1 a M, fun a M => kfin Try.prog Try.f24.results.toList Q 1 a M⟩]
    [] [1] (by kernel_rfl) (by kernel_rfl) (by kernel_rfl) (by kernel_rfl) (by kernel_rfl)
    ⟨fun _ _ _ h => h,
    trivial⟩
    (cast (by kernel_rfl) h)
end Go.G
