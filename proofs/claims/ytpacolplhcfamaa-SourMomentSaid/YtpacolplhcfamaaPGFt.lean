/-  -/
import Derived.Test.YtpacolplhcfamaaPGN
open Go.RowKit
namespace Go.G
open Go.Ab Go.Proofs
set_option linter.unusedVariables false
set_option maxRecDepth 100000
def P_fettlelaw15_SourMoment_1 (x0 x1 x5 x6 x29 x30 x31 : Value) (M : Store) (Q : Value → Store → Prop) : Prop :=
  ∀ f : Nat → Value, f 0 = x0 → f 1 = x1 → f 5 = x5 → f 6 = x6 → f 29 = x29 → f 30 = x30 → f 31 = x31 → At Try.prog Ex none Try.f9 [1, 1, 1, 1, 0, 1, 0] ⟨⟨171, f⟩, []⟩ M Q
def P_fettlelaw15_SourMoment_2 (x0 x1 x5 x6 : Value) (M : Store) (Q : Value → Store → Prop) : Prop :=
  ∀ f : Nat → Value, f 0 = x0 → f 1 = x1 → f 5 = x5 → f 6 = x6 → At Try.prog Ex none Try.f9 [1, 1, 1, 1, 1] ⟨⟨171, f⟩, []⟩ M Q
def P_fettlelaw15_SourMoment_3 (x0 x1 x5 x6 x9 x10 : Value) (M : Store) (Q : Value → Store → Prop) : Prop :=
  ∀ f : Nat → Value, f 0 = x0 → f 1 = x1 → f 5 = x5 → f 6 = x6 → f 9 = x9 → f 10 = x10 → At Try.prog Ex none Try.f9 [1, 1, 1, 1, 1, 1, 0, 1, 0] ⟨⟨171, f⟩, []⟩ M Q
def P_fettlelaw15_SourMoment_4 (x0 x1 x5 x6 x9 x10 : Value) (M : Store) (Q : Value → Store → Prop) : Prop :=
  ∀ f : Nat → Value, f 0 = x0 → f 1 = x1 → f 5 = x5 → f 6 = x6 → f 9 = x9 → f 10 = x10 → At Try.prog Ex none Try.f9 [1, 1, 1, 1, 1, 1, 0, 1, 0, 0, 1] ⟨⟨171, f⟩, []⟩ M Q
def P_fettlelaw15_SourMoment_5 (x1 x5 x6 x9 : Value) (M : Store) (Q : Value → Store → Prop) : Prop :=
  ∀ f : Nat → Value, f 1 = x1 → f 5 = x5 → f 6 = x6 → f 9 = x9 → At Try.prog Ex none Try.f9 [1, 1, 1, 1, 1, 1, 1] ⟨⟨171, f⟩, []⟩ M Q
def P_fettlelaw15_SourMoment_6 (x1 x5 x6 x9 x11 x12 x13 x14 : Value) (M : Store) (Q : Value → Store → Prop) : Prop :=
  ∀ f : Nat → Value, f 1 = x1 → f 5 = x5 → f 6 = x6 → f 9 = x9 → f 11 = x11 → f 12 = x12 → f 13 = x13 → f 14 = x14 → At Try.prog Ex none Try.f9 [1, 1, 1, 1, 1, 1, 1, 1, 1, 1, 1, 0, 1, 0] ⟨⟨171, f⟩, []⟩ M Q
def P_fettlelaw15_SourMoment_7 (x1 x5 x6 x9 x11 x12 x13 x14 : Value) (M : Store) (Q : Value → Store → Prop) : Prop :=
  ∀ f : Nat → Value, f 1 = x1 → f 5 = x5 → f 6 = x6 → f 9 = x9 → f 11 = x11 → f 12 = x12 → f 13 = x13 → f 14 = x14 → At Try.prog Ex none Try.f9 [1, 1, 1, 1, 1, 1, 1, 1, 1, 1, 1, 0, 1, 0, 0, 1] ⟨⟨171, f⟩, []⟩ M Q
def P_fettlelaw15_SourMoment_8 (M : Store) (Q : Value → Store → Prop) : Prop :=
  ∀ f : Nat → Value, At Try.prog Ex none Try.f9 [1, 1, 1, 1, 1, 1, 1, 1, 1, 1, 1, 1] ⟨⟨171, f⟩, []⟩ M Q
def P_fettlelaw15_SourMoment_9 (x1 x5 x6 x9 x11 x12 x13 x14 x15 x68 x69 x70 : Value) (M : Store) (Q : Value → Store → Prop) : Prop :=
  ∀ f : Nat → Value, f 1 = x1 → f 5 = x5 → f 6 = x6 → f 9 = x9 → f 11 = x11 → f 12 = x12 → f 13 = x13 → f 14 = x14 → f 15 = x15 → f 68 = x68 → f 69 = x69 → f 70 = x70 → At Try.prog Ex none Try.f9 [1, 1, 1, 1, 1, 1, 1, 1, 1, 1, 1, 0, 1, 0, 0, 1, 0, 0, 1, 0, 1, 0] ⟨⟨171, f⟩, []⟩ M Q
def P_fettlelaw15_SourMoment_10 (x1 x5 x6 x9 x11 x12 x13 x14 x15 : Value) (M : Store) (Q : Value → Store → Prop) : Prop :=
  ∀ f : Nat → Value, f 1 = x1 → f 5 = x5 → f 6 = x6 → f 9 = x9 → f 11 = x11 → f 12 = x12 → f 13 = x13 → f 14 = x14 → f 15 = x15 → At Try.prog Ex none Try.f9 [1, 1, 1, 1, 1, 1, 1, 1, 1, 1, 1, 0, 1, 0, 0, 1, 0, 0, 1, 1] ⟨⟨171, f⟩, []⟩ M Q
def P_fettlelaw15_SourMoment_11 (x5 x9 x11 x13 x19 x20 x95 x96 x97 : Value) (M : Store) (Q : Value → Store → Prop) : Prop :=
  ∀ f : Nat → Value, f 5 = x5 → f 9 = x9 → f 11 = x11 → f 13 = x13 → f 19 = x19 → f 20 = x20 → f 95 = x95 → f 96 = x96 → f 97 = x97 → At Try.prog Ex none Try.f9 [1, 1, 1, 1, 1, 1, 1, 1, 1, 1, 1, 0, 1, 0, 0, 1, 0, 0, 1, 1, 1, 1, 0, 1, 0, 1, 0, 1, 0] ⟨⟨171, f⟩, []⟩ M Q
def P_fettlelaw15_SourMoment_12 (x1 x5 x6 x9 x11 x12 x13 x14 x18 : Value) (M : Store) (Q : Value → Store → Prop) : Prop :=
  ∀ f : Nat → Value, f 1 = x1 → f 5 = x5 → f 6 = x6 → f 9 = x9 → f 11 = x11 → f 12 = x12 → f 13 = x13 → f 14 = x14 → f 18 = x18 → At Try.prog Ex none Try.f9 [1, 1, 1, 1, 1, 1, 1, 1, 1, 1, 1, 0, 1, 0, 0, 1, 0, 0, 1, 1, 1, 1, 1] ⟨⟨171, f⟩, []⟩ M Q
def P_fettlelaw15_SourMoment_13 (x5 x9 x11 x13 x19 x20 x95 x96 x97 : Value) (M : Store) (Q : Value → Store → Prop) : Prop :=
  ∀ f : Nat → Value, f 5 = x5 → f 9 = x9 → f 11 = x11 → f 13 = x13 → f 19 = x19 → f 20 = x20 → f 95 = x95 → f 96 = x96 → f 97 = x97 → At Try.prog Ex none Try.f9 [1, 1, 1, 1, 1, 1, 1, 1, 1, 1, 1, 0, 1, 0, 0, 1, 0, 0, 1, 1, 1, 1, 0, 1, 0, 1, 0, 1, 0, 0, 1, 1] ⟨⟨171, f⟩, []⟩ M Q
def P_fettlelaw15_SourMoment_14 (M : Store) (Q : Value → Store → Prop) : Prop :=
  ∀ f : Nat → Value, At Try.prog Ex none Try.f9 [1, 1, 1, 1, 1, 1, 1, 1, 1, 1, 1, 0, 1, 0, 0, 1, 0, 0, 1, 1, 1, 1, 0, 1, 0, 1, 1] ⟨⟨171, f⟩, []⟩ M Q
def P_fettlelaw15_SourMoment_15 (x1 x5 x6 x9 x11 x12 x13 x14 : Value) (M : Store) (Q : Value → Store → Prop) : Prop :=
  ∀ f : Nat → Value, f 1 = x1 → f 5 = x5 → f 6 = x6 → f 9 = x9 → f 11 = x11 → f 12 = x12 → f 13 = x13 → f 14 = x14 → At Try.prog Ex none Try.f9 [1, 1, 1, 1, 1, 1, 1, 1, 1, 1, 1, 0, 1, 0, 0, 1, 1] ⟨⟨171, f⟩, []⟩ M Q
def P_fettlelaw15_SourMoment_16 (x5 x9 x11 x13 x108 x109 x110 : Value) (M : Store) (Q : Value → Store → Prop) : Prop :=
  ∀ f : Nat → Value, f 5 = x5 → f 9 = x9 → f 11 = x11 → f 13 = x13 → f 108 = x108 → f 109 = x109 → f 110 = x110 → At Try.prog Ex none Try.f9 [1, 1, 1, 1, 1, 1, 1, 1, 1, 1, 1, 0, 1, 0, 0, 1, 0, 0, 1, 1, 1, 1, 0, 1, 0, 1, 0, 1, 0, 0, 1, 1, 0, 0, 1, 1, 0, 0, 1, 0] ⟨⟨171, f⟩, []⟩ M Q
def P_fettlelaw15_SourMoment_17 (x5 x9 x11 x13 x19 x20 x95 x96 x97 : Value) (M : Store) (Q : Value → Store → Prop) : Prop :=
  ∀ f : Nat → Value, f 5 = x5 → f 9 = x9 → f 11 = x11 → f 13 = x13 → f 19 = x19 → f 20 = x20 → f 95 = x95 → f 96 = x96 → f 97 = x97 → At Try.prog Ex none Try.f9 [1, 1, 1, 1, 1, 1, 1, 1, 1, 1, 1, 0, 1, 0, 0, 1, 0, 0, 1, 1, 1, 1, 0, 1, 0, 1, 0, 1, 0, 0, 1, 1, 1] ⟨⟨171, f⟩, []⟩ M Q
def P_fettlelaw15_SourMoment_18 (x5 x9 x11 x13 x108 x109 x110 : Value) (M : Store) (Q : Value → Store → Prop) : Prop :=
  ∀ f : Nat → Value, f 5 = x5 → f 9 = x9 → f 11 = x11 → f 13 = x13 → f 108 = x108 → f 109 = x109 → f 110 = x110 → At Try.prog Ex none Try.f9 [1, 1, 1, 1, 1, 1, 1, 1, 1, 1, 1, 0, 1, 0, 0, 1, 0, 0, 1, 1, 1, 1, 0, 1, 0, 1, 0, 1, 0, 0, 1, 1, 0, 0, 1, 1, 0, 0, 1, 0, 0, 1, 1] ⟨⟨171, f⟩, []⟩ M Q
def P_fettlelaw15_SourMoment_19 (x5 x11 : Value) (M : Store) (Q : Value → Store → Prop) : Prop :=
  ∀ f : Nat → Value, f 5 = x5 → f 11 = x11 → At Try.prog Ex none Try.f9 [1, 1, 1, 1, 1, 1, 1, 1, 1, 1, 1, 0, 1, 0, 0, 1, 0, 0, 1, 1, 1, 1, 0, 1, 0, 1, 0, 1, 0, 0, 1, 1, 0, 0, 1, 1, 0, 1] ⟨⟨171, f⟩, []⟩ M Q
def S_fettlelaw15_SourMoment (x0 x1 : Value) (M : Store) (Q : Value → Store → Prop) : Prop :=
  R F.simf_New #[(.int .i64 1048576)] M fun t25 M1 =>
  OP (abin Try.prog true .eql Ty.p_simf_FS t25 (.pointer none)) fun t27 =>
  BR t27 (
  NTs [(.bool false)] ∧ Q (.bool false) M1
  ) (
  OP (bldL (.string ⟨#[]⟩) 1 4 [(0, (.string ⟨#[115]⟩)), (1, (.string ⟨#[116]⟩)), (2, (.string ⟨#[97]⟩)), (3, (.string ⟨#[98]⟩))]) fun c =>
  LT (.slice (some ⟨M1.n, 0, none⟩) 4 4) (M1.push (some (.inl (c, Ty.string, true)))) fun t28 M2 =>
  OP (lenV t28) fun t30 =>
  P_fettlelaw15_SourMoment_1 x0 x1 t25 t28 t28 t30 (.int .i64 0) M2 Q
  )
theorem T_fettlelaw15_SourMoment {x0 x1 : Value} {M : Store} {Q : Value → Store → Prop} (h : S_fettlelaw15_SourMoment x0 x1 M Q) : R F.fettlelaw15_SourMoment #[x0, x1] M Q := by
  refine runs_of (c := bodyOf Try.f9) Try.func9 rfl (by kernel_rfl) (by kernel_rfl) ?_
  unfold At
  exact rule (B := 1000) (N := 171) (ct := (.two .no (.two .no (.two .no (.two .no (.two (.two .no (.two (.here 1000) .no)) (.here 1001)))))))
    [⟨1002, fun a M => dfr a.defers (P_fettlelaw15_SourMoment_1 (a.get 0) (a.get 1) (a.get 5) (a.get 6) (a.get 29) (a.get 30) (a.get 31) M Q), fun a M => At Try.prog Ex none Try.f9 [1, 1, 1, 1, 0, 1, 0] a M Q⟩,
    ⟨1003, fun _ _ => False, fun a M => At Try.prog Ex none Try.f9 [1, 1, 1, 1, 1] a M Q⟩,
    ⟨1, fun a M => kfin Try.prog Try.f9.results.toList Q 1 a M, fun a M => kfin Try.prog Try.f9.results.toList Q 1 a M⟩]
    [1000, 1001] [1] (by kernel_rfl) (by kernel_rfl) (by kernel_rfl) (by kernel_rfl) (by kernel_rfl)
    ⟨fun a M hn h => by obtain ⟨⟨n, f⟩, ds⟩ := a; have hn : n = 171 := hn; subst hn; obtain ⟨hd, h⟩ := dfr_iff h; have hd : ds = [] := hd; subst hd; exact h f rfl rfl rfl rfl rfl rfl rfl,
    fun _ _ _ h => h.elim,
    fun _ _ _ h => h,
    trivial⟩
    (cast (by kernel_rfl) h)
def S_fettlelaw15_SourMoment_1 (x0 x1 x5 x6 x29 x30 x31 : Value) (M : Store) (Q : Value → Store → Prop) : Prop :=
  OP (binI .lss x31 x30) fun t32 =>
  BR t32 (
  OP (ixA 1 x29 x31) fun t33 =>
  OP (ld 1 false t33 M) fun t34 =>
  R F.fettlelaw15_write #[x5, t34, (.int .i64 0)] M fun t37 M1 =>
  OP (binI .add x31 (.int .i64 1)) fun t38 =>
  P_fettlelaw15_SourMoment_1 x0 x1 x5 x6 x29 x30 t38 M1 Q
  ) (
  P_fettlelaw15_SourMoment_2 x0 x1 x5 x6 M Q
  )
theorem T_fettlelaw15_SourMoment_1 {x0 x1 x5 x6 x29 x30 x31 : Value} {M : Store} {Q : Value → Store → Prop} (h : S_fettlelaw15_SourMoment_1 x0 x1 x5 x6 x29 x30 x31 M Q) : P_fettlelaw15_SourMoment_1 x0 x1 x5 x6 x29 x30 x31 M Q := by
  intro f h0 h1 h5 h6 h29 h30 h31; subst h0; subst h1; subst h5; subst h6; subst h29; subst h30; subst h31
  unfold At
  refine cast (by kernel_rfl) (CW.loop (P := Try.prog) (E := Ex) (rd := none) (x := sub (bodyOf Try.f9) [1, 1, 1, 1, 0, 1, 0, 0]) (a := ⟨⟨171, f⟩, []⟩) (M := M) (K := kcont Try.prog Ex none (bodyOf Try.f9) [1, 1, 1, 1, 0, 1, 0] (kfin Try.prog Try.f9.results.toList Q)) ?_)
  exact rule (B := 1000) (N := 171) (ct := .no)
    [⟨0, fun a M => dfr a.defers (P_fettlelaw15_SourMoment_1 (a.get 0) (a.get 1) (a.get 5) (a.get 6) (a.get 29) (a.get 30) (a.get 31) M Q), fun a M => At Try.prog Ex none Try.f9 [1, 1, 1, 1, 0, 1, 0] a M Q⟩,
    ⟨2, fun a M => dfr a.defers (P_fettlelaw15_SourMoment_2 (a.get 0) (a.get 1) (a.get 5) (a.get 6) M Q), fun a M => At Try.prog Ex none Try.f9 [1, 1, 1, 1, 1] a M Q⟩]
    [] [0, 2] (by kernel_rfl) (by kernel_rfl) (by kernel_rfl) (by kernel_rfl) (by kernel_rfl)
    ⟨fun a M hn h => by obtain ⟨⟨n, f⟩, ds⟩ := a; have hn : n = 171 := hn; subst hn; obtain ⟨hd, h⟩ := dfr_iff h; have hd : ds = [] := hd; subst hd; exact h f rfl rfl rfl rfl rfl rfl rfl,
    fun a M hn h => by obtain ⟨⟨n, f⟩, ds⟩ := a; have hn : n = 171 := hn; subst hn; obtain ⟨hd, h⟩ := dfr_iff h; have hd : ds = [] := hd; subst hd; exact h f rfl rfl rfl rfl,
    trivial⟩
    (cast (by kernel_rfl) h)
def S_fettlelaw15_SourMoment_2 (x0 x1 x5 x6 : Value) (M : Store) (Q : Value → Store → Prop) : Prop :=
  P_fettlelaw15_SourMoment_3 x0 x1 x5 x6 (.slice none 0 0) (.int .i64 0) M Q
theorem T_fettlelaw15_SourMoment_2 {x0 x1 x5 x6 : Value} {M : Store} {Q : Value → Store → Prop} (h : S_fettlelaw15_SourMoment_2 x0 x1 x5 x6 M Q) : P_fettlelaw15_SourMoment_2 x0 x1 x5 x6 M Q := by
  intro f h0 h1 h5 h6; subst h0; subst h1; subst h5; subst h6
  unfold At
  exact rule (B := 1000) (N := 171) (ct := (.two .no (.two (.two .no (.two (.here 1000) .no)) (.here 1001))))
    [⟨1002, fun a M => dfr a.defers (P_fettlelaw15_SourMoment_3 (a.get 0) (a.get 1) (a.get 5) (a.get 6) (a.get 9) (a.get 10) M Q), fun a M => At Try.prog Ex none Try.f9 [1, 1, 1, 1, 1, 1, 0, 1, 0] a M Q⟩,
    ⟨1003, fun _ _ => False, fun a M => At Try.prog Ex none Try.f9 [1, 1, 1, 1, 1, 1, 1] a M Q⟩]
    [1000, 1001] [] (by kernel_rfl) (by kernel_rfl) (by kernel_rfl) (by kernel_rfl) (by kernel_rfl)
    ⟨fun a M hn h => by obtain ⟨⟨n, f⟩, ds⟩ := a; have hn : n = 171 := hn; subst hn; obtain ⟨hd, h⟩ := dfr_iff h; have hd : ds = [] := hd; subst hd; exact h f rfl rfl rfl rfl rfl rfl,
    fun _ _ _ h => h.elim,
    trivial⟩
    (cast (by kernel_rfl) h)
def S_fettlelaw15_SourMoment_3 (x0 x1 x5 x6 x9 x10 : Value) (M : Store) (Q : Value → Store → Prop) : Prop :=
  OP (lenV x0) fun t41 =>
  OP (binI .lss x10 t41) fun t42 =>
  BR t42 (
  OP (binI .lss x10 (.int .i64 6)) fun t45 =>
  BR t45 (
  P_fettlelaw15_SourMoment_4 x0 x1 x5 x6 x9 x10 M Q
  ) (
  P_fettlelaw15_SourMoment_5 x1 x5 x6 x9 M Q
  )
  ) (
  P_fettlelaw15_SourMoment_5 x1 x5 x6 x9 M Q
  )
theorem T_fettlelaw15_SourMoment_3 {x0 x1 x5 x6 x9 x10 : Value} {M : Store} {Q : Value → Store → Prop} (h : S_fettlelaw15_SourMoment_3 x0 x1 x5 x6 x9 x10 M Q) : P_fettlelaw15_SourMoment_3 x0 x1 x5 x6 x9 x10 M Q := by
  intro f h0 h1 h5 h6 h9 h10; subst h0; subst h1; subst h5; subst h6; subst h9; subst h10
  unfold At
  refine cast (by kernel_rfl) (CW.loop (P := Try.prog) (E := Ex) (rd := none) (x := sub (bodyOf Try.f9) [1, 1, 1, 1, 1, 1, 0, 1, 0, 0]) (a := ⟨⟨171, f⟩, []⟩) (M := M) (K := kcont Try.prog Ex none (bodyOf Try.f9) [1, 1, 1, 1, 1, 1, 0, 1, 0] (kfin Try.prog Try.f9.results.toList Q)) ?_)
  exact rule (B := 1000) (N := 171) (ct := (.two .no (.here 1000)))
    [⟨1002, fun a M => dfr a.defers (P_fettlelaw15_SourMoment_4 (a.get 0) (a.get 1) (a.get 5) (a.get 6) (a.get 9) (a.get 10) M Q), fun a M => At Try.prog Ex none Try.f9 [1, 1, 1, 1, 1, 1, 0, 1, 0, 0, 1] a M Q⟩,
    ⟨4, fun a M => dfr a.defers (P_fettlelaw15_SourMoment_5 (a.get 1) (a.get 5) (a.get 6) (a.get 9) M Q), fun a M => At Try.prog Ex none Try.f9 [1, 1, 1, 1, 1, 1, 1] a M Q⟩]
    [1000] [4] (by kernel_rfl) (by kernel_rfl) (by kernel_rfl) (by kernel_rfl) (by kernel_rfl)
    ⟨fun a M hn h => by obtain ⟨⟨n, f⟩, ds⟩ := a; have hn : n = 171 := hn; subst hn; obtain ⟨hd, h⟩ := dfr_iff h; have hd : ds = [] := hd; subst hd; exact h f rfl rfl rfl rfl rfl rfl,
    fun a M hn h => by obtain ⟨⟨n, f⟩, ds⟩ := a; have hn : n = 171 := hn; subst hn; obtain ⟨hd, h⟩ := dfr_iff h; have hd : ds = [] := hd; subst hd; exact h f rfl rfl rfl rfl,
    trivial⟩
    (cast (by kernel_rfl) h)
def S_fettlelaw15_SourMoment_4 (x0 x1 x5 x6 x9 x10 : Value) (M : Store) (Q : Value → Store → Prop) : Prop :=
  OP (ixA 1 x0 x10) fun t53 =>
  OP (ld 1 false t53 M) fun t54 =>
  OP (binI .and t54 (.int .i64 3)) fun t55 =>
  OP (ixA 1 x6 t55) fun t56 =>
  OP (ld 1 false t56 M) fun t57 =>
  OP (bldL (.string ⟨#[]⟩) 1 1 [(0, t57)]) fun c =>
  LT (.slice (some ⟨M.n, 0, none⟩) 1 1) (M.push (some (.inl (c, Ty.string, true)))) fun t58 M1 =>
  OP2 (appV 1 Ty.string x9 t58 M1) fun t59 M2 =>
  OP (binI .add x10 (.int .i64 1)) fun t48 =>
  P_fettlelaw15_SourMoment_3 x0 x1 x5 x6 t59 t48 M2 Q
theorem T_fettlelaw15_SourMoment_4 {x0 x1 x5 x6 x9 x10 : Value} {M : Store} {Q : Value → Store → Prop} (h : S_fettlelaw15_SourMoment_4 x0 x1 x5 x6 x9 x10 M Q) : P_fettlelaw15_SourMoment_4 x0 x1 x5 x6 x9 x10 M Q := by
  intro f h0 h1 h5 h6 h9 h10; subst h0; subst h1; subst h5; subst h6; subst h9; subst h10
  unfold At
  exact rule (B := 1000) (N := 171) (ct := .no)
    [⟨0, fun a M => dfr a.defers (P_fettlelaw15_SourMoment_3 (a.get 0) (a.get 1) (a.get 5) (a.get 6) (a.get 9) (a.get 10) M Q), fun a M => At Try.prog Ex none Try.f9 [1, 1, 1, 1, 1, 1, 0, 1, 0] a M Q⟩]
    [] [0] (by kernel_rfl) (by kernel_rfl) (by kernel_rfl) (by kernel_rfl) (by kernel_rfl)
    ⟨fun a M hn h => by obtain ⟨⟨n, f⟩, ds⟩ := a; have hn : n = 171 := hn; subst hn; obtain ⟨hd, h⟩ := dfr_iff h; have hd : ds = [] := hd; subst hd; exact h f rfl rfl rfl rfl rfl rfl,
    trivial⟩
    (cast (by kernel_rfl) h)
def S_fettlelaw15_SourMoment_5 (x1 x5 x6 x9 : Value) (M : Store) (Q : Value → Store → Prop) : Prop :=
  R F.sour_New #[x9, (.func (.func F.fettlelaw15_made) #[] #[])] M fun t61 M1 =>
  OP (abin Try.prog true .eql Ty.p_sour_Read t61 (.pointer none)) fun t63 =>
  BR t63 (
  NTs [(.bool false)] ∧ Q (.bool false) M1
  ) (
  P_fettlelaw15_SourMoment_6 x1 x5 x6 x9 t61 (.slice none 0 0) (.int .i64 0) (.int .i64 0) M1 Q
  )
theorem T_fettlelaw15_SourMoment_5 {x1 x5 x6 x9 : Value} {M : Store} {Q : Value → Store → Prop} (h : S_fettlelaw15_SourMoment_5 x1 x5 x6 x9 M Q) : P_fettlelaw15_SourMoment_5 x1 x5 x6 x9 M Q := by
  intro f h1 h5 h6 h9; subst h1; subst h5; subst h6; subst h9
  unfold At
  exact rule (B := 1000) (N := 171) (ct := (.two .no (.two .no (.two .no (.two .no (.two (.two .no (.two (.here 1000) .no)) (.here 1001)))))))
    [⟨1002, fun a M => dfr a.defers (P_fettlelaw15_SourMoment_6 (a.get 1) (a.get 5) (a.get 6) (a.get 9) (a.get 11) (a.get 12) (a.get 13) (a.get 14) M Q), fun a M => At Try.prog Ex none Try.f9 [1, 1, 1, 1, 1, 1, 1, 1, 1, 1, 1, 0, 1, 0] a M Q⟩,
    ⟨1003, fun _ _ => False, fun a M => At Try.prog Ex none Try.f9 [1, 1, 1, 1, 1, 1, 1, 1, 1, 1, 1, 1] a M Q⟩,
    ⟨1, fun a M => kfin Try.prog Try.f9.results.toList Q 1 a M, fun a M => kfin Try.prog Try.f9.results.toList Q 1 a M⟩]
    [1000, 1001] [1] (by kernel_rfl) (by kernel_rfl) (by kernel_rfl) (by kernel_rfl) (by kernel_rfl)
    ⟨fun a M hn h => by obtain ⟨⟨n, f⟩, ds⟩ := a; have hn : n = 171 := hn; subst hn; obtain ⟨hd, h⟩ := dfr_iff h; have hd : ds = [] := hd; subst hd; exact h f rfl rfl rfl rfl rfl rfl rfl rfl,
    fun _ _ _ h => h.elim,
    fun _ _ _ h => h,
    trivial⟩
    (cast (by kernel_rfl) h)
def S_fettlelaw15_SourMoment_6 (x1 x5 x6 x9 x11 x12 x13 x14 : Value) (M : Store) (Q : Value → Store → Prop) : Prop :=
  OP (binI .lss x14 (.int .i64 400)) fun t65 =>
  BR t65 (
  P_fettlelaw15_SourMoment_7 x1 x5 x6 x9 x11 x12 x13 x14 M Q
  ) (
  P_fettlelaw15_SourMoment_8 M Q
  )
theorem T_fettlelaw15_SourMoment_6 {x1 x5 x6 x9 x11 x12 x13 x14 : Value} {M : Store} {Q : Value → Store → Prop} (h : S_fettlelaw15_SourMoment_6 x1 x5 x6 x9 x11 x12 x13 x14 M Q) : P_fettlelaw15_SourMoment_6 x1 x5 x6 x9 x11 x12 x13 x14 M Q := by
  intro f h1 h5 h6 h9 h11 h12 h13 h14; subst h1; subst h5; subst h6; subst h9; subst h11; subst h12; subst h13; subst h14
  unfold At
  refine cast (by kernel_rfl) (CW.loop (P := Try.prog) (E := Ex) (rd := none) (x := sub (bodyOf Try.f9) [1, 1, 1, 1, 1, 1, 1, 1, 1, 1, 1, 0, 1, 0, 0]) (a := ⟨⟨171, f⟩, []⟩) (M := M) (K := kcont Try.prog Ex none (bodyOf Try.f9) [1, 1, 1, 1, 1, 1, 1, 1, 1, 1, 1, 0, 1, 0] (kfin Try.prog Try.f9.results.toList Q)) ?_)
  exact rule (B := 1000) (N := 171) (ct := (.two .no (.here 1000)))
    [⟨1002, fun a M => dfr a.defers (P_fettlelaw15_SourMoment_7 (a.get 1) (a.get 5) (a.get 6) (a.get 9) (a.get 11) (a.get 12) (a.get 13) (a.get 14) M Q), fun a M => At Try.prog Ex none Try.f9 [1, 1, 1, 1, 1, 1, 1, 1, 1, 1, 1, 0, 1, 0, 0, 1] a M Q⟩,
    ⟨6, fun a M => dfr a.defers (P_fettlelaw15_SourMoment_8 M Q), fun a M => At Try.prog Ex none Try.f9 [1, 1, 1, 1, 1, 1, 1, 1, 1, 1, 1, 1] a M Q⟩]
    [1000] [6] (by kernel_rfl) (by kernel_rfl) (by kernel_rfl) (by kernel_rfl) (by kernel_rfl)
    ⟨fun a M hn h => by obtain ⟨⟨n, f⟩, ds⟩ := a; have hn : n = 171 := hn; subst hn; obtain ⟨hd, h⟩ := dfr_iff h; have hd : ds = [] := hd; subst hd; exact h f rfl rfl rfl rfl rfl rfl rfl rfl,
    fun a M hn h => by obtain ⟨⟨n, f⟩, ds⟩ := a; have hn : n = 171 := hn; subst hn; obtain ⟨hd, h⟩ := dfr_iff h; have hd : ds = [] := hd; subst hd; exact h f,
    trivial⟩
    (cast (by kernel_rfl) h)
def S_fettlelaw15_SourMoment_7 (x1 x5 x6 x9 x11 x12 x13 x14 : Value) (M : Store) (Q : Value → Store → Prop) : Prop :=
  OP (lenV x9) fun t69 =>
  P_fettlelaw15_SourMoment_9 x1 x5 x6 x9 x11 x12 x13 x14 (.slice none 0 0) x9 t69 (.int .i64 0) M Q
theorem T_fettlelaw15_SourMoment_7 {x1 x5 x6 x9 x11 x12 x13 x14 : Value} {M : Store} {Q : Value → Store → Prop} (h : S_fettlelaw15_SourMoment_7 x1 x5 x6 x9 x11 x12 x13 x14 M Q) : P_fettlelaw15_SourMoment_7 x1 x5 x6 x9 x11 x12 x13 x14 M Q := by
  intro f h1 h5 h6 h9 h11 h12 h13 h14; subst h1; subst h5; subst h6; subst h9; subst h11; subst h12; subst h13; subst h14
  unfold At
  exact rule (B := 1000) (N := 171) (ct := (.two (.two (.two .no (.two (.two .no (.two (.here 1000) .no)) (.here 1001))) .no) (.here 1002)))
    [⟨1002, fun a M => dfr a.defers (P_fettlelaw15_SourMoment_9 (a.get 1) (a.get 5) (a.get 6) (a.get 9) (a.get 11) (a.get 12) (a.get 13) (a.get 14) (a.get 15) (a.get 68) (a.get 69) (a.get 70) M Q), fun a M => At Try.prog Ex none Try.f9 [1, 1, 1, 1, 1, 1, 1, 1, 1, 1, 1, 0, 1, 0, 0, 1, 0, 0, 1, 0, 1, 0] a M Q⟩,
    ⟨1003, fun _ _ => False, fun a M => At Try.prog Ex none Try.f9 [1, 1, 1, 1, 1, 1, 1, 1, 1, 1, 1, 0, 1, 0, 0, 1, 0, 0, 1, 1] a M Q⟩,
    ⟨1004, fun _ _ => False, fun a M => At Try.prog Ex none Try.f9 [1, 1, 1, 1, 1, 1, 1, 1, 1, 1, 1, 0, 1, 0, 0, 1, 1] a M Q⟩]
    [1000, 1001, 1002] [] (by kernel_rfl) (by kernel_rfl) (by kernel_rfl) (by kernel_rfl) (by kernel_rfl)
    ⟨fun a M hn h => by obtain ⟨⟨n, f⟩, ds⟩ := a; have hn : n = 171 := hn; subst hn; obtain ⟨hd, h⟩ := dfr_iff h; have hd : ds = [] := hd; subst hd; exact h f rfl rfl rfl rfl rfl rfl rfl rfl rfl rfl rfl rfl,
    fun _ _ _ h => h.elim,
    fun _ _ _ h => h.elim,
    trivial⟩
    (cast (by kernel_rfl) h)
def S_fettlelaw15_SourMoment_8 (M : Store) (Q : Value → Store → Prop) : Prop :=
  NTs [(.bool false)] ∧ Q (.bool false) M
theorem T_fettlelaw15_SourMoment_8 {M : Store} {Q : Value → Store → Prop} (h : S_fettlelaw15_SourMoment_8 M Q) : P_fettlelaw15_SourMoment_8 M Q := by
  intro f 
  unfold At
  exact rule (B := 1000) (N := 171) (ct := .no)
    [⟨1, fun a M => kfin Try.prog Try.f9.results.toList Q 1 a M, fun a M => kfin Try.prog Try.f9.results.toList Q 1 a M⟩]
    [] [1] (by kernel_rfl) (by kernel_rfl) (by kernel_rfl) (by kernel_rfl) (by kernel_rfl)
    ⟨fun _ _ _ h => h,
    trivial⟩
    (cast (by kernel_rfl) h)
def S_fettlelaw15_SourMoment_9 (x1 x5 x6 x9 x11 x12 x13 x14 x15 x68 x69 x70 : Value) (M : Store) (Q : Value → Store → Prop) : Prop :=
  OP (binI .lss x70 x69) fun t71 =>
  BR t71 (
  OP (ixA 1 x68 x70) fun t72 =>
  OP (ld 1 false t72 M) fun t73 =>
  R F.fettlelaw15_value #[x5, t73] M fun t77 M1 =>
  OP (bldL (.slice none 0 0) 1 1 [(0, t77)]) fun c =>
  LT (.slice (some ⟨M1.n, 0, none⟩) 1 1) (M1.push (some (.inl (c, Ty.sl_uint8, true)))) fun t78 M2 =>
  OP2 (appV 1 Ty.sl_uint8 x15 t78 M2) fun t79 M3 =>
  OP (binI .add x70 (.int .i64 1)) fun t80 =>
  P_fettlelaw15_SourMoment_9 x1 x5 x6 x9 x11 x12 x13 x14 t79 x68 x69 t80 M3 Q
  ) (
  P_fettlelaw15_SourMoment_10 x1 x5 x6 x9 x11 x12 x13 x14 x15 M Q
  )
theorem T_fettlelaw15_SourMoment_9 {x1 x5 x6 x9 x11 x12 x13 x14 x15 x68 x69 x70 : Value} {M : Store} {Q : Value → Store → Prop} (h : S_fettlelaw15_SourMoment_9 x1 x5 x6 x9 x11 x12 x13 x14 x15 x68 x69 x70 M Q) : P_fettlelaw15_SourMoment_9 x1 x5 x6 x9 x11 x12 x13 x14 x15 x68 x69 x70 M Q := by
  intro f h1 h5 h6 h9 h11 h12 h13 h14 h15 h68 h69 h70; subst h1; subst h5; subst h6; subst h9; subst h11; subst h12; subst h13; subst h14; subst h15; subst h68; subst h69; subst h70
  unfold At
  refine cast (by kernel_rfl) (CW.loop (P := Try.prog) (E := Ex) (rd := none) (x := sub (bodyOf Try.f9) [1, 1, 1, 1, 1, 1, 1, 1, 1, 1, 1, 0, 1, 0, 0, 1, 0, 0, 1, 0, 1, 0, 0]) (a := ⟨⟨171, f⟩, []⟩) (M := M) (K := kcont Try.prog Ex none (bodyOf Try.f9) [1, 1, 1, 1, 1, 1, 1, 1, 1, 1, 1, 0, 1, 0, 0, 1, 0, 0, 1, 0, 1, 0] (kfin Try.prog Try.f9.results.toList Q)) ?_)
  exact rule (B := 1000) (N := 171) (ct := .no)
    [⟨0, fun a M => dfr a.defers (P_fettlelaw15_SourMoment_9 (a.get 1) (a.get 5) (a.get 6) (a.get 9) (a.get 11) (a.get 12) (a.get 13) (a.get 14) (a.get 15) (a.get 68) (a.get 69) (a.get 70) M Q), fun a M => At Try.prog Ex none Try.f9 [1, 1, 1, 1, 1, 1, 1, 1, 1, 1, 1, 0, 1, 0, 0, 1, 0, 0, 1, 0, 1, 0] a M Q⟩,
    ⟨8, fun a M => dfr a.defers (P_fettlelaw15_SourMoment_10 (a.get 1) (a.get 5) (a.get 6) (a.get 9) (a.get 11) (a.get 12) (a.get 13) (a.get 14) (a.get 15) M Q), fun a M => At Try.prog Ex none Try.f9 [1, 1, 1, 1, 1, 1, 1, 1, 1, 1, 1, 0, 1, 0, 0, 1, 0, 0, 1, 1] a M Q⟩]
    [] [0, 8] (by kernel_rfl) (by kernel_rfl) (by kernel_rfl) (by kernel_rfl) (by kernel_rfl)
    ⟨fun a M hn h => by obtain ⟨⟨n, f⟩, ds⟩ := a; have hn : n = 171 := hn; subst hn; obtain ⟨hd, h⟩ := dfr_iff h; have hd : ds = [] := hd; subst hd; exact h f rfl rfl rfl rfl rfl rfl rfl rfl rfl rfl rfl rfl,
    fun a M hn h => by obtain ⟨⟨n, f⟩, ds⟩ := a; have hn : n = 171 := hn; subst hn; obtain ⟨hd, h⟩ := dfr_iff h; have hd : ds = [] := hd; subst hd; exact h f rfl rfl rfl rfl rfl rfl rfl rfl rfl,
    trivial⟩
    (cast (by kernel_rfl) h)
def S_fettlelaw15_SourMoment_10 (x1 x5 x6 x9 x11 x12 x13 x14 x15 : Value) (M : Store) (Q : Value → Store → Prop) : Prop :=
  OP (bldL (.slice none 0 0) 1 1 [(0, x15)]) fun c =>
  LT (.slice (some ⟨M.n, 0, none⟩) 1 1) (M.push (some (.inl (c, Ty.sl_sl_uint8, true)))) fun t83 M1 =>
  OP2 (appV 1 Ty.sl_sl_uint8 x12 t83 M1) fun t84 M2 =>
  R F.sour_Read_Step #[x11, x5] M2 fun t87 M3 =>
  OP (binI .eql t87 (.int .i64 1)) fun t89 =>
  BR t89 (
  R F.sour_Read_Values #[x11] M3 fun t92 M4 =>
  OP (tup t92 0) fun t93 =>
  OP (tup t92 1) fun t94 =>
  OP (lenV t84) fun t96 =>
  P_fettlelaw15_SourMoment_11 x5 x9 x11 x13 t93 t94 t84 t96 (.int .i64 0) M4 Q
  ) (
  P_fettlelaw15_SourMoment_12 x1 x5 x6 x9 x11 t84 x13 x14 t87 M3 Q
  )
theorem T_fettlelaw15_SourMoment_10 {x1 x5 x6 x9 x11 x12 x13 x14 x15 : Value} {M : Store} {Q : Value → Store → Prop} (h : S_fettlelaw15_SourMoment_10 x1 x5 x6 x9 x11 x12 x13 x14 x15 M Q) : P_fettlelaw15_SourMoment_10 x1 x5 x6 x9 x11 x12 x13 x14 x15 M Q := by
  intro f h1 h5 h6 h9 h11 h12 h13 h14 h15; subst h1; subst h5; subst h6; subst h9; subst h11; subst h12; subst h13; subst h14; subst h15
  unfold At
  exact rule (B := 1000) (N := 171) (ct := (.two .no (.two .no (.two (.two .no (.two (.two .no (.two (.two .no (.two (.here 1000) .no)) (.here 1001))) .no)) (.here 1002)))))
    [⟨1002, fun a M => dfr a.defers (P_fettlelaw15_SourMoment_11 (a.get 5) (a.get 9) (a.get 11) (a.get 13) (a.get 19) (a.get 20) (a.get 95) (a.get 96) (a.get 97) M Q), fun a M => At Try.prog Ex none Try.f9 [1, 1, 1, 1, 1, 1, 1, 1, 1, 1, 1, 0, 1, 0, 0, 1, 0, 0, 1, 1, 1, 1, 0, 1, 0, 1, 0, 1, 0] a M Q⟩,
    ⟨1003, fun _ _ => False, fun a M => At Try.prog Ex none Try.f9 [1, 1, 1, 1, 1, 1, 1, 1, 1, 1, 1, 0, 1, 0, 0, 1, 0, 0, 1, 1, 1, 1, 0, 1, 0, 1, 1] a M Q⟩,
    ⟨1004, fun a M => dfr a.defers (P_fettlelaw15_SourMoment_12 (a.get 1) (a.get 5) (a.get 6) (a.get 9) (a.get 11) (a.get 12) (a.get 13) (a.get 14) (a.get 18) M Q), fun a M => At Try.prog Ex none Try.f9 [1, 1, 1, 1, 1, 1, 1, 1, 1, 1, 1, 0, 1, 0, 0, 1, 0, 0, 1, 1, 1, 1, 1] a M Q⟩]
    [1000, 1001, 1002] [] (by kernel_rfl) (by kernel_rfl) (by kernel_rfl) (by kernel_rfl) (by kernel_rfl)
    ⟨fun a M hn h => by obtain ⟨⟨n, f⟩, ds⟩ := a; have hn : n = 171 := hn; subst hn; obtain ⟨hd, h⟩ := dfr_iff h; have hd : ds = [] := hd; subst hd; exact h f rfl rfl rfl rfl rfl rfl rfl rfl rfl,
    fun _ _ _ h => h.elim,
    fun a M hn h => by obtain ⟨⟨n, f⟩, ds⟩ := a; have hn : n = 171 := hn; subst hn; obtain ⟨hd, h⟩ := dfr_iff h; have hd : ds = [] := hd; subst hd; exact h f rfl rfl rfl rfl rfl rfl rfl rfl rfl,
    trivial⟩
    (cast (by kernel_rfl) h)
def S_fettlelaw15_SourMoment_11 (x5 x9 x11 x13 x19 x20 x95 x96 x97 : Value) (M : Store) (Q : Value → Store → Prop) : Prop :=
  OP (binI .lss x97 x96) fun t98 =>
  BR t98 (
  P_fettlelaw15_SourMoment_13 x5 x9 x11 x13 x19 x20 x95 x96 x97 M Q
  ) (
  P_fettlelaw15_SourMoment_14 M Q
  )
theorem T_fettlelaw15_SourMoment_11 {x5 x9 x11 x13 x19 x20 x95 x96 x97 : Value} {M : Store} {Q : Value → Store → Prop} (h : S_fettlelaw15_SourMoment_11 x5 x9 x11 x13 x19 x20 x95 x96 x97 M Q) : P_fettlelaw15_SourMoment_11 x5 x9 x11 x13 x19 x20 x95 x96 x97 M Q := by
  intro f h5 h9 h11 h13 h19 h20 h95 h96 h97; subst h5; subst h9; subst h11; subst h13; subst h19; subst h20; subst h95; subst h96; subst h97
  unfold At
  refine cast (by kernel_rfl) (CW.loop (P := Try.prog) (E := Ex) (rd := none) (x := sub (bodyOf Try.f9) [1, 1, 1, 1, 1, 1, 1, 1, 1, 1, 1, 0, 1, 0, 0, 1, 0, 0, 1, 1, 1, 1, 0, 1, 0, 1, 0, 1, 0, 0]) (a := ⟨⟨171, f⟩, []⟩) (M := M) (K := kcont Try.prog Ex none (bodyOf Try.f9) [1, 1, 1, 1, 1, 1, 1, 1, 1, 1, 1, 0, 1, 0, 0, 1, 0, 0, 1, 1, 1, 1, 0, 1, 0, 1, 0, 1, 0] (kfin Try.prog Try.f9.results.toList Q)) ?_)
  exact rule (B := 1000) (N := 171) (ct := (.two .no (.two .no (.here 1000))))
    [⟨1002, fun a M => dfr a.defers (P_fettlelaw15_SourMoment_13 (a.get 5) (a.get 9) (a.get 11) (a.get 13) (a.get 19) (a.get 20) (a.get 95) (a.get 96) (a.get 97) M Q), fun a M => At Try.prog Ex none Try.f9 [1, 1, 1, 1, 1, 1, 1, 1, 1, 1, 1, 0, 1, 0, 0, 1, 0, 0, 1, 1, 1, 1, 0, 1, 0, 1, 0, 1, 0, 0, 1, 1] a M Q⟩,
    ⟨10, fun a M => dfr a.defers (P_fettlelaw15_SourMoment_14 M Q), fun a M => At Try.prog Ex none Try.f9 [1, 1, 1, 1, 1, 1, 1, 1, 1, 1, 1, 0, 1, 0, 0, 1, 0, 0, 1, 1, 1, 1, 0, 1, 0, 1, 1] a M Q⟩]
    [1000] [10] (by kernel_rfl) (by kernel_rfl) (by kernel_rfl) (by kernel_rfl) (by kernel_rfl)
    ⟨fun a M hn h => by obtain ⟨⟨n, f⟩, ds⟩ := a; have hn : n = 171 := hn; subst hn; obtain ⟨hd, h⟩ := dfr_iff h; have hd : ds = [] := hd; subst hd; exact h f rfl rfl rfl rfl rfl rfl rfl rfl rfl,
    fun a M hn h => by obtain ⟨⟨n, f⟩, ds⟩ := a; have hn : n = 171 := hn; subst hn; obtain ⟨hd, h⟩ := dfr_iff h; have hd : ds = [] := hd; subst hd; exact h f,
    trivial⟩
    (cast (by kernel_rfl) h)
def S_fettlelaw15_SourMoment_12 (x1 x5 x6 x9 x11 x12 x13 x14 x18 : Value) (M : Store) (Q : Value → Store → Prop) : Prop :=
  OP (binI .neq x18 (.int .i64 0)) fun t137 =>
  BR t137 (
  NTs [(.bool false)] ∧ Q (.bool false) M
  ) (
  OP (lenV x1) fun t140 =>
  OP (binI .lss x13 t140) fun t141 =>
  BR t141 (
  OP (binI .lss x13 (.int .i64 60)) fun t144 =>
  BR t144 (
  OP (ixA 1 x1 x13) fun t148 =>
  OP (ld 1 false t148 M) fun t149 =>
  OP (binI .and t149 (.int .i64 3)) fun t150 =>
  OP (binI .gtr t150 (.int .i64 0)) fun t151 =>
  BR t151 (
  OP (ixA 1 x1 x13) fun t156 =>
  OP (ld 1 false t156 M) fun t157 =>
  OP (binI .shr t157 (.int .u64 2)) fun t158 =>
  OP (binI .and t158 (.int .i64 3)) fun t159 =>
  OP (ixA 1 x6 t159) fun t160 =>
  OP (ld 1 false t160 M) fun t161 =>
  OP (ixA 1 x1 x13) fun t164 =>
  OP (ld 1 false t164 M) fun t165 =>
  OP (binI .shr t165 (.int .u64 4)) fun t166 =>
  OP (binI .and t166 (.int .i64 1)) fun t167 =>
  R F.fettlelaw15_write #[x5, t161, t167] M fun t168 M1 =>
  TDx [0, 0, 0, 0, 12, 28, 60, 124, 254, 510, 0, 0, 3072, 7168, 15360, 31744, 65535] [M.n, M.n, M.n, M.n, M.n, M.n, M.n, M.n, M.n, M.n, M.n, M.n, M.n, M.n, M.n, M.n, M.n] 16 M M1 ∧
  OP (binI .add x13 (.int .i64 1)) fun t170 =>
  P_fettlelaw15_SourMoment_15 x1 x5 x6 x9 x11 x12 t170 x14 M1 Q
  ) (
  OP (binI .add x13 (.int .i64 1)) fun t170_1 =>
  P_fettlelaw15_SourMoment_15 x1 x5 x6 x9 x11 x12 t170_1 x14 M Q
  )
  ) (
  P_fettlelaw15_SourMoment_15 x1 x5 x6 x9 x11 x12 x13 x14 M Q
  )
  ) (
  P_fettlelaw15_SourMoment_15 x1 x5 x6 x9 x11 x12 x13 x14 M Q
  )
  )
theorem T_fettlelaw15_SourMoment_12 {x1 x5 x6 x9 x11 x12 x13 x14 x18 : Value} {M : Store} {Q : Value → Store → Prop} (h : S_fettlelaw15_SourMoment_12 x1 x5 x6 x9 x11 x12 x13 x14 x18 M Q) : P_fettlelaw15_SourMoment_12 x1 x5 x6 x9 x11 x12 x13 x14 x18 M Q := by
  intro f h1 h5 h6 h9 h11 h12 h13 h14 h18; subst h1; subst h5; subst h6; subst h9; subst h11; subst h12; subst h13; subst h14; subst h18
  unfold At
  exact rule (B := 1000) (N := 171) (ct := .no)
    [⟨0, fun a M => dfr a.defers (P_fettlelaw15_SourMoment_15 (a.get 1) (a.get 5) (a.get 6) (a.get 9) (a.get 11) (a.get 12) (a.get 13) (a.get 14) M Q), fun a M => At Try.prog Ex none Try.f9 [1, 1, 1, 1, 1, 1, 1, 1, 1, 1, 1, 0, 1, 0, 0, 1, 1] a M Q⟩,
    ⟨1, fun a M => kfin Try.prog Try.f9.results.toList Q 1 a M, fun a M => kfin Try.prog Try.f9.results.toList Q 1 a M⟩]
    [] [0, 1] (by kernel_rfl) (by kernel_rfl) (by kernel_rfl) (by kernel_rfl) (by kernel_rfl)
    ⟨fun a M hn h => by obtain ⟨⟨n, f⟩, ds⟩ := a; have hn : n = 171 := hn; subst hn; obtain ⟨hd, h⟩ := dfr_iff h; have hd : ds = [] := hd; subst hd; exact h f rfl rfl rfl rfl rfl rfl rfl rfl,
    fun _ _ _ h => h,
    trivial⟩
    (cast (by kernel_rfl) h)
def S_fettlelaw15_SourMoment_13 (x5 x9 x11 x13 x19 x20 x95 x96 x97 : Value) (M : Store) (Q : Value → Store → Prop) : Prop :=
  OP (ixA 1 x95 x97) fun t99 =>
  OP (ld 1 false t99 M) fun t100 =>
  BR x20 (
  R F.fettleref1_SameRows #[t100, x19] M fun t105 M1 =>
  BR t105 (
  R F.sour_Read_Stamps #[x11] M1 fun t108 M2 =>
  OP (lenV t108) fun t109 =>
  P_fettlelaw15_SourMoment_16 x5 x9 x11 x13 t108 t109 (.int .i64 0) M2 Q
  ) (
  P_fettlelaw15_SourMoment_17 x5 x9 x11 x13 x19 x20 x95 x96 x97 M1 Q
  )
  ) (
  P_fettlelaw15_SourMoment_17 x5 x9 x11 x13 x19 x20 x95 x96 x97 M Q
  )
theorem T_fettlelaw15_SourMoment_13 {x5 x9 x11 x13 x19 x20 x95 x96 x97 : Value} {M : Store} {Q : Value → Store → Prop} (h : S_fettlelaw15_SourMoment_13 x5 x9 x11 x13 x19 x20 x95 x96 x97 M Q) : P_fettlelaw15_SourMoment_13 x5 x9 x11 x13 x19 x20 x95 x96 x97 M Q := by
  intro f h5 h9 h11 h13 h19 h20 h95 h96 h97; subst h5; subst h9; subst h11; subst h13; subst h19; subst h20; subst h95; subst h96; subst h97
  unfold At
  exact rule (B := 1000) (N := 171) (ct := (.two (.two (.two .no (.two .no (.two (.two (.two .no (.two (.here 1000) .no)) (.here 1001)) .no))) .no) (.here 1002)))
    [⟨1002, fun a M => dfr a.defers (P_fettlelaw15_SourMoment_16 (a.get 5) (a.get 9) (a.get 11) (a.get 13) (a.get 108) (a.get 109) (a.get 110) M Q), fun a M => At Try.prog Ex none Try.f9 [1, 1, 1, 1, 1, 1, 1, 1, 1, 1, 1, 0, 1, 0, 0, 1, 0, 0, 1, 1, 1, 1, 0, 1, 0, 1, 0, 1, 0, 0, 1, 1, 0, 0, 1, 1, 0, 0, 1, 0] a M Q⟩,
    ⟨1003, fun _ _ => False, fun a M => At Try.prog Ex none Try.f9 [1, 1, 1, 1, 1, 1, 1, 1, 1, 1, 1, 0, 1, 0, 0, 1, 0, 0, 1, 1, 1, 1, 0, 1, 0, 1, 0, 1, 0, 0, 1, 1, 0, 0, 1, 1, 0, 1] a M Q⟩,
    ⟨1004, fun a M => dfr a.defers (P_fettlelaw15_SourMoment_17 (a.get 5) (a.get 9) (a.get 11) (a.get 13) (a.get 19) (a.get 20) (a.get 95) (a.get 96) (a.get 97) M Q), fun a M => At Try.prog Ex none Try.f9 [1, 1, 1, 1, 1, 1, 1, 1, 1, 1, 1, 0, 1, 0, 0, 1, 0, 0, 1, 1, 1, 1, 0, 1, 0, 1, 0, 1, 0, 0, 1, 1, 1] a M Q⟩]
    [1000, 1001, 1002] [] (by kernel_rfl) (by kernel_rfl) (by kernel_rfl) (by kernel_rfl) (by kernel_rfl)
    ⟨fun a M hn h => by obtain ⟨⟨n, f⟩, ds⟩ := a; have hn : n = 171 := hn; subst hn; obtain ⟨hd, h⟩ := dfr_iff h; have hd : ds = [] := hd; subst hd; exact h f rfl rfl rfl rfl rfl rfl rfl,
    fun _ _ _ h => h.elim,
    fun a M hn h => by obtain ⟨⟨n, f⟩, ds⟩ := a; have hn : n = 171 := hn; subst hn; obtain ⟨hd, h⟩ := dfr_iff h; have hd : ds = [] := hd; subst hd; exact h f rfl rfl rfl rfl rfl rfl rfl rfl rfl,
    trivial⟩
    (cast (by kernel_rfl) h)
def S_fettlelaw15_SourMoment_14 (M : Store) (Q : Value → Store → Prop) : Prop :=
  NTs [(.bool false)] ∧ Q (.bool false) M
theorem T_fettlelaw15_SourMoment_14 {M : Store} {Q : Value → Store → Prop} (h : S_fettlelaw15_SourMoment_14 M Q) : P_fettlelaw15_SourMoment_14 M Q := by
  intro f 
  unfold At
  exact rule (B := 1000) (N := 171) (ct := .no)
    [⟨1, fun a M => kfin Try.prog Try.f9.results.toList Q 1 a M, fun a M => kfin Try.prog Try.f9.results.toList Q 1 a M⟩]
    [] [1] (by kernel_rfl) (by kernel_rfl) (by kernel_rfl) (by kernel_rfl) (by kernel_rfl)
    ⟨fun _ _ _ h => h,
    trivial⟩
    (cast (by kernel_rfl) h)
def S_fettlelaw15_SourMoment_15 (x1 x5 x6 x9 x11 x12 x13 x14 : Value) (M : Store) (Q : Value → Store → Prop) : Prop :=
  OP (binI .add x14 (.int .i64 1)) fun t67 =>
  P_fettlelaw15_SourMoment_6 x1 x5 x6 x9 x11 x12 x13 t67 M Q
theorem T_fettlelaw15_SourMoment_15 {x1 x5 x6 x9 x11 x12 x13 x14 : Value} {M : Store} {Q : Value → Store → Prop} (h : S_fettlelaw15_SourMoment_15 x1 x5 x6 x9 x11 x12 x13 x14 M Q) : P_fettlelaw15_SourMoment_15 x1 x5 x6 x9 x11 x12 x13 x14 M Q := by
  intro f h1 h5 h6 h9 h11 h12 h13 h14; subst h1; subst h5; subst h6; subst h9; subst h11; subst h12; subst h13; subst h14
  unfold At
  exact rule (B := 1000) (N := 171) (ct := .no)
    [⟨0, fun a M => dfr a.defers (P_fettlelaw15_SourMoment_6 (a.get 1) (a.get 5) (a.get 6) (a.get 9) (a.get 11) (a.get 12) (a.get 13) (a.get 14) M Q), fun a M => At Try.prog Ex none Try.f9 [1, 1, 1, 1, 1, 1, 1, 1, 1, 1, 1, 0, 1, 0] a M Q⟩]
    [] [0] (by kernel_rfl) (by kernel_rfl) (by kernel_rfl) (by kernel_rfl) (by kernel_rfl)
    ⟨fun a M hn h => by obtain ⟨⟨n, f⟩, ds⟩ := a; have hn : n = 171 := hn; subst hn; obtain ⟨hd, h⟩ := dfr_iff h; have hd : ds = [] := hd; subst hd; exact h f rfl rfl rfl rfl rfl rfl rfl rfl,
    trivial⟩
    (cast (by kernel_rfl) h)
def S_fettlelaw15_SourMoment_16 (x5 x9 x11 x13 x108 x109 x110 : Value) (M : Store) (Q : Value → Store → Prop) : Prop :=
  OP (binI .lss x110 x109) fun t111 =>
  BR t111 (
  P_fettlelaw15_SourMoment_18 x5 x9 x11 x13 x108 x109 x110 M Q
  ) (
  P_fettlelaw15_SourMoment_19 x5 x11 M Q
  )
theorem T_fettlelaw15_SourMoment_16 {x5 x9 x11 x13 x108 x109 x110 : Value} {M : Store} {Q : Value → Store → Prop} (h : S_fettlelaw15_SourMoment_16 x5 x9 x11 x13 x108 x109 x110 M Q) : P_fettlelaw15_SourMoment_16 x5 x9 x11 x13 x108 x109 x110 M Q := by
  intro f h5 h9 h11 h13 h108 h109 h110; subst h5; subst h9; subst h11; subst h13; subst h108; subst h109; subst h110
  unfold At
  refine cast (by kernel_rfl) (CW.loop (P := Try.prog) (E := Ex) (rd := none) (x := sub (bodyOf Try.f9) [1, 1, 1, 1, 1, 1, 1, 1, 1, 1, 1, 0, 1, 0, 0, 1, 0, 0, 1, 1, 1, 1, 0, 1, 0, 1, 0, 1, 0, 0, 1, 1, 0, 0, 1, 1, 0, 0, 1, 0, 0]) (a := ⟨⟨171, f⟩, []⟩) (M := M) (K := kcont Try.prog Ex none (bodyOf Try.f9) [1, 1, 1, 1, 1, 1, 1, 1, 1, 1, 1, 0, 1, 0, 0, 1, 0, 0, 1, 1, 1, 1, 0, 1, 0, 1, 0, 1, 0, 0, 1, 1, 0, 0, 1, 1, 0, 0, 1, 0] (kfin Try.prog Try.f9.results.toList Q)) ?_)
  exact rule (B := 1000) (N := 171) (ct := (.two .no (.two .no (.here 1000))))
    [⟨1002, fun a M => dfr a.defers (P_fettlelaw15_SourMoment_18 (a.get 5) (a.get 9) (a.get 11) (a.get 13) (a.get 108) (a.get 109) (a.get 110) M Q), fun a M => At Try.prog Ex none Try.f9 [1, 1, 1, 1, 1, 1, 1, 1, 1, 1, 1, 0, 1, 0, 0, 1, 0, 0, 1, 1, 1, 1, 0, 1, 0, 1, 0, 1, 0, 0, 1, 1, 0, 0, 1, 1, 0, 0, 1, 0, 0, 1, 1] a M Q⟩,
    ⟨12, fun a M => dfr a.defers (P_fettlelaw15_SourMoment_19 (a.get 5) (a.get 11) M Q), fun a M => At Try.prog Ex none Try.f9 [1, 1, 1, 1, 1, 1, 1, 1, 1, 1, 1, 0, 1, 0, 0, 1, 0, 0, 1, 1, 1, 1, 0, 1, 0, 1, 0, 1, 0, 0, 1, 1, 0, 0, 1, 1, 0, 1] a M Q⟩]
    [1000] [12] (by kernel_rfl) (by kernel_rfl) (by kernel_rfl) (by kernel_rfl) (by kernel_rfl)
    ⟨fun a M hn h => by obtain ⟨⟨n, f⟩, ds⟩ := a; have hn : n = 171 := hn; subst hn; obtain ⟨hd, h⟩ := dfr_iff h; have hd : ds = [] := hd; subst hd; exact h f rfl rfl rfl rfl rfl rfl rfl,
    fun a M hn h => by obtain ⟨⟨n, f⟩, ds⟩ := a; have hn : n = 171 := hn; subst hn; obtain ⟨hd, h⟩ := dfr_iff h; have hd : ds = [] := hd; subst hd; exact h f rfl rfl,
    trivial⟩
    (cast (by kernel_rfl) h)
def S_fettlelaw15_SourMoment_17 (x5 x9 x11 x13 x19 x20 x95 x96 x97 : Value) (M : Store) (Q : Value → Store → Prop) : Prop :=
  OP (binI .add x97 (.int .i64 1)) fun t135 =>
  P_fettlelaw15_SourMoment_11 x5 x9 x11 x13 x19 x20 x95 x96 t135 M Q
theorem T_fettlelaw15_SourMoment_17 {x5 x9 x11 x13 x19 x20 x95 x96 x97 : Value} {M : Store} {Q : Value → Store → Prop} (h : S_fettlelaw15_SourMoment_17 x5 x9 x11 x13 x19 x20 x95 x96 x97 M Q) : P_fettlelaw15_SourMoment_17 x5 x9 x11 x13 x19 x20 x95 x96 x97 M Q := by
  intro f h5 h9 h11 h13 h19 h20 h95 h96 h97; subst h5; subst h9; subst h11; subst h13; subst h19; subst h20; subst h95; subst h96; subst h97
  unfold At
  exact rule (B := 1000) (N := 171) (ct := .no)
    [⟨0, fun a M => dfr a.defers (P_fettlelaw15_SourMoment_11 (a.get 5) (a.get 9) (a.get 11) (a.get 13) (a.get 19) (a.get 20) (a.get 95) (a.get 96) (a.get 97) M Q), fun a M => At Try.prog Ex none Try.f9 [1, 1, 1, 1, 1, 1, 1, 1, 1, 1, 1, 0, 1, 0, 0, 1, 0, 0, 1, 1, 1, 1, 0, 1, 0, 1, 0, 1, 0] a M Q⟩]
    [] [0] (by kernel_rfl) (by kernel_rfl) (by kernel_rfl) (by kernel_rfl) (by kernel_rfl)
    ⟨fun a M hn h => by obtain ⟨⟨n, f⟩, ds⟩ := a; have hn : n = 171 := hn; subst hn; obtain ⟨hd, h⟩ := dfr_iff h; have hd : ds = [] := hd; subst hd; exact h f rfl rfl rfl rfl rfl rfl rfl rfl rfl,
    trivial⟩
    (cast (by kernel_rfl) h)
def S_fettlelaw15_SourMoment_18 (x5 x9 x11 x13 x108 x109 x110 : Value) (M : Store) (Q : Value → Store → Prop) : Prop :=
  OP (ixA 1 x108 x110) fun t113 =>
  OP (ld 1 false t113 M) fun t114 =>
  OP (ixA 1 x9 x110) fun t119 =>
  OP (ld 1 false t119 M) fun t120 =>
  R F.simf_FS_Stamp #[x5, t120] M fun t121 M1 =>
  OP (binI .neq t114 t121) fun t122 =>
  BR t122 (
  OP (binI .eql x13 (.int .i64 0)) fun t125 =>
  BR t125 (
  NTs [(.bool false)] ∧ Q (.bool false) M1
  ) (
  OP (binI .add x110 (.int .i64 1)) fun t127 =>
  P_fettlelaw15_SourMoment_16 x5 x9 x11 x13 x108 x109 t127 M1 Q
  )
  ) (
  OP (binI .add x110 (.int .i64 1)) fun t127_1 =>
  P_fettlelaw15_SourMoment_16 x5 x9 x11 x13 x108 x109 t127_1 M1 Q
  )
theorem T_fettlelaw15_SourMoment_18 {x5 x9 x11 x13 x108 x109 x110 : Value} {M : Store} {Q : Value → Store → Prop} (h : S_fettlelaw15_SourMoment_18 x5 x9 x11 x13 x108 x109 x110 M Q) : P_fettlelaw15_SourMoment_18 x5 x9 x11 x13 x108 x109 x110 M Q := by
  intro f h5 h9 h11 h13 h108 h109 h110; subst h5; subst h9; subst h11; subst h13; subst h108; subst h109; subst h110
  unfold At
  exact rule (B := 1000) (N := 171) (ct := .no)
    [⟨0, fun a M => dfr a.defers (P_fettlelaw15_SourMoment_16 (a.get 5) (a.get 9) (a.get 11) (a.get 13) (a.get 108) (a.get 109) (a.get 110) M Q), fun a M => At Try.prog Ex none Try.f9 [1, 1, 1, 1, 1, 1, 1, 1, 1, 1, 1, 0, 1, 0, 0, 1, 0, 0, 1, 1, 1, 1, 0, 1, 0, 1, 0, 1, 0, 0, 1, 1, 0, 0, 1, 1, 0, 0, 1, 0] a M Q⟩,
    ⟨1, fun a M => kfin Try.prog Try.f9.results.toList Q 1 a M, fun a M => kfin Try.prog Try.f9.results.toList Q 1 a M⟩]
    [] [0, 1] (by kernel_rfl) (by kernel_rfl) (by kernel_rfl) (by kernel_rfl) (by kernel_rfl)
    ⟨fun a M hn h => by obtain ⟨⟨n, f⟩, ds⟩ := a; have hn : n = 171 := hn; subst hn; obtain ⟨hd, h⟩ := dfr_iff h; have hd : ds = [] := hd; subst hd; exact h f rfl rfl rfl rfl rfl rfl rfl,
    fun _ _ _ h => h,
    trivial⟩
    (cast (by kernel_rfl) h)
def S_fettlelaw15_SourMoment_19 (x5 x11 : Value) (M : Store) (Q : Value → Store → Prop) : Prop :=
  R F.sour_Read_Step #[x11, x5] M fun t130 M1 =>
  OP (binI .eql t130 (.int .i64 1)) fun t131 =>
  BR t131 (
  R F.fettlelaw15_awake #[] M1 fun t133 M2 =>
  NTs [t133] ∧ Q t133 M2
  ) (
  NTs [(.bool false)] ∧ Q (.bool false) M1
  )
theorem T_fettlelaw15_SourMoment_19 {x5 x11 : Value} {M : Store} {Q : Value → Store → Prop} (h : S_fettlelaw15_SourMoment_19 x5 x11 M Q) : P_fettlelaw15_SourMoment_19 x5 x11 M Q := by
  intro f h5 h11; subst h5; subst h11
  unfold At
  exact rule (B := 1000) (N := 171) (ct := .no)
    [⟨1, fun a M => kfin Try.prog Try.f9.results.toList Q 1 a M, fun a M => kfin Try.prog Try.f9.results.toList Q 1 a M⟩]
    [] [1] (by kernel_rfl) (by kernel_rfl) (by kernel_rfl) (by kernel_rfl) (by kernel_rfl)
    ⟨fun _ _ _ h => h,
    trivial⟩
    (cast (by kernel_rfl) h)
end Go.G
