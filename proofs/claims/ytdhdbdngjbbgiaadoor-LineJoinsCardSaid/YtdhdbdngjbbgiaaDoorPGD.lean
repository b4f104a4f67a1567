/-  -/
import Derived.Test.YtdhdbdngjbbgiaaDoorPGN
open Go.RowKit
namespace Go.G
open Go.Ab Go.Proofs
set_option linter.unusedVariables false
set_option maxRecDepth 100000
def P_fettlelaw5_LinePlaces_1 (x26 x27 x28 : Value) (M : Store) (Q : Value → Store → Prop) : Prop :=
  ∀ f : Nat → Value, f 26 = x26 → f 27 = x27 → f 28 = x28 → At Tryd.prog Ex none Tryd.f3 [1, 1, 0, 1, 0] ⟨⟨145, f⟩, []⟩ M Q
def P_fettlelaw5_LinePlaces_2 (x26 x27 x28 : Value) (M : Store) (Q : Value → Store → Prop) : Prop :=
  ∀ f : Nat → Value, f 26 = x26 → f 27 = x27 → f 28 = x28 → At Tryd.prog Ex none Tryd.f3 [1, 1, 0, 1, 0, 0, 1, 1] ⟨⟨145, f⟩, []⟩ M Q
def P_fettlelaw5_LinePlaces_3 (M : Store) (Q : Value → Store → Prop) : Prop :=
  ∀ f : Nat → Value, At Tryd.prog Ex none Tryd.f3 [1, 1, 1] ⟨⟨145, f⟩, []⟩ M Q
def P_fettlelaw5_LinePlaces_4 (x26 x27 x28 : Value) (M : Store) (Q : Value → Store → Prop) : Prop :=
  ∀ f : Nat → Value, f 26 = x26 → f 27 = x27 → f 28 = x28 → At Tryd.prog Ex none Tryd.f3 [1, 1, 0, 1, 0, 0, 1, 1, 1] ⟨⟨145, f⟩, []⟩ M Q
def P_fettlelaw5_LinePlaces_5 (x6 x7 x9 x26 x27 x28 x41 x42 x43 : Value) (M : Store) (Q : Value → Store → Prop) : Prop :=
  ∀ f : Nat → Value, f 6 = x6 → f 7 = x7 → f 9 = x9 → f 26 = x26 → f 27 = x27 → f 28 = x28 → f 41 = x41 → f 42 = x42 → f 43 = x43 → At Tryd.prog Ex none Tryd.f3 [1, 1, 0, 1, 0, 0, 1, 1, 0, 0, 1, 1, 1, 1, 0, 1, 0] ⟨⟨145, f⟩, []⟩ M Q
def P_fettlelaw5_LinePlaces_6 (x6 x7 x9 x26 x27 x28 x41 x42 x43 : Value) (M : Store) (Q : Value → Store → Prop) : Prop :=
  ∀ f : Nat → Value, f 6 = x6 → f 7 = x7 → f 9 = x9 → f 26 = x26 → f 27 = x27 → f 28 = x28 → f 41 = x41 → f 42 = x42 → f 43 = x43 → At Tryd.prog Ex none Tryd.f3 [1, 1, 0, 1, 0, 0, 1, 1, 0, 0, 1, 1, 1, 1, 0, 1, 0, 0, 1, 1] ⟨⟨145, f⟩, []⟩ M Q
def P_fettlelaw5_LinePlaces_7 (x6 x7 x9 x26 x27 x28 : Value) (M : Store) (Q : Value → Store → Prop) : Prop :=
  ∀ f : Nat → Value, f 6 = x6 → f 7 = x7 → f 9 = x9 → f 26 = x26 → f 27 = x27 → f 28 = x28 → At Tryd.prog Ex none Tryd.f3 [1, 1, 0, 1, 0, 0, 1, 1, 0, 0, 1, 1, 1, 1, 1] ⟨⟨145, f⟩, []⟩ M Q
def P_fettlelaw5_LinePlaces_8 (x6 x9 x12 x26 x27 x28 x56 x57 x58 : Value) (M : Store) (Q : Value → Store → Prop) : Prop :=
  ∀ f : Nat → Value, f 6 = x6 → f 9 = x9 → f 12 = x12 → f 26 = x26 → f 27 = x27 → f 28 = x28 → f 56 = x56 → f 57 = x57 → f 58 = x58 → At Tryd.prog Ex none Tryd.f3 [1, 1, 0, 1, 0, 0, 1, 1, 0, 0, 1, 1, 1, 1, 1, 1, 1, 0] ⟨⟨145, f⟩, []⟩ M Q
def P_fettlelaw5_LinePlaces_9 (x6 x9 x12 x26 x27 x28 x56 x57 x58 : Value) (M : Store) (Q : Value → Store → Prop) : Prop :=
  ∀ f : Nat → Value, f 6 = x6 → f 9 = x9 → f 12 = x12 → f 26 = x26 → f 27 = x27 → f 28 = x28 → f 56 = x56 → f 57 = x57 → f 58 = x58 → At Tryd.prog Ex none Tryd.f3 [1, 1, 0, 1, 0, 0, 1, 1, 0, 0, 1, 1, 1, 1, 1, 1, 1, 0, 0, 1, 1] ⟨⟨145, f⟩, []⟩ M Q
def P_fettlelaw5_LinePlaces_10 (x6 x9 x12 x14 x26 x27 x28 x56 x57 x58 x65 x66 x67 : Value) (M : Store) (Q : Value → Store → Prop) : Prop :=
  ∀ f : Nat → Value, f 6 = x6 → f 9 = x9 → f 12 = x12 → f 14 = x14 → f 26 = x26 → f 27 = x27 → f 28 = x28 → f 56 = x56 → f 57 = x57 → f 58 = x58 → f 65 = x65 → f 66 = x66 → f 67 = x67 → At Tryd.prog Ex none Tryd.f3 [1, 1, 0, 1, 0, 0, 1, 1, 0, 0, 1, 1, 1, 1, 1, 1, 1, 0, 0, 1, 1, 0, 0, 1, 1, 1, 0] ⟨⟨145, f⟩, []⟩ M Q
def P_fettlelaw5_LinePlaces_11 (x6 x9 x12 x14 x26 x27 x28 x56 x57 x58 x65 x66 x67 : Value) (M : Store) (Q : Value → Store → Prop) : Prop :=
  ∀ f : Nat → Value, f 6 = x6 → f 9 = x9 → f 12 = x12 → f 14 = x14 → f 26 = x26 → f 27 = x27 → f 28 = x28 → f 56 = x56 → f 57 = x57 → f 58 = x58 → f 65 = x65 → f 66 = x66 → f 67 = x67 → At Tryd.prog Ex none Tryd.f3 [1, 1, 0, 1, 0, 0, 1, 1, 0, 0, 1, 1, 1, 1, 1, 1, 1, 0, 0, 1, 1, 0, 0, 1, 1, 1, 0, 0, 1, 1] ⟨⟨145, f⟩, []⟩ M Q
def P_fettlelaw5_LinePlaces_12 (x6 x9 x12 x26 x27 x28 x56 x57 x58 : Value) (M : Store) (Q : Value → Store → Prop) : Prop :=
  ∀ f : Nat → Value, f 6 = x6 → f 9 = x9 → f 12 = x12 → f 26 = x26 → f 27 = x27 → f 28 = x28 → f 56 = x56 → f 57 = x57 → f 58 = x58 → At Tryd.prog Ex none Tryd.f3 [1, 1, 0, 1, 0, 0, 1, 1, 0, 0, 1, 1, 1, 1, 1, 1, 1, 0, 0, 1, 1, 1] ⟨⟨145, f⟩, []⟩ M Q
def P_fettlelaw5_LinePlaces_13 (x6 x9 x12 x14 x17 x18 x26 x27 x28 x56 x57 x58 x65 x66 x67 : Value) (M : Store) (Q : Value → Store → Prop) : Prop :=
  ∀ f : Nat → Value, f 6 = x6 → f 9 = x9 → f 12 = x12 → f 14 = x14 → f 17 = x17 → f 18 = x18 → f 26 = x26 → f 27 = x27 → f 28 = x28 → f 56 = x56 → f 57 = x57 → f 58 = x58 → f 65 = x65 → f 66 = x66 → f 67 = x67 → At Tryd.prog Ex none Tryd.f3 [1, 1, 0, 1, 0, 0, 1, 1, 0, 0, 1, 1, 1, 1, 1, 1, 1, 0, 0, 1, 1, 0, 0, 1, 1, 1, 0, 0, 1, 1, 0, 0, 1, 1, 1, 1, 1] ⟨⟨145, f⟩, []⟩ M Q
def P_fettlelaw5_LinePlaces_14 (x6 x9 x12 x14 x26 x27 x28 x56 x57 x58 x65 x66 x67 : Value) (M : Store) (Q : Value → Store → Prop) : Prop :=
  ∀ f : Nat → Value, f 6 = x6 → f 9 = x9 → f 12 = x12 → f 14 = x14 → f 26 = x26 → f 27 = x27 → f 28 = x28 → f 56 = x56 → f 57 = x57 → f 58 = x58 → f 65 = x65 → f 66 = x66 → f 67 = x67 → At Tryd.prog Ex none Tryd.f3 [1, 1, 0, 1, 0, 0, 1, 1, 0, 0, 1, 1, 1, 1, 1, 1, 1, 0, 0, 1, 1, 0, 0, 1, 1, 1, 0, 0, 1, 1, 1] ⟨⟨145, f⟩, []⟩ M Q
def S_fettlelaw5_LinePlaces (x0 x1 : Value) (M : Store) (Q : Value → Store → Prop) : Prop :=
  OP (lenV x0) fun t20 =>
  OP (binI .gtr t20 (.int .i64 300)) fun t21 =>
  BR t21 (
  R F.fettlelaw5_awake #[] M fun t22 M1 =>
  NTs [t22] ∧ Q t22 M1
  ) (
  R F.fettlelaw5_Text #[x1] M fun t25 M2 =>
  OP (bldL (.slice none 0 0) 1 2 [(0, x0), (1, t25)]) fun c =>
  LT (.slice (some ⟨M2.n, 0, none⟩) 2 2) (M2.push (some (.inl (c, Ty.sl_uint8, true)))) fun t26 M3 =>
  OP (lenV t26) fun t27 =>
  P_fettlelaw5_LinePlaces_1 t26 t27 (.int .i64 0) M3 Q
  )
theorem T_fettlelaw5_LinePlaces {x0 x1 : Value} {M : Store} {Q : Value → Store → Prop} (h : S_fettlelaw5_LinePlaces x0 x1 M Q) : R F.fettlelaw5_LinePlaces #[x0, x1] M Q := by
  refine runs_of (c := bodyOf Tryd.f3) Tryd.func3 rfl (by kernel_rfl) (by kernel_rfl) ?_
  unfold At
  exact rule (B := 1000) (N := 145) (ct := (.two .no (.two .no (.two (.two .no (.two (.here 1000) .no)) (.here 1001)))))
    [⟨1002, fun a M => dfr a.defers (P_fettlelaw5_LinePlaces_1 (a.get 26) (a.get 27) (a.get 28) M Q), fun a M => At Tryd.prog Ex none Tryd.f3 [1, 1, 0, 1, 0] a M Q⟩,
    ⟨1003, fun _ _ => False, fun a M => At Tryd.prog Ex none Tryd.f3 [1, 1, 1] a M Q⟩,
    ⟨1, fun a M => kfin Tryd.prog Tryd.f3.results.toList Q 1 a M, fun a M => kfin Tryd.prog Tryd.f3.results.toList Q 1 a M⟩]
    [1000, 1001] [1] (by kernel_rfl) (by kernel_rfl) (by kernel_rfl) (by kernel_rfl) (by kernel_rfl)
    ⟨fun a M hn h => by obtain ⟨⟨n, f⟩, ds⟩ := a; have hn : n = 145 := hn; subst hn; obtain ⟨hd, h⟩ := dfr_iff h; have hd : ds = [] := hd; subst hd; exact h f rfl rfl rfl,
    fun _ _ _ h => h.elim,
    fun _ _ _ h => h,
    trivial⟩
    (cast (by kernel_rfl) h)
def S_fettlelaw5_LinePlaces_1 (x26 x27 x28 : Value) (M : Store) (Q : Value → Store → Prop) : Prop :=
  OP (binI .lss x28 x27) fun t29 =>
  BR t29 (
  P_fettlelaw5_LinePlaces_2 x26 x27 x28 M Q
  ) (
  P_fettlelaw5_LinePlaces_3 M Q
  )
theorem T_fettlelaw5_LinePlaces_1 {x26 x27 x28 : Value} {M : Store} {Q : Value → Store → Prop} (h : S_fettlelaw5_LinePlaces_1 x26 x27 x28 M Q) : P_fettlelaw5_LinePlaces_1 x26 x27 x28 M Q := by
  intro f h26 h27 h28; subst h26; subst h27; subst h28
  unfold At
  refine cast (by kernel_rfl) (CW.loop (P := Tryd.prog) (E := Ex) (rd := none) (x := sub (bodyOf Tryd.f3) [1, 1, 0, 1, 0, 0]) (a := ⟨⟨145, f⟩, []⟩) (M := M) (K := kcont Tryd.prog Ex none (bodyOf Tryd.f3) [1, 1, 0, 1, 0] (kfin Tryd.prog Tryd.f3.results.toList Q)) ?_)
  exact rule (B := 1000) (N := 145) (ct := (.two .no (.two .no (.here 1000))))
    [⟨1002, fun a M => dfr a.defers (P_fettlelaw5_LinePlaces_2 (a.get 26) (a.get 27) (a.get 28) M Q), fun a M => At Tryd.prog Ex none Tryd.f3 [1, 1, 0, 1, 0, 0, 1, 1] a M Q⟩,
    ⟨2, fun a M => dfr a.defers (P_fettlelaw5_LinePlaces_3 M Q), fun a M => At Tryd.prog Ex none Tryd.f3 [1, 1, 1] a M Q⟩]
    [1000] [2] (by kernel_rfl) (by kernel_rfl) (by kernel_rfl) (by kernel_rfl) (by kernel_rfl)
    ⟨fun a M hn h => by obtain ⟨⟨n, f⟩, ds⟩ := a; have hn : n = 145 := hn; subst hn; obtain ⟨hd, h⟩ := dfr_iff h; have hd : ds = [] := hd; subst hd; exact h f rfl rfl rfl,
    fun a M hn h => by obtain ⟨⟨n, f⟩, ds⟩ := a; have hn : n = 145 := hn; subst hn; obtain ⟨hd, h⟩ := dfr_iff h; have hd : ds = [] := hd; subst hd; exact h f,
    trivial⟩
    (cast (by kernel_rfl) h)
def S_fettlelaw5_LinePlaces_2 (x26 x27 x28 : Value) (M : Store) (Q : Value → Store → Prop) : Prop :=
  OP (ixA 1 x26 x28) fun t30 =>
  OP (ld 1 false t30 M) fun t31 =>
  R F.line_Split #[t31] M fun t34 M1 =>
  OP (tup t34 0) fun t35 =>
  OP (tup t34 1) fun t36 =>
  LT (.pointer (some ⟨M1.n, 0, none⟩)) (M1.push (some (.inl ([(.int .i64 0), (.int .i64 0), (.int .i64 0)], Ty.api_Fault, true)))) fun t8 M2 =>
  OP (st 3 t8 t36 M2) fun M3 =>
  OP (fad 0 t8) fun t37 =>
  OP (ld 1 false t37 M3) fun t38 =>
  OP (binI .neq t38 (.int .i64 0)) fun t39 =>
  BR t39 (
  P_fettlelaw5_LinePlaces_4 x26 x27 x28 M3 Q
  ) (
  OP (bldL (.int .i64 0) 1 1 [(0, (.int .i64 0))]) fun c =>
  LT (.slice (some ⟨M3.n, 0, none⟩) 1 1) (M3.push (some (.inl (c, Ty.int, true)))) fun t40 M4 =>
  OP (lenV t31) fun t42 =>
  P_fettlelaw5_LinePlaces_5 t31 t35 t40 x26 x27 x28 t31 t42 (.int .i64 0) M4 Q
  )
theorem T_fettlelaw5_LinePlaces_2 {x26 x27 x28 : Value} {M : Store} {Q : Value → Store → Prop} (h : S_fettlelaw5_LinePlaces_2 x26 x27 x28 M Q) : P_fettlelaw5_LinePlaces_2 x26 x27 x28 M Q := by
  intro f h26 h27 h28; subst h26; subst h27; subst h28
  unfold At
  exact rule (B := 1000) (N := 145) (ct := (.two (.two (.two .no (.two .no (.two .no (.two .no (.two (.two .no (.two (.here 1000) .no)) (.here 1001)))))) .no) (.here 1002)))
    [⟨1002, fun a M => dfr a.defers (P_fettlelaw5_LinePlaces_5 (a.get 6) (a.get 7) (a.get 9) (a.get 26) (a.get 27) (a.get 28) (a.get 41) (a.get 42) (a.get 43) M Q), fun a M => At Tryd.prog Ex none Tryd.f3 [1, 1, 0, 1, 0, 0, 1, 1, 0, 0, 1, 1, 1, 1, 0, 1, 0] a M Q⟩,
    ⟨1003, fun _ _ => False, fun a M => At Tryd.prog Ex none Tryd.f3 [1, 1, 0, 1, 0, 0, 1, 1, 0, 0, 1, 1, 1, 1, 1] a M Q⟩,
    ⟨1004, fun a M => dfr a.defers (P_fettlelaw5_LinePlaces_4 (a.get 26) (a.get 27) (a.get 28) M Q), fun a M => At Tryd.prog Ex none Tryd.f3 [1, 1, 0, 1, 0, 0, 1, 1, 1] a M Q⟩]
    [1000, 1001, 1002] [] (by kernel_rfl) (by kernel_rfl) (by kernel_rfl) (by kernel_rfl) (by kernel_rfl)
    ⟨fun a M hn h => by obtain ⟨⟨n, f⟩, ds⟩ := a; have hn : n = 145 := hn; subst hn; obtain ⟨hd, h⟩ := dfr_iff h; have hd : ds = [] := hd; subst hd; exact h f rfl rfl rfl rfl rfl rfl rfl rfl rfl,
    fun _ _ _ h => h.elim,
    fun a M hn h => by obtain ⟨⟨n, f⟩, ds⟩ := a; have hn : n = 145 := hn; subst hn; obtain ⟨hd, h⟩ := dfr_iff h; have hd : ds = [] := hd; subst hd; exact h f rfl rfl rfl,
    trivial⟩
    (cast (by kernel_rfl) h)
def S_fettlelaw5_LinePlaces_3 (M : Store) (Q : Value → Store → Prop) : Prop :=
  R F.fettlelaw5_awake #[] M fun t144 M1 =>
  NTs [t144] ∧ Q t144 M1
theorem T_fettlelaw5_LinePlaces_3 {M : Store} {Q : Value → Store → Prop} (h : S_fettlelaw5_LinePlaces_3 M Q) : P_fettlelaw5_LinePlaces_3 M Q := by
  intro f 
  unfold At
  exact rule (B := 1000) (N := 145) (ct := .no)
    [⟨1, fun a M => kfin Tryd.prog Tryd.f3.results.toList Q 1 a M, fun a M => kfin Tryd.prog Tryd.f3.results.toList Q 1 a M⟩]
    [] [1] (by kernel_rfl) (by kernel_rfl) (by kernel_rfl) (by kernel_rfl) (by kernel_rfl)
    ⟨fun _ _ _ h => h,
    trivial⟩
    (cast (by kernel_rfl) h)
def S_fettlelaw5_LinePlaces_4 (x26 x27 x28 : Value) (M : Store) (Q : Value → Store → Prop) : Prop :=
  OP (binI .add x28 (.int .i64 1)) fun t143 =>
  P_fettlelaw5_LinePlaces_1 x26 x27 t143 M Q
theorem T_fettlelaw5_LinePlaces_4 {x26 x27 x28 : Value} {M : Store} {Q : Value → Store → Prop} (h : S_fettlelaw5_LinePlaces_4 x26 x27 x28 M Q) : P_fettlelaw5_LinePlaces_4 x26 x27 x28 M Q := by
  intro f h26 h27 h28; subst h26; subst h27; subst h28
  unfold At
  exact rule (B := 1000) (N := 145) (ct := .no)
    [⟨0, fun a M => dfr a.defers (P_fettlelaw5_LinePlaces_1 (a.get 26) (a.get 27) (a.get 28) M Q), fun a M => At Tryd.prog Ex none Tryd.f3 [1, 1, 0, 1, 0] a M Q⟩]
    [] [0] (by kernel_rfl) (by kernel_rfl) (by kernel_rfl) (by kernel_rfl) (by kernel_rfl)
    ⟨fun a M hn h => by obtain ⟨⟨n, f⟩, ds⟩ := a; have hn : n = 145 := hn; subst hn; obtain ⟨hd, h⟩ := dfr_iff h; have hd : ds = [] := hd; subst hd; exact h f rfl rfl rfl,
    trivial⟩
    (cast (by kernel_rfl) h)
def S_fettlelaw5_LinePlaces_5 (x6 x7 x9 x26 x27 x28 x41 x42 x43 : Value) (M : Store) (Q : Value → Store → Prop) : Prop :=
  OP (binI .lss x43 x42) fun t44 =>
  BR t44 (
  P_fettlelaw5_LinePlaces_6 x6 x7 x9 x26 x27 x28 x41 x42 x43 M Q
  ) (
  P_fettlelaw5_LinePlaces_7 x6 x7 x9 x26 x27 x28 M Q
  )
theorem T_fettlelaw5_LinePlaces_5 {x6 x7 x9 x26 x27 x28 x41 x42 x43 : Value} {M : Store} {Q : Value → Store → Prop} (h : S_fettlelaw5_LinePlaces_5 x6 x7 x9 x26 x27 x28 x41 x42 x43 M Q) : P_fettlelaw5_LinePlaces_5 x6 x7 x9 x26 x27 x28 x41 x42 x43 M Q := by
  intro f h6 h7 h9 h26 h27 h28 h41 h42 h43; subst h6; subst h7; subst h9; subst h26; subst h27; subst h28; subst h41; subst h42; subst h43
  unfold At
  refine cast (by kernel_rfl) (CW.loop (P := Tryd.prog) (E := Ex) (rd := none) (x := sub (bodyOf Tryd.f3) [1, 1, 0, 1, 0, 0, 1, 1, 0, 0, 1, 1, 1, 1, 0, 1, 0, 0]) (a := ⟨⟨145, f⟩, []⟩) (M := M) (K := kcont Tryd.prog Ex none (bodyOf Tryd.f3) [1, 1, 0, 1, 0, 0, 1, 1, 0, 0, 1, 1, 1, 1, 0, 1, 0] (kfin Tryd.prog Tryd.f3.results.toList Q)) ?_)
  exact rule (B := 1000) (N := 145) (ct := (.two .no (.two .no (.here 1000))))
    [⟨1002, fun a M => dfr a.defers (P_fettlelaw5_LinePlaces_6 (a.get 6) (a.get 7) (a.get 9) (a.get 26) (a.get 27) (a.get 28) (a.get 41) (a.get 42) (a.get 43) M Q), fun a M => At Tryd.prog Ex none Tryd.f3 [1, 1, 0, 1, 0, 0, 1, 1, 0, 0, 1, 1, 1, 1, 0, 1, 0, 0, 1, 1] a M Q⟩,
    ⟨4, fun a M => dfr a.defers (P_fettlelaw5_LinePlaces_7 (a.get 6) (a.get 7) (a.get 9) (a.get 26) (a.get 27) (a.get 28) M Q), fun a M => At Tryd.prog Ex none Tryd.f3 [1, 1, 0, 1, 0, 0, 1, 1, 0, 0, 1, 1, 1, 1, 1] a M Q⟩]
    [1000] [4] (by kernel_rfl) (by kernel_rfl) (by kernel_rfl) (by kernel_rfl) (by kernel_rfl)
    ⟨fun a M hn h => by obtain ⟨⟨n, f⟩, ds⟩ := a; have hn : n = 145 := hn; subst hn; obtain ⟨hd, h⟩ := dfr_iff h; have hd : ds = [] := hd; subst hd; exact h f rfl rfl rfl rfl rfl rfl rfl rfl rfl,
    fun a M hn h => by obtain ⟨⟨n, f⟩, ds⟩ := a; have hn : n = 145 := hn; subst hn; obtain ⟨hd, h⟩ := dfr_iff h; have hd : ds = [] := hd; subst hd; exact h f rfl rfl rfl rfl rfl rfl,
    trivial⟩
    (cast (by kernel_rfl) h)
def S_fettlelaw5_LinePlaces_6 (x6 x7 x9 x26 x27 x28 x41 x42 x43 : Value) (M : Store) (Q : Value → Store → Prop) : Prop :=
  OP (ixA 1 x41 x43) fun t46 =>
  OP (ld 1 false t46 M) fun t47 =>
  OP (binI .eql t47 (.int .u8 10)) fun t49 =>
  BR t49 (
  OP (binI .add x43 (.int .i64 1)) fun t52 =>
  OP (bldL (.int .i64 0) 1 1 [(0, t52)]) fun c =>
  LT (.slice (some ⟨M.n, 0, none⟩) 1 1) (M.push (some (.inl (c, Ty.int, true)))) fun t53 M1 =>
  OP2 (appV 1 Ty.int x9 t53 M1) fun t54 M2 =>
  OP (binI .add x43 (.int .i64 1)) fun t55 =>
  P_fettlelaw5_LinePlaces_5 x6 x7 t54 x26 x27 x28 x41 x42 t55 M2 Q
  ) (
  OP (binI .add x43 (.int .i64 1)) fun t55_1 =>
  P_fettlelaw5_LinePlaces_5 x6 x7 x9 x26 x27 x28 x41 x42 t55_1 M Q
  )
theorem T_fettlelaw5_LinePlaces_6 {x6 x7 x9 x26 x27 x28 x41 x42 x43 : Value} {M : Store} {Q : Value → Store → Prop} (h : S_fettlelaw5_LinePlaces_6 x6 x7 x9 x26 x27 x28 x41 x42 x43 M Q) : P_fettlelaw5_LinePlaces_6 x6 x7 x9 x26 x27 x28 x41 x42 x43 M Q := by
  intro f h6 h7 h9 h26 h27 h28 h41 h42 h43; subst h6; subst h7; subst h9; subst h26; subst h27; subst h28; subst h41; subst h42; subst h43
  unfold At
  exact rule (B := 1000) (N := 145) (ct := .no)
    [⟨0, fun a M => dfr a.defers (P_fettlelaw5_LinePlaces_5 (a.get 6) (a.get 7) (a.get 9) (a.get 26) (a.get 27) (a.get 28) (a.get 41) (a.get 42) (a.get 43) M Q), fun a M => At Tryd.prog Ex none Tryd.f3 [1, 1, 0, 1, 0, 0, 1, 1, 0, 0, 1, 1, 1, 1, 0, 1, 0] a M Q⟩]
    [] [0] (by kernel_rfl) (by kernel_rfl) (by kernel_rfl) (by kernel_rfl) (by kernel_rfl)
    ⟨fun a M hn h => by obtain ⟨⟨n, f⟩, ds⟩ := a; have hn : n = 145 := hn; subst hn; obtain ⟨hd, h⟩ := dfr_iff h; have hd : ds = [] := hd; subst hd; exact h f rfl rfl rfl rfl rfl rfl rfl rfl rfl,
    trivial⟩
    (cast (by kernel_rfl) h)
def S_fettlelaw5_LinePlaces_7 (x6 x7 x9 x26 x27 x28 : Value) (M : Store) (Q : Value → Store → Prop) : Prop :=
  OP (lenV x7) fun t57 =>
  P_fettlelaw5_LinePlaces_8 x6 x9 (.int .i64 (-1)) x26 x27 x28 x7 t57 (.int .i64 0) M Q
theorem T_fettlelaw5_LinePlaces_7 {x6 x7 x9 x26 x27 x28 : Value} {M : Store} {Q : Value → Store → Prop} (h : S_fettlelaw5_LinePlaces_7 x6 x7 x9 x26 x27 x28 M Q) : P_fettlelaw5_LinePlaces_7 x6 x7 x9 x26 x27 x28 M Q := by
  intro f h6 h7 h9 h26 h27 h28; subst h6; subst h7; subst h9; subst h26; subst h27; subst h28
  unfold At
  exact rule (B := 1000) (N := 145) (ct := (.two .no (.two .no (.two (.here 1000) .no))))
    [⟨1002, fun a M => dfr a.defers (P_fettlelaw5_LinePlaces_8 (a.get 6) (a.get 9) (a.get 12) (a.get 26) (a.get 27) (a.get 28) (a.get 56) (a.get 57) (a.get 58) M Q), fun a M => At Tryd.prog Ex none Tryd.f3 [1, 1, 0, 1, 0, 0, 1, 1, 0, 0, 1, 1, 1, 1, 1, 1, 1, 0] a M Q⟩]
    [1000] [] (by kernel_rfl) (by kernel_rfl) (by kernel_rfl) (by kernel_rfl) (by kernel_rfl)
    ⟨fun a M hn h => by obtain ⟨⟨n, f⟩, ds⟩ := a; have hn : n = 145 := hn; subst hn; obtain ⟨hd, h⟩ := dfr_iff h; have hd : ds = [] := hd; subst hd; exact h f rfl rfl rfl rfl rfl rfl rfl rfl rfl,
    trivial⟩
    (cast (by kernel_rfl) h)
def S_fettlelaw5_LinePlaces_8 (x6 x9 x12 x26 x27 x28 x56 x57 x58 : Value) (M : Store) (Q : Value → Store → Prop) : Prop :=
  OP (binI .lss x58 x57) fun t59 =>
  BR t59 (
  P_fettlelaw5_LinePlaces_9 x6 x9 x12 x26 x27 x28 x56 x57 x58 M Q
  ) (
  P_fettlelaw5_LinePlaces_4 x26 x27 x28 M Q
  )
theorem T_fettlelaw5_LinePlaces_8 {x6 x9 x12 x26 x27 x28 x56 x57 x58 : Value} {M : Store} {Q : Value → Store → Prop} (h : S_fettlelaw5_LinePlaces_8 x6 x9 x12 x26 x27 x28 x56 x57 x58 M Q) : P_fettlelaw5_LinePlaces_8 x6 x9 x12 x26 x27 x28 x56 x57 x58 M Q := by
  intro f h6 h9 h12 h26 h27 h28 h56 h57 h58; subst h6; subst h9; subst h12; subst h26; subst h27; subst h28; subst h56; subst h57; subst h58
  unfold At
  refine cast (by kernel_rfl) (CW.loop (P := Tryd.prog) (E := Ex) (rd := none) (x := sub (bodyOf Tryd.f3) [1, 1, 0, 1, 0, 0, 1, 1, 0, 0, 1, 1, 1, 1, 1, 1, 1, 0, 0]) (a := ⟨⟨145, f⟩, []⟩) (M := M) (K := kcont Tryd.prog Ex none (bodyOf Tryd.f3) [1, 1, 0, 1, 0, 0, 1, 1, 0, 0, 1, 1, 1, 1, 1, 1, 1, 0] (kfin Tryd.prog Tryd.f3.results.toList Q)) ?_)
  exact rule (B := 1000) (N := 145) (ct := (.two .no (.two .no (.here 1000))))
    [⟨1002, fun a M => dfr a.defers (P_fettlelaw5_LinePlaces_9 (a.get 6) (a.get 9) (a.get 12) (a.get 26) (a.get 27) (a.get 28) (a.get 56) (a.get 57) (a.get 58) M Q), fun a M => At Tryd.prog Ex none Tryd.f3 [1, 1, 0, 1, 0, 0, 1, 1, 0, 0, 1, 1, 1, 1, 1, 1, 1, 0, 0, 1, 1] a M Q⟩,
    ⟨6, fun a M => dfr a.defers (P_fettlelaw5_LinePlaces_4 (a.get 26) (a.get 27) (a.get 28) M Q), fun a M => At Tryd.prog Ex none Tryd.f3 [1, 1, 0, 1, 0, 0, 1, 1, 1] a M Q⟩]
    [1000] [6] (by kernel_rfl) (by kernel_rfl) (by kernel_rfl) (by kernel_rfl) (by kernel_rfl)
    ⟨fun a M hn h => by obtain ⟨⟨n, f⟩, ds⟩ := a; have hn : n = 145 := hn; subst hn; obtain ⟨hd, h⟩ := dfr_iff h; have hd : ds = [] := hd; subst hd; exact h f rfl rfl rfl rfl rfl rfl rfl rfl rfl,
    fun a M hn h => by obtain ⟨⟨n, f⟩, ds⟩ := a; have hn : n = 145 := hn; subst hn; obtain ⟨hd, h⟩ := dfr_iff h; have hd : ds = [] := hd; subst hd; exact h f rfl rfl rfl,
    trivial⟩
    (cast (by kernel_rfl) h)
def S_fettlelaw5_LinePlaces_9 (x6 x9 x12 x26 x27 x28 x56 x57 x58 : Value) (M : Store) (Q : Value → Store → Prop) : Prop :=
  OP (ixA 1 x56 x58) fun t60 =>
  OP (ld 1 false t60 M) fun t61 =>
  OP (lenV t61) fun t63 =>
  OP (binI .eql t63 (.int .i64 0)) fun t64 =>
  BR t64 (
  NTs [(.bool false)] ∧ Q (.bool false) M
  ) (
  OP (lenV t61) fun t66 =>
  P_fettlelaw5_LinePlaces_10 x6 x9 x12 t61 x26 x27 x28 x56 x57 x58 t61 t66 (.int .i64 0) M Q
  )
theorem T_fettlelaw5_LinePlaces_9 {x6 x9 x12 x26 x27 x28 x56 x57 x58 : Value} {M : Store} {Q : Value → Store → Prop} (h : S_fettlelaw5_LinePlaces_9 x6 x9 x12 x26 x27 x28 x56 x57 x58 M Q) : P_fettlelaw5_LinePlaces_9 x6 x9 x12 x26 x27 x28 x56 x57 x58 M Q := by
  intro f h6 h9 h12 h26 h27 h28 h56 h57 h58; subst h6; subst h9; subst h12; subst h26; subst h27; subst h28; subst h56; subst h57; subst h58
  unfold At
  exact rule (B := 1000) (N := 145) (ct := (.two (.two (.two .no (.two .no (.two .no (.two (.here 1000) .no)))) .no) (.here 1001)))
    [⟨1002, fun a M => dfr a.defers (P_fettlelaw5_LinePlaces_10 (a.get 6) (a.get 9) (a.get 12) (a.get 14) (a.get 26) (a.get 27) (a.get 28) (a.get 56) (a.get 57) (a.get 58) (a.get 65) (a.get 66) (a.get 67) M Q), fun a M => At Tryd.prog Ex none Tryd.f3 [1, 1, 0, 1, 0, 0, 1, 1, 0, 0, 1, 1, 1, 1, 1, 1, 1, 0, 0, 1, 1, 0, 0, 1, 1, 1, 0] a M Q⟩,
    ⟨1003, fun _ _ => False, fun a M => At Tryd.prog Ex none Tryd.f3 [1, 1, 0, 1, 0, 0, 1, 1, 0, 0, 1, 1, 1, 1, 1, 1, 1, 0, 0, 1, 1, 1] a M Q⟩,
    ⟨1, fun a M => kfin Tryd.prog Tryd.f3.results.toList Q 1 a M, fun a M => kfin Tryd.prog Tryd.f3.results.toList Q 1 a M⟩]
    [1000, 1001] [1] (by kernel_rfl) (by kernel_rfl) (by kernel_rfl) (by kernel_rfl) (by kernel_rfl)
    ⟨fun a M hn h => by obtain ⟨⟨n, f⟩, ds⟩ := a; have hn : n = 145 := hn; subst hn; obtain ⟨hd, h⟩ := dfr_iff h; have hd : ds = [] := hd; subst hd; exact h f rfl rfl rfl rfl rfl rfl rfl rfl rfl rfl rfl rfl rfl,
    fun _ _ _ h => h.elim,
    fun _ _ _ h => h,
    trivial⟩
    (cast (by kernel_rfl) h)
def S_fettlelaw5_LinePlaces_10 (x6 x9 x12 x14 x26 x27 x28 x56 x57 x58 x65 x66 x67 : Value) (M : Store) (Q : Value → Store → Prop) : Prop :=
  OP (binI .lss x67 x66) fun t68 =>
  BR t68 (
  P_fettlelaw5_LinePlaces_11 x6 x9 x12 x14 x26 x27 x28 x56 x57 x58 x65 x66 x67 M Q
  ) (
  P_fettlelaw5_LinePlaces_12 x6 x9 x12 x26 x27 x28 x56 x57 x58 M Q
  )
theorem T_fettlelaw5_LinePlaces_10 {x6 x9 x12 x14 x26 x27 x28 x56 x57 x58 x65 x66 x67 : Value} {M : Store} {Q : Value → Store → Prop} (h : S_fettlelaw5_LinePlaces_10 x6 x9 x12 x14 x26 x27 x28 x56 x57 x58 x65 x66 x67 M Q) : P_fettlelaw5_LinePlaces_10 x6 x9 x12 x14 x26 x27 x28 x56 x57 x58 x65 x66 x67 M Q := by
  intro f h6 h9 h12 h14 h26 h27 h28 h56 h57 h58 h65 h66 h67; subst h6; subst h9; subst h12; subst h14; subst h26; subst h27; subst h28; subst h56; subst h57; subst h58; subst h65; subst h66; subst h67
  unfold At
  refine cast (by kernel_rfl) (CW.loop (P := Tryd.prog) (E := Ex) (rd := none) (x := sub (bodyOf Tryd.f3) [1, 1, 0, 1, 0, 0, 1, 1, 0, 0, 1, 1, 1, 1, 1, 1, 1, 0, 0, 1, 1, 0, 0, 1, 1, 1, 0, 0]) (a := ⟨⟨145, f⟩, []⟩) (M := M) (K := kcont Tryd.prog Ex none (bodyOf Tryd.f3) [1, 1, 0, 1, 0, 0, 1, 1, 0, 0, 1, 1, 1, 1, 1, 1, 1, 0, 0, 1, 1, 0, 0, 1, 1, 1, 0] (kfin Tryd.prog Tryd.f3.results.toList Q)) ?_)
  exact rule (B := 1000) (N := 145) (ct := (.two .no (.two .no (.here 1000))))
    [⟨1002, fun a M => dfr a.defers (P_fettlelaw5_LinePlaces_11 (a.get 6) (a.get 9) (a.get 12) (a.get 14) (a.get 26) (a.get 27) (a.get 28) (a.get 56) (a.get 57) (a.get 58) (a.get 65) (a.get 66) (a.get 67) M Q), fun a M => At Tryd.prog Ex none Tryd.f3 [1, 1, 0, 1, 0, 0, 1, 1, 0, 0, 1, 1, 1, 1, 1, 1, 1, 0, 0, 1, 1, 0, 0, 1, 1, 1, 0, 0, 1, 1] a M Q⟩,
    ⟨8, fun a M => dfr a.defers (P_fettlelaw5_LinePlaces_12 (a.get 6) (a.get 9) (a.get 12) (a.get 26) (a.get 27) (a.get 28) (a.get 56) (a.get 57) (a.get 58) M Q), fun a M => At Tryd.prog Ex none Tryd.f3 [1, 1, 0, 1, 0, 0, 1, 1, 0, 0, 1, 1, 1, 1, 1, 1, 1, 0, 0, 1, 1, 1] a M Q⟩]
    [1000] [8] (by kernel_rfl) (by kernel_rfl) (by kernel_rfl) (by kernel_rfl) (by kernel_rfl)
    ⟨fun a M hn h => by obtain ⟨⟨n, f⟩, ds⟩ := a; have hn : n = 145 := hn; subst hn; obtain ⟨hd, h⟩ := dfr_iff h; have hd : ds = [] := hd; subst hd; exact h f rfl rfl rfl rfl rfl rfl rfl rfl rfl rfl rfl rfl rfl,
    fun a M hn h => by obtain ⟨⟨n, f⟩, ds⟩ := a; have hn : n = 145 := hn; subst hn; obtain ⟨hd, h⟩ := dfr_iff h; have hd : ds = [] := hd; subst hd; exact h f rfl rfl rfl rfl rfl rfl rfl rfl rfl,
    trivial⟩
    (cast (by kernel_rfl) h)
def S_fettlelaw5_LinePlaces_11 (x6 x9 x12 x14 x26 x27 x28 x56 x57 x58 x65 x66 x67 : Value) (M : Store) (Q : Value → Store → Prop) : Prop :=
  OP (ixA 4 x65 x67) fun t69 =>
  OP (ld 4 true t69 M) fun t70 =>
  LT (.pointer (some ⟨M.n, 0, none⟩)) (M.push (some (.inl ([(.string ⟨#[]⟩), (.int .i64 0), (.int .i64 0), (.bool false)], Ty.api_Word, true)))) fun t16 M1 =>
  OP (st 4 t16 t70 M1) fun M2 =>
  OP (fad 1 t16) fun t71 =>
  OP (ld 1 false t71 M2) fun t72 =>
  OP (ixA 4 x14 (.int .i64 0)) fun t74 =>
  OP (fad 1 t74) fun t75 =>
  OP (ld 1 false t75 M2) fun t76 =>
  OP (binI .neq t72 t76) fun t77 =>
  BR t77 (
  NTs [(.bool false)] ∧ Q (.bool false) M2
  ) (
  OP (fad 1 t16) fun t79 =>
  OP (ld 1 false t79 M2) fun t80 =>
  OP (binI .lss t80 (.int .i64 1)) fun t81 =>
  BR t81 (
  NTs [(.bool false)] ∧ Q (.bool false) M2
  ) (
  OP (fad 1 t16) fun t84 =>
  OP (ld 1 false t84 M2) fun t85 =>
  OP (lenV x9) fun t87 =>
  OP (binI .gtr t85 t87) fun t88 =>
  BR t88 (
  NTs [(.bool false)] ∧ Q (.bool false) M2
  ) (
  OP (fad 2 t16) fun t91 =>
  OP (ld 1 false t91 M2) fun t92 =>
  OP (binI .lss t92 (.int .i64 1)) fun t93 =>
  BR t93 (
  NTs [(.bool false)] ∧ Q (.bool false) M2
  ) (
  OP (fad 1 t16) fun t96 =>
  OP (ld 1 false t96 M2) fun t97 =>
  OP (binI .sub t97 (.int .i64 1)) fun t98 =>
  OP (ixA 1 x9 t98) fun t99 =>
  OP (ld 1 false t99 M2) fun t100 =>
  OP (fad 2 t16) fun t101 =>
  OP (ld 1 false t101 M2) fun t102 =>
  OP (binI .add t100 t102) fun t103 =>
  OP (binI .sub t103 (.int .i64 1)) fun t104 =>
  OP (fad 0 t16) fun t105 =>
  OP (ld 1 false t105 M2) fun t106 =>
  OP (fad 3 t16) fun t107 =>
  OP (ld 1 false t107 M2) fun t108 =>
  BR t108 (
  OP (binS .add (.string ⟨#[34]⟩) t106) fun t110 =>
  OP (binS .add t110 (.string ⟨#[34]⟩)) fun t111 =>
  P_fettlelaw5_LinePlaces_13 x6 x9 x12 x14 t104 t111 x26 x27 x28 x56 x57 x58 x65 x66 x67 M2 Q
  ) (
  P_fettlelaw5_LinePlaces_13 x6 x9 x12 x14 t104 t106 x26 x27 x28 x56 x57 x58 x65 x66 x67 M2 Q
  )
  )
  )
  )
  )
theorem T_fettlelaw5_LinePlaces_11 {x6 x9 x12 x14 x26 x27 x28 x56 x57 x58 x65 x66 x67 : Value} {M : Store} {Q : Value → Store → Prop} (h : S_fettlelaw5_LinePlaces_11 x6 x9 x12 x14 x26 x27 x28 x56 x57 x58 x65 x66 x67 M Q) : P_fettlelaw5_LinePlaces_11 x6 x9 x12 x14 x26 x27 x28 x56 x57 x58 x65 x66 x67 M Q := by
  intro f h6 h9 h12 h14 h26 h27 h28 h56 h57 h58 h65 h66 h67; subst h6; subst h9; subst h12; subst h14; subst h26; subst h27; subst h28; subst h56; subst h57; subst h58; subst h65; subst h66; subst h67
  unfold At
  exact rule (B := 1000) (N := 145) (ct := (.two (.two (.two .no (.two .no (.two .no (.two .no (.two .no (.here 1000)))))) .no) (.here 1001)))
    [⟨1002, fun a M => dfr a.defers (P_fettlelaw5_LinePlaces_13 (a.get 6) (a.get 9) (a.get 12) (a.get 14) (a.get 17) (a.get 18) (a.get 26) (a.get 27) (a.get 28) (a.get 56) (a.get 57) (a.get 58) (a.get 65) (a.get 66) (a.get 67) M Q), fun a M => At Tryd.prog Ex none Tryd.f3 [1, 1, 0, 1, 0, 0, 1, 1, 0, 0, 1, 1, 1, 1, 1, 1, 1, 0, 0, 1, 1, 0, 0, 1, 1, 1, 0, 0, 1, 1, 0, 0, 1, 1, 1, 1, 1] a M Q⟩,
    ⟨1003, fun _ _ => False, fun a M => At Tryd.prog Ex none Tryd.f3 [1, 1, 0, 1, 0, 0, 1, 1, 0, 0, 1, 1, 1, 1, 1, 1, 1, 0, 0, 1, 1, 0, 0, 1, 1, 1, 0, 0, 1, 1, 1] a M Q⟩,
    ⟨1, fun a M => kfin Tryd.prog Tryd.f3.results.toList Q 1 a M, fun a M => kfin Tryd.prog Tryd.f3.results.toList Q 1 a M⟩]
    [1000, 1001] [1] (by kernel_rfl) (by kernel_rfl) (by kernel_rfl) (by kernel_rfl) (by kernel_rfl)
    ⟨fun a M hn h => by obtain ⟨⟨n, f⟩, ds⟩ := a; have hn : n = 145 := hn; subst hn; obtain ⟨hd, h⟩ := dfr_iff h; have hd : ds = [] := hd; subst hd; exact h f rfl rfl rfl rfl rfl rfl rfl rfl rfl rfl rfl rfl rfl rfl rfl,
    fun _ _ _ h => h.elim,
    fun _ _ _ h => h,
    trivial⟩
    (cast (by kernel_rfl) h)
def S_fettlelaw5_LinePlaces_12 (x6 x9 x12 x26 x27 x28 x56 x57 x58 : Value) (M : Store) (Q : Value → Store → Prop) : Prop :=
  OP (binI .add x58 (.int .i64 1)) fun t142 =>
  P_fettlelaw5_LinePlaces_8 x6 x9 x12 x26 x27 x28 x56 x57 t142 M Q
theorem T_fettlelaw5_LinePlaces_12 {x6 x9 x12 x26 x27 x28 x56 x57 x58 : Value} {M : Store} {Q : Value → Store → Prop} (h : S_fettlelaw5_LinePlaces_12 x6 x9 x12 x26 x27 x28 x56 x57 x58 M Q) : P_fettlelaw5_LinePlaces_12 x6 x9 x12 x26 x27 x28 x56 x57 x58 M Q := by
  intro f h6 h9 h12 h26 h27 h28 h56 h57 h58; subst h6; subst h9; subst h12; subst h26; subst h27; subst h28; subst h56; subst h57; subst h58
  unfold At
  exact rule (B := 1000) (N := 145) (ct := .no)
    [⟨0, fun a M => dfr a.defers (P_fettlelaw5_LinePlaces_8 (a.get 6) (a.get 9) (a.get 12) (a.get 26) (a.get 27) (a.get 28) (a.get 56) (a.get 57) (a.get 58) M Q), fun a M => At Tryd.prog Ex none Tryd.f3 [1, 1, 0, 1, 0, 0, 1, 1, 0, 0, 1, 1, 1, 1, 1, 1, 1, 0] a M Q⟩]
    [] [0] (by kernel_rfl) (by kernel_rfl) (by kernel_rfl) (by kernel_rfl) (by kernel_rfl)
    ⟨fun a M hn h => by obtain ⟨⟨n, f⟩, ds⟩ := a; have hn : n = 145 := hn; subst hn; obtain ⟨hd, h⟩ := dfr_iff h; have hd : ds = [] := hd; subst hd; exact h f rfl rfl rfl rfl rfl rfl rfl rfl rfl,
    trivial⟩
    (cast (by kernel_rfl) h)
def S_fettlelaw5_LinePlaces_13 (x6 x9 x12 x14 x17 x18 x26 x27 x28 x56 x57 x58 x65 x66 x67 : Value) (M : Store) (Q : Value → Store → Prop) : Prop :=
  OP (binI .leq x17 x12) fun t114 =>
  BR t114 (
  NTs [(.bool false)] ∧ Q (.bool false) M
  ) (
  OP (lenS x18) fun t118 =>
  OP (binI .add x17 t118) fun t119 =>
  OP (lenV x6) fun t121 =>
  OP (binI .gtr t119 t121) fun t122 =>
  BR t122 (
  NTs [(.bool false)] ∧ Q (.bool false) M
  ) (
  OP (lenS x18) fun t129 =>
  OP (binI .add x17 t129) fun t130 =>
  OP (slV 1 Ty.uint8 x6 (some x17) (some t130) M) fun t131 =>
  OP (cvBS t131 M) fun t132 =>
  OP (binS .neq t132 x18) fun t134 =>
  BR t134 (
  NTs [(.bool false)] ∧ Q (.bool false) M
  ) (
  OP (lenS x18) fun t138 =>
  OP (binI .add x17 t138) fun t139 =>
  OP (binI .sub t139 (.int .i64 1)) fun t140 =>
  P_fettlelaw5_LinePlaces_14 x6 x9 t140 x14 x26 x27 x28 x56 x57 x58 x65 x66 x67 M Q
  )
  )
  )
theorem T_fettlelaw5_LinePlaces_13 {x6 x9 x12 x14 x17 x18 x26 x27 x28 x56 x57 x58 x65 x66 x67 : Value} {M : Store} {Q : Value → Store → Prop} (h : S_fettlelaw5_LinePlaces_13 x6 x9 x12 x14 x17 x18 x26 x27 x28 x56 x57 x58 x65 x66 x67 M Q) : P_fettlelaw5_LinePlaces_13 x6 x9 x12 x14 x17 x18 x26 x27 x28 x56 x57 x58 x65 x66 x67 M Q := by
  intro f h6 h9 h12 h14 h17 h18 h26 h27 h28 h56 h57 h58 h65 h66 h67; subst h6; subst h9; subst h12; subst h14; subst h17; subst h18; subst h26; subst h27; subst h28; subst h56; subst h57; subst h58; subst h65; subst h66; subst h67
  unfold At
  exact rule (B := 1000) (N := 145) (ct := .no)
    [⟨0, fun a M => dfr a.defers (P_fettlelaw5_LinePlaces_14 (a.get 6) (a.get 9) (a.get 12) (a.get 14) (a.get 26) (a.get 27) (a.get 28) (a.get 56) (a.get 57) (a.get 58) (a.get 65) (a.get 66) (a.get 67) M Q), fun a M => At Tryd.prog Ex none Tryd.f3 [1, 1, 0, 1, 0, 0, 1, 1, 0, 0, 1, 1, 1, 1, 1, 1, 1, 0, 0, 1, 1, 0, 0, 1, 1, 1, 0, 0, 1, 1, 1] a M Q⟩,
    ⟨1, fun a M => kfin Tryd.prog Tryd.f3.results.toList Q 1 a M, fun a M => kfin Tryd.prog Tryd.f3.results.toList Q 1 a M⟩]
    [] [0, 1] (by kernel_rfl) (by kernel_rfl) (by kernel_rfl) (by kernel_rfl) (by kernel_rfl)
    ⟨fun a M hn h => by obtain ⟨⟨n, f⟩, ds⟩ := a; have hn : n = 145 := hn; subst hn; obtain ⟨hd, h⟩ := dfr_iff h; have hd : ds = [] := hd; subst hd; exact h f rfl rfl rfl rfl rfl rfl rfl rfl rfl rfl rfl rfl rfl,
    fun _ _ _ h => h,
    trivial⟩
    (cast (by kernel_rfl) h)
def S_fettlelaw5_LinePlaces_14 (x6 x9 x12 x14 x26 x27 x28 x56 x57 x58 x65 x66 x67 : Value) (M : Store) (Q : Value → Store → Prop) : Prop :=
  OP (binI .add x67 (.int .i64 1)) fun t141 =>
  P_fettlelaw5_LinePlaces_10 x6 x9 x12 x14 x26 x27 x28 x56 x57 x58 x65 x66 t141 M Q
theorem T_fettlelaw5_LinePlaces_14 {x6 x9 x12 x14 x26 x27 x28 x56 x57 x58 x65 x66 x67 : Value} {M : Store} {Q : Value → Store → Prop} (h : S_fettlelaw5_LinePlaces_14 x6 x9 x12 x14 x26 x27 x28 x56 x57 x58 x65 x66 x67 M Q) : P_fettlelaw5_LinePlaces_14 x6 x9 x12 x14 x26 x27 x28 x56 x57 x58 x65 x66 x67 M Q := by
  intro f h6 h9 h12 h14 h26 h27 h28 h56 h57 h58 h65 h66 h67; subst h6; subst h9; subst h12; subst h14; subst h26; subst h27; subst h28; subst h56; subst h57; subst h58; subst h65; subst h66; subst h67
  unfold At
  exact rule (B := 1000) (N := 145) (ct := .no)
    [⟨0, fun a M => dfr a.defers (P_fettlelaw5_LinePlaces_10 (a.get 6) (a.get 9) (a.get 12) (a.get 14) (a.get 26) (a.get 27) (a.get 28) (a.get 56) (a.get 57) (a.get 58) (a.get 65) (a.get 66) (a.get 67) M Q), fun a M => At Tryd.prog Ex none Tryd.f3 [1, 1, 0, 1, 0, 0, 1, 1, 0, 0, 1, 1, 1, 1, 1, 1, 1, 0, 0, 1, 1, 0, 0, 1, 1, 1, 0] a M Q⟩]
    [] [0] (by kernel_rfl) (by kernel_rfl) (by kernel_rfl) (by kernel_rfl) (by kernel_rfl)
    ⟨fun a M hn h => by obtain ⟨⟨n, f⟩, ds⟩ := a; have hn : n = 145 := hn; subst hn; obtain ⟨hd, h⟩ := dfr_iff h; have hd : ds = [] := hd; subst hd; exact h f rfl rfl rfl rfl rfl rfl rfl rfl rfl rfl rfl rfl rfl,
    trivial⟩
    (cast (by kernel_rfl) h)
def P_fettlelaw5_LineJoins_1 (x5 x6 x7 x30 x31 x32 : Value) (M : Store) (Q : Value → Store → Prop) : Prop :=
  ∀ f : Nat → Value, f 5 = x5 → f 6 = x6 → f 7 = x7 → f 30 = x30 → f 31 = x31 → f 32 = x32 → At Tryd.prog Ex none Tryd.f4 [1, 1, 1, 1, 0, 1, 0] ⟨⟨130, f⟩, []⟩ M Q
def P_fettlelaw5_LineJoins_2 (x5 x6 x7 : Value) (M : Store) (Q : Value → Store → Prop) : Prop :=
  ∀ f : Nat → Value, f 5 = x5 → f 6 = x6 → f 7 = x7 → At Tryd.prog Ex none Tryd.f4 [1, 1, 1, 1, 1] ⟨⟨130, f⟩, []⟩ M Q
def P_fettlelaw5_LineJoins_3 (x7 x10 x12 x14 x15 x93 x94 x95 : Value) (M : Store) (Q : Value → Store → Prop) : Prop :=
  ∀ f : Nat → Value, f 7 = x7 → f 10 = x10 → f 12 = x12 → f 14 = x14 → f 15 = x15 → f 93 = x93 → f 94 = x94 → f 95 = x95 → At Tryd.prog Ex none Tryd.f4 [1, 1, 1, 1, 1, 1, 1, 1, 1, 1, 0, 1, 0] ⟨⟨130, f⟩, []⟩ M Q
def P_fettlelaw5_LineJoins_4 (x7 x10 x12 x14 x15 x17 x93 x94 x95 x100 x101 : Value) (M : Store) (Q : Value → Store → Prop) : Prop :=
  ∀ f : Nat → Value, f 7 = x7 → f 10 = x10 → f 12 = x12 → f 14 = x14 → f 15 = x15 → f 17 = x17 → f 93 = x93 → f 94 = x94 → f 95 = x95 → f 100 = x100 → f 101 = x101 → At Tryd.prog Ex none Tryd.f4 [1, 1, 1, 1, 1, 1, 1, 1, 1, 1, 0, 1, 0, 0, 1, 1, 0, 0, 1, 1, 0] ⟨⟨130, f⟩, []⟩ M Q
def P_fettlelaw5_LineJoins_5 (x10 x12 x14 x15 : Value) (M : Store) (Q : Value → Store → Prop) : Prop :=
  ∀ f : Nat → Value, f 10 = x10 → f 12 = x12 → f 14 = x14 → f 15 = x15 → At Tryd.prog Ex none Tryd.f4 [1, 1, 1, 1, 1, 1, 1, 1, 1, 1, 1] ⟨⟨130, f⟩, []⟩ M Q
def P_fettlelaw5_LineJoins_6 (x7 x10 x12 x14 x15 x17 x93 x94 x95 x100 x101 : Value) (M : Store) (Q : Value → Store → Prop) : Prop :=
  ∀ f : Nat → Value, f 7 = x7 → f 10 = x10 → f 12 = x12 → f 14 = x14 → f 15 = x15 → f 17 = x17 → f 93 = x93 → f 94 = x94 → f 95 = x95 → f 100 = x100 → f 101 = x101 → At Tryd.prog Ex none Tryd.f4 [1, 1, 1, 1, 1, 1, 1, 1, 1, 1, 0, 1, 0, 0, 1, 1, 0, 0, 1, 1, 0, 0, 1, 1] ⟨⟨130, f⟩, []⟩ M Q
def P_fettlelaw5_LineJoins_7 (x7 x10 x12 x14 x15 x93 x94 x95 : Value) (M : Store) (Q : Value → Store → Prop) : Prop :=
  ∀ f : Nat → Value, f 7 = x7 → f 10 = x10 → f 12 = x12 → f 14 = x14 → f 15 = x15 → f 93 = x93 → f 94 = x94 → f 95 = x95 → At Tryd.prog Ex none Tryd.f4 [1, 1, 1, 1, 1, 1, 1, 1, 1, 1, 0, 1, 0, 0, 1, 1, 1] ⟨⟨130, f⟩, []⟩ M Q
def S_fettlelaw5_LineJoins (x0 x1 : Value) (M : Store) (Q : Value → Store → Prop) : Prop :=
  OP (lenV x0) fun t20 =>
  OP (binI .gtr t20 (.int .i64 200)) fun t21 =>
  BR t21 (
  R F.fettlelaw5_awake #[] M fun t22 M1 =>
  NTs [t22] ∧ Q t22 M1
  ) (
  OP (bldL (.int .u8 0) 1 0 []) fun c =>
  LT (.slice (some ⟨M.n, 0, none⟩) 0 0) (M.push (some (.inl (c, Ty.uint8, true)))) fun t23 M2 =>
  OP2 (appV 1 Ty.uint8 t23 x0 M2) fun t25 M3 =>
  OP (bldL (.int .u8 0) 1 1 [(0, (.int .u8 10))]) fun c_1 =>
  LT (.slice (some ⟨M3.n, 0, none⟩) 1 1) (M3.push (some (.inl (c_1, Ty.uint8, true)))) fun t26 M4 =>
  OP2 (appV 1 Ty.uint8 t25 t26 M4) fun t27 M5 =>
  R F.fettlelaw5_Text #[x1] M5 fun t29 M6 =>
  OP (lenV t27) fun t31 =>
  P_fettlelaw5_LineJoins_1 t27 t29 (.int .i64 0) t27 t31 (.int .i64 0) M6 Q
  )
theorem T_fettlelaw5_LineJoins {x0 x1 : Value} {M : Store} {Q : Value → Store → Prop} (h : S_fettlelaw5_LineJoins x0 x1 M Q) : R F.fettlelaw5_LineJoins #[x0, x1] M Q := by
  refine runs_of (c := bodyOf Tryd.f4) Tryd.func4 rfl (by kernel_rfl) (by kernel_rfl) ?_
  unfold At
  exact rule (B := 1000) (N := 130) (ct := (.two .no (.two .no (.two .no (.two .no (.two (.two .no (.two (.here 1000) .no)) (.here 1001)))))))
    [⟨1002, fun a M => dfr a.defers (P_fettlelaw5_LineJoins_1 (a.get 5) (a.get 6) (a.get 7) (a.get 30) (a.get 31) (a.get 32) M Q), fun a M => At Tryd.prog Ex none Tryd.f4 [1, 1, 1, 1, 0, 1, 0] a M Q⟩,
    ⟨1003, fun _ _ => False, fun a M => At Tryd.prog Ex none Tryd.f4 [1, 1, 1, 1, 1] a M Q⟩,
    ⟨1, fun a M => kfin Tryd.prog Tryd.f4.results.toList Q 1 a M, fun a M => kfin Tryd.prog Tryd.f4.results.toList Q 1 a M⟩]
    [1000, 1001] [1] (by kernel_rfl) (by kernel_rfl) (by kernel_rfl) (by kernel_rfl) (by kernel_rfl)
    ⟨fun a M hn h => by obtain ⟨⟨n, f⟩, ds⟩ := a; have hn : n = 130 := hn; subst hn; obtain ⟨hd, h⟩ := dfr_iff h; have hd : ds = [] := hd; subst hd; exact h f rfl rfl rfl rfl rfl rfl,
    fun _ _ _ h => h.elim,
    fun _ _ _ h => h,
    trivial⟩
    (cast (by kernel_rfl) h)
def S_fettlelaw5_LineJoins_1 (x5 x6 x7 x30 x31 x32 : Value) (M : Store) (Q : Value → Store → Prop) : Prop :=
  OP (binI .lss x32 x31) fun t33 =>
  BR t33 (
  OP (ixA 1 x30 x32) fun t34 =>
  OP (ld 1 false t34 M) fun t35 =>
  OP (binI .eql t35 (.int .u8 10)) fun t37 =>
  BR t37 (
  OP (binI .add x7 (.int .i64 1)) fun t39 =>
  OP (binI .add x32 (.int .i64 1)) fun t40 =>
  P_fettlelaw5_LineJoins_1 x5 x6 t39 x30 x31 t40 M Q
  ) (
  OP (binI .add x32 (.int .i64 1)) fun t40_1 =>
  P_fettlelaw5_LineJoins_1 x5 x6 x7 x30 x31 t40_1 M Q
  )
  ) (
  P_fettlelaw5_LineJoins_2 x5 x6 x7 M Q
  )
theorem T_fettlelaw5_LineJoins_1 {x5 x6 x7 x30 x31 x32 : Value} {M : Store} {Q : Value → Store → Prop} (h : S_fettlelaw5_LineJoins_1 x5 x6 x7 x30 x31 x32 M Q) : P_fettlelaw5_LineJoins_1 x5 x6 x7 x30 x31 x32 M Q := by
  intro f h5 h6 h7 h30 h31 h32; subst h5; subst h6; subst h7; subst h30; subst h31; subst h32
  unfold At
  refine cast (by kernel_rfl) (CW.loop (P := Tryd.prog) (E := Ex) (rd := none) (x := sub (bodyOf Tryd.f4) [1, 1, 1, 1, 0, 1, 0, 0]) (a := ⟨⟨130, f⟩, []⟩) (M := M) (K := kcont Tryd.prog Ex none (bodyOf Tryd.f4) [1, 1, 1, 1, 0, 1, 0] (kfin Tryd.prog Tryd.f4.results.toList Q)) ?_)
  exact rule (B := 1000) (N := 130) (ct := .no)
    [⟨0, fun a M => dfr a.defers (P_fettlelaw5_LineJoins_1 (a.get 5) (a.get 6) (a.get 7) (a.get 30) (a.get 31) (a.get 32) M Q), fun a M => At Tryd.prog Ex none Tryd.f4 [1, 1, 1, 1, 0, 1, 0] a M Q⟩,
    ⟨2, fun a M => dfr a.defers (P_fettlelaw5_LineJoins_2 (a.get 5) (a.get 6) (a.get 7) M Q), fun a M => At Tryd.prog Ex none Tryd.f4 [1, 1, 1, 1, 1] a M Q⟩]
    [] [0, 2] (by kernel_rfl) (by kernel_rfl) (by kernel_rfl) (by kernel_rfl) (by kernel_rfl)
    ⟨fun a M hn h => by obtain ⟨⟨n, f⟩, ds⟩ := a; have hn : n = 130 := hn; subst hn; obtain ⟨hd, h⟩ := dfr_iff h; have hd : ds = [] := hd; subst hd; exact h f rfl rfl rfl rfl rfl rfl,
    fun a M hn h => by obtain ⟨⟨n, f⟩, ds⟩ := a; have hn : n = 130 := hn; subst hn; obtain ⟨hd, h⟩ := dfr_iff h; have hd : ds = [] := hd; subst hd; exact h f rfl rfl rfl,
    trivial⟩
    (cast (by kernel_rfl) h)
def S_fettlelaw5_LineJoins_2 (x5 x6 x7 : Value) (M : Store) (Q : Value → Store → Prop) : Prop :=
  R F.line_Split #[x5] M fun t43 M1 =>
  OP (tup t43 0) fun t44 =>
  OP (tup t43 1) fun t45 =>
  LT (.pointer (some ⟨M1.n, 0, none⟩)) (M1.push (some (.inl ([(.int .i64 0), (.int .i64 0), (.int .i64 0)], Ty.api_Fault, true)))) fun t11 M2 =>
  OP (st 3 t11 t45 M2) fun M3 =>
  R F.line_Split #[x6] M3 fun t48 M4 =>
  OP (tup t48 0) fun t49 =>
  OP (tup t48 1) fun t50 =>
  LT (.pointer (some ⟨M4.n, 0, none⟩)) (M4.push (some (.inl ([(.int .i64 0), (.int .i64 0), (.int .i64 0)], Ty.api_Fault, true)))) fun t13 M5 =>
  OP (st 3 t13 t50 M5) fun M6 =>
  OP (bldL (.int .u8 0) 1 0 []) fun c =>
  LT (.slice (some ⟨M6.n, 0, none⟩) 0 0) (M6.push (some (.inl (c, Ty.uint8, true)))) fun t52 M7 =>
  OP2 (appV 1 Ty.uint8 t52 x5 M7) fun t54 M8 =>
  OP2 (appV 1 Ty.uint8 t54 x6 M8) fun t56 M9 =>
  R F.line_Split #[t56] M9 fun t57 M10 =>
  OP (tup t57 0) fun t58 =>
  OP (tup t57 1) fun t59 =>
  LT (.pointer (some ⟨M10.n, 0, none⟩)) (M10.push (some (.inl ([(.int .i64 0), (.int .i64 0), (.int .i64 0)], Ty.api_Fault, true)))) fun t15 M11 =>
  OP (st 3 t15 t59 M11) fun M12 =>
  OP (fad 0 t11) fun t60 =>
  OP (ld 1 false t60 M12) fun t61 =>
  OP (binI .neq t61 (.int .i64 0)) fun t62 =>
  BR t62 (
  OP (ld 3 true t15 M12) fun t63 =>
  OP (ld 3 true t11 M12) fun t64 =>
  OP (abin Tryd.prog false .eql Ty.api_Fault t63 t64) fun t65 =>
  BR t65 (
  OP (lenV t58) fun t68 =>
  OP (binI .eql t68 (.int .i64 0)) fun t69 =>
  BR t69 (
  R F.fettlelaw5_awake #[] M12 fun t72 M13 =>
  NTs [t72] ∧ Q t72 M13
  ) (
  NTs [(.bool false)] ∧ Q (.bool false) M12
  )
  ) (
  NTs [(.bool false)] ∧ Q (.bool false) M12
  )
  ) (
  OP (fad 0 t13) fun t74 =>
  OP (ld 1 false t74 M12) fun t75 =>
  OP (binI .neq t75 (.int .i64 0)) fun t76 =>
  BR t76 (
  OP (fad 1 t13) fun t77 =>
  OP (ld 1 false t77 M12) fun t78 =>
  OP (binI .add t78 x7) fun t80 =>
  OP (fad 1 t13) fun t81 =>
  OP (st 1 t81 t80 M12) fun M14 =>
  OP (ld 3 true t15 M14) fun t82 =>
  OP (ld 3 true t13 M14) fun t83 =>
  OP (abin Tryd.prog false .eql Ty.api_Fault t82 t83) fun t84 =>
  BR t84 (
  OP (lenV t58) fun t87 =>
  OP (binI .eql t87 (.int .i64 0)) fun t88 =>
  BR t88 (
  R F.fettlelaw5_awake #[] M14 fun t91 M15 =>
  NTs [t91] ∧ Q t91 M15
  ) (
  NTs [(.bool false)] ∧ Q (.bool false) M14
  )
  ) (
  NTs [(.bool false)] ∧ Q (.bool false) M14
  )
  ) (
  OP (lenV t49) fun t94 =>
  P_fettlelaw5_LineJoins_3 x7 t44 t49 t58 t15 t49 t94 (.int .i64 0) M12 Q
  )
  )
theorem T_fettlelaw5_LineJoins_2 {x5 x6 x7 : Value} {M : Store} {Q : Value → Store → Prop} (h : S_fettlelaw5_LineJoins_2 x5 x6 x7 M Q) : P_fettlelaw5_LineJoins_2 x5 x6 x7 M Q := by
  intro f h5 h6 h7; subst h5; subst h6; subst h7
  unfold At
  exact rule (B := 1000) (N := 130) (ct := (.two .no (.two .no (.two .no (.two .no (.two .no (.two (.two .no (.two (.here 1000) .no)) (.here 1001))))))))
    [⟨1002, fun a M => dfr a.defers (P_fettlelaw5_LineJoins_3 (a.get 7) (a.get 10) (a.get 12) (a.get 14) (a.get 15) (a.get 93) (a.get 94) (a.get 95) M Q), fun a M => At Tryd.prog Ex none Tryd.f4 [1, 1, 1, 1, 1, 1, 1, 1, 1, 1, 0, 1, 0] a M Q⟩,
    ⟨1003, fun _ _ => False, fun a M => At Tryd.prog Ex none Tryd.f4 [1, 1, 1, 1, 1, 1, 1, 1, 1, 1, 1] a M Q⟩,
    ⟨1, fun a M => kfin Tryd.prog Tryd.f4.results.toList Q 1 a M, fun a M => kfin Tryd.prog Tryd.f4.results.toList Q 1 a M⟩]
    [1000, 1001] [1] (by kernel_rfl) (by kernel_rfl) (by kernel_rfl) (by kernel_rfl) (by kernel_rfl)
    ⟨fun a M hn h => by obtain ⟨⟨n, f⟩, ds⟩ := a; have hn : n = 130 := hn; subst hn; obtain ⟨hd, h⟩ := dfr_iff h; have hd : ds = [] := hd; subst hd; exact h f rfl rfl rfl rfl rfl rfl rfl rfl,
    fun _ _ _ h => h.elim,
    fun _ _ _ h => h,
    trivial⟩
    (cast (by kernel_rfl) h)
def S_fettlelaw5_LineJoins_3 (x7 x10 x12 x14 x15 x93 x94 x95 : Value) (M : Store) (Q : Value → Store → Prop) : Prop :=
  OP (binI .lss x95 x94) fun t96 =>
  BR t96 (
  OP (ixA 1 x93 x95) fun t97 =>
  OP (ld 1 false t97 M) fun t98 =>
  OP (lenV t98) fun t100 =>
  P_fettlelaw5_LineJoins_4 x7 x10 x12 x14 x15 t98 x93 x94 x95 t100 (.int .i64 0) M Q
  ) (
  P_fettlelaw5_LineJoins_5 x10 x12 x14 x15 M Q
  )
theorem T_fettlelaw5_LineJoins_3 {x7 x10 x12 x14 x15 x93 x94 x95 : Value} {M : Store} {Q : Value → Store → Prop} (h : S_fettlelaw5_LineJoins_3 x7 x10 x12 x14 x15 x93 x94 x95 M Q) : P_fettlelaw5_LineJoins_3 x7 x10 x12 x14 x15 x93 x94 x95 M Q := by
  intro f h7 h10 h12 h14 h15 h93 h94 h95; subst h7; subst h10; subst h12; subst h14; subst h15; subst h93; subst h94; subst h95
  unfold At
  refine cast (by kernel_rfl) (CW.loop (P := Tryd.prog) (E := Ex) (rd := none) (x := sub (bodyOf Tryd.f4) [1, 1, 1, 1, 1, 1, 1, 1, 1, 1, 0, 1, 0, 0]) (a := ⟨⟨130, f⟩, []⟩) (M := M) (K := kcont Tryd.prog Ex none (bodyOf Tryd.f4) [1, 1, 1, 1, 1, 1, 1, 1, 1, 1, 0, 1, 0] (kfin Tryd.prog Tryd.f4.results.toList Q)) ?_)
  exact rule (B := 1000) (N := 130) (ct := (.two .no (.two .no (.two (.two (.two .no (.two .no (.two (.here 1000) .no))) .no) (.here 1001)))))
    [⟨1002, fun a M => dfr a.defers (P_fettlelaw5_LineJoins_4 (a.get 7) (a.get 10) (a.get 12) (a.get 14) (a.get 15) (a.get 17) (a.get 93) (a.get 94) (a.get 95) (a.get 100) (a.get 101) M Q), fun a M => At Tryd.prog Ex none Tryd.f4 [1, 1, 1, 1, 1, 1, 1, 1, 1, 1, 0, 1, 0, 0, 1, 1, 0, 0, 1, 1, 0] a M Q⟩,
    ⟨1003, fun _ _ => False, fun a M => At Tryd.prog Ex none Tryd.f4 [1, 1, 1, 1, 1, 1, 1, 1, 1, 1, 0, 1, 0, 0, 1, 1, 1] a M Q⟩,
    ⟨4, fun a M => dfr a.defers (P_fettlelaw5_LineJoins_5 (a.get 10) (a.get 12) (a.get 14) (a.get 15) M Q), fun a M => At Tryd.prog Ex none Tryd.f4 [1, 1, 1, 1, 1, 1, 1, 1, 1, 1, 1] a M Q⟩]
    [1000, 1001] [4] (by kernel_rfl) (by kernel_rfl) (by kernel_rfl) (by kernel_rfl) (by kernel_rfl)
    ⟨fun a M hn h => by obtain ⟨⟨n, f⟩, ds⟩ := a; have hn : n = 130 := hn; subst hn; obtain ⟨hd, h⟩ := dfr_iff h; have hd : ds = [] := hd; subst hd; exact h f rfl rfl rfl rfl rfl rfl rfl rfl rfl rfl rfl,
    fun _ _ _ h => h.elim,
    fun a M hn h => by obtain ⟨⟨n, f⟩, ds⟩ := a; have hn : n = 130 := hn; subst hn; obtain ⟨hd, h⟩ := dfr_iff h; have hd : ds = [] := hd; subst hd; exact h f rfl rfl rfl rfl,
    trivial⟩
    (cast (by kernel_rfl) h)
def S_fettlelaw5_LineJoins_4 (x7 x10 x12 x14 x15 x17 x93 x94 x95 x100 x101 : Value) (M : Store) (Q : Value → Store → Prop) : Prop :=
  OP (binI .lss x101 x100) fun t102 =>
  BR t102 (
  P_fettlelaw5_LineJoins_6 x7 x10 x12 x14 x15 x17 x93 x94 x95 x100 x101 M Q
  ) (
  P_fettlelaw5_LineJoins_7 x7 x10 x12 x14 x15 x93 x94 x95 M Q
  )
theorem T_fettlelaw5_LineJoins_4 {x7 x10 x12 x14 x15 x17 x93 x94 x95 x100 x101 : Value} {M : Store} {Q : Value → Store → Prop} (h : S_fettlelaw5_LineJoins_4 x7 x10 x12 x14 x15 x17 x93 x94 x95 x100 x101 M Q) : P_fettlelaw5_LineJoins_4 x7 x10 x12 x14 x15 x17 x93 x94 x95 x100 x101 M Q := by
  intro f h7 h10 h12 h14 h15 h17 h93 h94 h95 h100 h101; subst h7; subst h10; subst h12; subst h14; subst h15; subst h17; subst h93; subst h94; subst h95; subst h100; subst h101
  unfold At
  refine cast (by kernel_rfl) (CW.loop (P := Tryd.prog) (E := Ex) (rd := none) (x := sub (bodyOf Tryd.f4) [1, 1, 1, 1, 1, 1, 1, 1, 1, 1, 0, 1, 0, 0, 1, 1, 0, 0, 1, 1, 0, 0]) (a := ⟨⟨130, f⟩, []⟩) (M := M) (K := kcont Tryd.prog Ex none (bodyOf Tryd.f4) [1, 1, 1, 1, 1, 1, 1, 1, 1, 1, 0, 1, 0, 0, 1, 1, 0, 0, 1, 1, 0] (kfin Tryd.prog Tryd.f4.results.toList Q)) ?_)
  exact rule (B := 1000) (N := 130) (ct := (.two .no (.two .no (.here 1000))))
    [⟨1002, fun a M => dfr a.defers (P_fettlelaw5_LineJoins_6 (a.get 7) (a.get 10) (a.get 12) (a.get 14) (a.get 15) (a.get 17) (a.get 93) (a.get 94) (a.get 95) (a.get 100) (a.get 101) M Q), fun a M => At Tryd.prog Ex none Tryd.f4 [1, 1, 1, 1, 1, 1, 1, 1, 1, 1, 0, 1, 0, 0, 1, 1, 0, 0, 1, 1, 0, 0, 1, 1] a M Q⟩,
    ⟨6, fun a M => dfr a.defers (P_fettlelaw5_LineJoins_7 (a.get 7) (a.get 10) (a.get 12) (a.get 14) (a.get 15) (a.get 93) (a.get 94) (a.get 95) M Q), fun a M => At Tryd.prog Ex none Tryd.f4 [1, 1, 1, 1, 1, 1, 1, 1, 1, 1, 0, 1, 0, 0, 1, 1, 1] a M Q⟩]
    [1000] [6] (by kernel_rfl) (by kernel_rfl) (by kernel_rfl) (by kernel_rfl) (by kernel_rfl)
    ⟨fun a M hn h => by obtain ⟨⟨n, f⟩, ds⟩ := a; have hn : n = 130 := hn; subst hn; obtain ⟨hd, h⟩ := dfr_iff h; have hd : ds = [] := hd; subst hd; exact h f rfl rfl rfl rfl rfl rfl rfl rfl rfl rfl rfl,
    fun a M hn h => by obtain ⟨⟨n, f⟩, ds⟩ := a; have hn : n = 130 := hn; subst hn; obtain ⟨hd, h⟩ := dfr_iff h; have hd : ds = [] := hd; subst hd; exact h f rfl rfl rfl rfl rfl rfl rfl rfl,
    trivial⟩
    (cast (by kernel_rfl) h)
def S_fettlelaw5_LineJoins_5 (x10 x12 x14 x15 : Value) (M : Store) (Q : Value → Store → Prop) : Prop :=
  OP (fad 0 x15) fun t117 =>
  OP (ld 1 false t117 M) fun t118 =>
  OP (binI .eql t118 (.int .i64 0)) fun t119 =>
  BR t119 (
  OP2 (appV 1 Ty.sl_api_Word x10 x12 M) fun t124 M1 =>
  R F.fettleref4_SameLines #[x14, t124] M1 fun t125 M2 =>
  BR t125 (
  R F.fettlelaw5_awake #[] M2 fun t128 M3 =>
  NTs [t128] ∧ Q t128 M3
  ) (
  NTs [(.bool false)] ∧ Q (.bool false) M2
  )
  ) (
  NTs [(.bool false)] ∧ Q (.bool false) M
  )
theorem T_fettlelaw5_LineJoins_5 {x10 x12 x14 x15 : Value} {M : Store} {Q : Value → Store → Prop} (h : S_fettlelaw5_LineJoins_5 x10 x12 x14 x15 M Q) : P_fettlelaw5_LineJoins_5 x10 x12 x14 x15 M Q := by
  intro f h10 h12 h14 h15; subst h10; subst h12; subst h14; subst h15
  unfold At
  exact rule (B := 1000) (N := 130) (ct := .no)
    [⟨1, fun a M => kfin Tryd.prog Tryd.f4.results.toList Q 1 a M, fun a M => kfin Tryd.prog Tryd.f4.results.toList Q 1 a M⟩]
    [] [1] (by kernel_rfl) (by kernel_rfl) (by kernel_rfl) (by kernel_rfl) (by kernel_rfl)
    ⟨fun _ _ _ h => h,
    trivial⟩
    (cast (by kernel_rfl) h)
def S_fettlelaw5_LineJoins_6 (x7 x10 x12 x14 x15 x17 x93 x94 x95 x100 x101 : Value) (M : Store) (Q : Value → Store → Prop) : Prop :=
  OP (ixA 4 x17 x101) fun t108 =>
  OP (fad 1 t108) fun t109 =>
  OP (ld 1 false t109 M) fun t110 =>
  OP (binI .add t110 x7) fun t112 =>
  OP (ixA 4 x17 x101) fun t113 =>
  OP (fad 1 t113) fun t114 =>
  OP (st 1 t114 t112 M) fun M1 =>
  OP (binI .add x101 (.int .i64 1)) fun t115 =>
  P_fettlelaw5_LineJoins_4 x7 x10 x12 x14 x15 x17 x93 x94 x95 x100 t115 M1 Q
theorem T_fettlelaw5_LineJoins_6 {x7 x10 x12 x14 x15 x17 x93 x94 x95 x100 x101 : Value} {M : Store} {Q : Value → Store → Prop} (h : S_fettlelaw5_LineJoins_6 x7 x10 x12 x14 x15 x17 x93 x94 x95 x100 x101 M Q) : P_fettlelaw5_LineJoins_6 x7 x10 x12 x14 x15 x17 x93 x94 x95 x100 x101 M Q := by
  intro f h7 h10 h12 h14 h15 h17 h93 h94 h95 h100 h101; subst h7; subst h10; subst h12; subst h14; subst h15; subst h17; subst h93; subst h94; subst h95; subst h100; subst h101
  unfold At
  exact rule (B := 1000) (N := 130) (ct := .no)
    [⟨0, fun a M => dfr a.defers (P_fettlelaw5_LineJoins_4 (a.get 7) (a.get 10) (a.get 12) (a.get 14) (a.get 15) (a.get 17) (a.get 93) (a.get 94) (a.get 95) (a.get 100) (a.get 101) M Q), fun a M => At Tryd.prog Ex none Tryd.f4 [1, 1, 1, 1, 1, 1, 1, 1, 1, 1, 0, 1, 0, 0, 1, 1, 0, 0, 1, 1, 0] a M Q⟩]
    [] [0] (by kernel_rfl) (by kernel_rfl) (by kernel_rfl) (by kernel_rfl) (by kernel_rfl)
    ⟨fun a M hn h => by obtain ⟨⟨n, f⟩, ds⟩ := a; have hn : n = 130 := hn; subst hn; obtain ⟨hd, h⟩ := dfr_iff h; have hd : ds = [] := hd; subst hd; exact h f rfl rfl rfl rfl rfl rfl rfl rfl rfl rfl rfl,
    trivial⟩
    (cast (by kernel_rfl) h)
def S_fettlelaw5_LineJoins_7 (x7 x10 x12 x14 x15 x93 x94 x95 : Value) (M : Store) (Q : Value → Store → Prop) : Prop :=
  OP (binI .add x95 (.int .i64 1)) fun t116 =>
  P_fettlelaw5_LineJoins_3 x7 x10 x12 x14 x15 x93 x94 t116 M Q
theorem T_fettlelaw5_LineJoins_7 {x7 x10 x12 x14 x15 x93 x94 x95 : Value} {M : Store} {Q : Value → Store → Prop} (h : S_fettlelaw5_LineJoins_7 x7 x10 x12 x14 x15 x93 x94 x95 M Q) : P_fettlelaw5_LineJoins_7 x7 x10 x12 x14 x15 x93 x94 x95 M Q := by
  intro f h7 h10 h12 h14 h15 h93 h94 h95; subst h7; subst h10; subst h12; subst h14; subst h15; subst h93; subst h94; subst h95
  unfold At
  exact rule (B := 1000) (N := 130) (ct := .no)
    [⟨0, fun a M => dfr a.defers (P_fettlelaw5_LineJoins_3 (a.get 7) (a.get 10) (a.get 12) (a.get 14) (a.get 15) (a.get 93) (a.get 94) (a.get 95) M Q), fun a M => At Tryd.prog Ex none Tryd.f4 [1, 1, 1, 1, 1, 1, 1, 1, 1, 1, 0, 1, 0] a M Q⟩]
    [] [0] (by kernel_rfl) (by kernel_rfl) (by kernel_rfl) (by kernel_rfl) (by kernel_rfl)
    ⟨fun a M hn h => by obtain ⟨⟨n, f⟩, ds⟩ := a; have hn : n = 130 := hn; subst hn; obtain ⟨hd, h⟩ := dfr_iff h; have hd : ds = [] := hd; subst hd; exact h f rfl rfl rfl rfl rfl rfl rfl rfl,
    trivial⟩
    (cast (by kernel_rfl) h)
def P_fettlelaw5_LineTells_1 (x22 x23 x24 : Value) (M : Store) (Q : Value → Store → Prop) : Prop :=
  ∀ f : Nat → Value, f 22 = x22 → f 23 = x23 → f 24 = x24 → At Tryd.prog Ex none Tryd.f5 [1, 1, 0, 1, 0] ⟨⟨49, f⟩, []⟩ M Q
def P_fettlelaw5_LineTells_2 (x22 x23 x24 : Value) (M : Store) (Q : Value → Store → Prop) : Prop :=
  ∀ f : Nat → Value, f 22 = x22 → f 23 = x23 → f 24 = x24 → At Tryd.prog Ex none Tryd.f5 [1, 1, 0, 1, 0, 0, 1, 1] ⟨⟨49, f⟩, []⟩ M Q
def P_fettlelaw5_LineTells_3 (M : Store) (Q : Value → Store → Prop) : Prop :=
  ∀ f : Nat → Value, At Tryd.prog Ex none Tryd.f5 [1, 1, 1] ⟨⟨49, f⟩, []⟩ M Q
def S_fettlelaw5_LineTells (x0 x1 : Value) (M : Store) (Q : Value → Store → Prop) : Prop :=
  OP (lenV x0) fun t12 =>
  OP (binI .gtr t12 (.int .i64 400)) fun t13 =>
  BR t13 (
  R F.fettlelaw5_awake #[] M fun t14 M1 =>
  NTs [t14] ∧ Q t14 M1
  ) (
  R F.fettlelaw5_Text #[x1] M fun t17 M2 =>
  R F.fettlelaw5_Text #[x1] M2 fun t19 M3 =>
  OP2 (appV 1 Ty.uint8 t19 x0 M3) fun t21 M4 =>
  OP (bldL (.slice none 0 0) 1 3 [(0, x0), (1, t17), (2, t21)]) fun c =>
  LT (.slice (some ⟨M4.n, 0, none⟩) 3 3) (M4.push (some (.inl (c, Ty.sl_uint8, true)))) fun t22 M5 =>
  OP (lenV t22) fun t23 =>
  P_fettlelaw5_LineTells_1 t22 t23 (.int .i64 0) M5 Q
  )
theorem T_fettlelaw5_LineTells {x0 x1 : Value} {M : Store} {Q : Value → Store → Prop} (h : S_fettlelaw5_LineTells x0 x1 M Q) : R F.fettlelaw5_LineTells #[x0, x1] M Q := by
  refine runs_of (c := bodyOf Tryd.f5) Tryd.func5 rfl (by kernel_rfl) (by kernel_rfl) ?_
  unfold At
  exact rule (B := 1000) (N := 49) (ct := (.two .no (.two .no (.two (.two .no (.two (.here 1000) .no)) (.here 1001)))))
    [⟨1002, fun a M => dfr a.defers (P_fettlelaw5_LineTells_1 (a.get 22) (a.get 23) (a.get 24) M Q), fun a M => At Tryd.prog Ex none Tryd.f5 [1, 1, 0, 1, 0] a M Q⟩,
    ⟨1003, fun _ _ => False, fun a M => At Tryd.prog Ex none Tryd.f5 [1, 1, 1] a M Q⟩,
    ⟨1, fun a M => kfin Tryd.prog Tryd.f5.results.toList Q 1 a M, fun a M => kfin Tryd.prog Tryd.f5.results.toList Q 1 a M⟩]
    [1000, 1001] [1] (by kernel_rfl) (by kernel_rfl) (by kernel_rfl) (by kernel_rfl) (by kernel_rfl)
    ⟨fun a M hn h => by obtain ⟨⟨n, f⟩, ds⟩ := a; have hn : n = 49 := hn; subst hn; obtain ⟨hd, h⟩ := dfr_iff h; have hd : ds = [] := hd; subst hd; exact h f rfl rfl rfl,
    fun _ _ _ h => h.elim,
    fun _ _ _ h => h,
    trivial⟩
    (cast (by kernel_rfl) h)
def S_fettlelaw5_LineTells_1 (x22 x23 x24 : Value) (M : Store) (Q : Value → Store → Prop) : Prop :=
  OP (binI .lss x24 x23) fun t25 =>
  BR t25 (
  P_fettlelaw5_LineTells_2 x22 x23 x24 M Q
  ) (
  P_fettlelaw5_LineTells_3 M Q
  )
theorem T_fettlelaw5_LineTells_1 {x22 x23 x24 : Value} {M : Store} {Q : Value → Store → Prop} (h : S_fettlelaw5_LineTells_1 x22 x23 x24 M Q) : P_fettlelaw5_LineTells_1 x22 x23 x24 M Q := by
  intro f h22 h23 h24; subst h22; subst h23; subst h24
  unfold At
  refine cast (by kernel_rfl) (CW.loop (P := Tryd.prog) (E := Ex) (rd := none) (x := sub (bodyOf Tryd.f5) [1, 1, 0, 1, 0, 0]) (a := ⟨⟨49, f⟩, []⟩) (M := M) (K := kcont Tryd.prog Ex none (bodyOf Tryd.f5) [1, 1, 0, 1, 0] (kfin Tryd.prog Tryd.f5.results.toList Q)) ?_)
  exact rule (B := 1000) (N := 49) (ct := (.two .no (.two .no (.here 1000))))
    [⟨1002, fun a M => dfr a.defers (P_fettlelaw5_LineTells_2 (a.get 22) (a.get 23) (a.get 24) M Q), fun a M => At Tryd.prog Ex none Tryd.f5 [1, 1, 0, 1, 0, 0, 1, 1] a M Q⟩,
    ⟨2, fun a M => dfr a.defers (P_fettlelaw5_LineTells_3 M Q), fun a M => At Tryd.prog Ex none Tryd.f5 [1, 1, 1] a M Q⟩]
    [1000] [2] (by kernel_rfl) (by kernel_rfl) (by kernel_rfl) (by kernel_rfl) (by kernel_rfl)
    ⟨fun a M hn h => by obtain ⟨⟨n, f⟩, ds⟩ := a; have hn : n = 49 := hn; subst hn; obtain ⟨hd, h⟩ := dfr_iff h; have hd : ds = [] := hd; subst hd; exact h f rfl rfl rfl,
    fun a M hn h => by obtain ⟨⟨n, f⟩, ds⟩ := a; have hn : n = 49 := hn; subst hn; obtain ⟨hd, h⟩ := dfr_iff h; have hd : ds = [] := hd; subst hd; exact h f,
    trivial⟩
    (cast (by kernel_rfl) h)
def S_fettlelaw5_LineTells_2 (x22 x23 x24 : Value) (M : Store) (Q : Value → Store → Prop) : Prop :=
  OP (ixA 1 x22 x24) fun t26 =>
  OP (ld 1 false t26 M) fun t27 =>
  R F.line_Split #[t27] M fun t30 M1 =>
  OP (tup t30 0) fun t31 =>
  OP (tup t30 1) fun t32 =>
  LT (.pointer (some ⟨M1.n, 0, none⟩)) (M1.push (some (.inl ([(.int .i64 0), (.int .i64 0), (.int .i64 0)], Ty.api_Fault, true)))) fun t8 M2 =>
  OP (st 3 t8 t32 M2) fun M3 =>
  R F.fettleref4_Split #[t27] M3 fun t35 M4 =>
  OP (tup t35 0) fun t36 =>
  OP (tup t35 1) fun t37 =>
  LT (.pointer (some ⟨M4.n, 0, none⟩)) (M4.push (some (.inl ([(.int .i64 0), (.int .i64 0), (.int .i64 0)], Ty.api_Fault, true)))) fun t10 M5 =>
  OP (st 3 t10 t37 M5) fun M6 =>
  OP (ld 3 true t8 M6) fun t38 =>
  OP (ld 3 true t10 M6) fun t39 =>
  OP (abin Tryd.prog false .neq Ty.api_Fault t38 t39) fun t40 =>
  BR t40 (
  NTs [(.bool false)] ∧ Q (.bool false) M6
  ) (
  R F.fettleref4_SameLines #[t31, t36] M6 fun t44 M7 =>
  OP (aun .not t44) fun t45 =>
  BR t45 (
  NTs [(.bool false)] ∧ Q (.bool false) M7
  ) (
  OP (binI .add x24 (.int .i64 1)) fun t47 =>
  P_fettlelaw5_LineTells_1 x22 x23 t47 M7 Q
  )
  )
theorem T_fettlelaw5_LineTells_2 {x22 x23 x24 : Value} {M : Store} {Q : Value → Store → Prop} (h : S_fettlelaw5_LineTells_2 x22 x23 x24 M Q) : P_fettlelaw5_LineTells_2 x22 x23 x24 M Q := by
  intro f h22 h23 h24; subst h22; subst h23; subst h24
  unfold At
  exact rule (B := 1000) (N := 49) (ct := .no)
    [⟨0, fun a M => dfr a.defers (P_fettlelaw5_LineTells_1 (a.get 22) (a.get 23) (a.get 24) M Q), fun a M => At Tryd.prog Ex none Tryd.f5 [1, 1, 0, 1, 0] a M Q⟩,
    ⟨1, fun a M => kfin Tryd.prog Tryd.f5.results.toList Q 1 a M, fun a M => kfin Tryd.prog Tryd.f5.results.toList Q 1 a M⟩]
    [] [0, 1] (by kernel_rfl) (by kernel_rfl) (by kernel_rfl) (by kernel_rfl) (by kernel_rfl)
    ⟨fun a M hn h => by obtain ⟨⟨n, f⟩, ds⟩ := a; have hn : n = 49 := hn; subst hn; obtain ⟨hd, h⟩ := dfr_iff h; have hd : ds = [] := hd; subst hd; exact h f rfl rfl rfl,
    fun _ _ _ h => h,
    trivial⟩
    (cast (by kernel_rfl) h)
def S_fettlelaw5_LineTells_3 (M : Store) (Q : Value → Store → Prop) : Prop :=
  R F.fettlelaw5_awake #[] M fun t48 M1 =>
  NTs [t48] ∧ Q t48 M1
theorem T_fettlelaw5_LineTells_3 {M : Store} {Q : Value → Store → Prop} (h : S_fettlelaw5_LineTells_3 M Q) : P_fettlelaw5_LineTells_3 M Q := by
  intro f 
  unfold At
  exact rule (B := 1000) (N := 49) (ct := .no)
    [⟨1, fun a M => kfin Tryd.prog Tryd.f5.results.toList Q 1 a M, fun a M => kfin Tryd.prog Tryd.f5.results.toList Q 1 a M⟩]
    [] [1] (by kernel_rfl) (by kernel_rfl) (by kernel_rfl) (by kernel_rfl) (by kernel_rfl)
    ⟨fun _ _ _ h => h,
    trivial⟩
    (cast (by kernel_rfl) h)
def P_fettlelaw5_LineLong_1 (x0 x1 x2 x7 x8 : Value) (M : Store) (Q : Value → Store → Prop) : Prop :=
  ∀ f : Nat → Value, f 0 = x0 → f 1 = x1 → f 2 = x2 → f 7 = x7 → f 8 = x8 → At Tryd.prog Ex none Tryd.f7 [1, 1, 1, 0, 1, 0] ⟨⟨110, f⟩, []⟩ M Q
def P_fettlelaw5_LineLong_2 (x0 x1 x2 x7 : Value) (M : Store) (Q : Value → Store → Prop) : Prop :=
  ∀ f : Nat → Value, f 0 = x0 → f 1 = x1 → f 2 = x2 → f 7 = x7 → At Tryd.prog Ex none Tryd.f7 [1, 1, 1, 1] ⟨⟨110, f⟩, []⟩ M Q
def P_fettlelaw5_LineLong_3 (x0 x1 x2 x7 : Value) (M : Store) (Q : Value → Store → Prop) : Prop :=
  ∀ f : Nat → Value, f 0 = x0 → f 1 = x1 → f 2 = x2 → f 7 = x7 → At Tryd.prog Ex none Tryd.f7 [1, 1, 1, 1, 1] ⟨⟨110, f⟩, []⟩ M Q
def P_fettlelaw5_LineLong_4 (x0 x1 x2 x7 x9 x10 : Value) (M : Store) (Q : Value → Store → Prop) : Prop :=
  ∀ f : Nat → Value, f 0 = x0 → f 1 = x1 → f 2 = x2 → f 7 = x7 → f 9 = x9 → f 10 = x10 → At Tryd.prog Ex none Tryd.f7 [1, 1, 1, 1, 1, 1, 0, 1, 0] ⟨⟨110, f⟩, []⟩ M Q
def P_fettlelaw5_LineLong_5 (x0 x1 x2 x7 x9 : Value) (M : Store) (Q : Value → Store → Prop) : Prop :=
  ∀ f : Nat → Value, f 0 = x0 → f 1 = x1 → f 2 = x2 → f 7 = x7 → f 9 = x9 → At Tryd.prog Ex none Tryd.f7 [1, 1, 1, 1, 1, 1, 1] ⟨⟨110, f⟩, []⟩ M Q
def S_fettlelaw5_LineLong (x0 x1 x2 : Value) (M : Store) (Q : Value → Store → Prop) : Prop :=
  OP (binI .and x0 (.int .i64 127)) fun t14 =>
  OP (binI .add t14 (.int .i64 1)) fun t15 =>
  OP (binI .and x2 (.int .i64 7)) fun t17 =>
  P_fettlelaw5_LineLong_1 t15 x1 t17 (.string ⟨#[]⟩) (.int .i64 0) M Q
theorem T_fettlelaw5_LineLong {x0 x1 x2 : Value} {M : Store} {Q : Value → Store → Prop} (h : S_fettlelaw5_LineLong x0 x1 x2 M Q) : R F.fettlelaw5_LineLong #[x0, x1, x2] M Q := by
  refine runs_of (c := bodyOf Tryd.f7) Tryd.func7 rfl (by kernel_rfl) (by kernel_rfl) ?_
  unfold At
  exact rule (B := 1000) (N := 110) (ct := (.two .no (.two .no (.two .no (.two (.two .no (.two (.here 1000) .no)) (.here 1001))))))
    [⟨1002, fun a M => dfr a.defers (P_fettlelaw5_LineLong_1 (a.get 0) (a.get 1) (a.get 2) (a.get 7) (a.get 8) M Q), fun a M => At Tryd.prog Ex none Tryd.f7 [1, 1, 1, 0, 1, 0] a M Q⟩,
    ⟨1003, fun _ _ => False, fun a M => At Tryd.prog Ex none Tryd.f7 [1, 1, 1, 1] a M Q⟩]
    [1000, 1001] [] (by kernel_rfl) (by kernel_rfl) (by kernel_rfl) (by kernel_rfl) (by kernel_rfl)
    ⟨fun a M hn h => by obtain ⟨⟨n, f⟩, ds⟩ := a; have hn : n = 110 := hn; subst hn; obtain ⟨hd, h⟩ := dfr_iff h; have hd : ds = [] := hd; subst hd; exact h f rfl rfl rfl rfl rfl,
    fun _ _ _ h => h.elim,
    trivial⟩
    (cast (by kernel_rfl) h)
def S_fettlelaw5_LineLong_1 (x0 x1 x2 x7 x8 : Value) (M : Store) (Q : Value → Store → Prop) : Prop :=
  OP (binI .lss x8 x0) fun t20 =>
  BR t20 (
  OP (binS .add x7 (.string ⟨#[97]⟩)) fun t24 =>
  OP (binI .add x8 (.int .i64 1)) fun t22 =>
  P_fettlelaw5_LineLong_1 x0 x1 x2 t24 t22 M Q
  ) (
  P_fettlelaw5_LineLong_2 x0 x1 x2 x7 M Q
  )
theorem T_fettlelaw5_LineLong_1 {x0 x1 x2 x7 x8 : Value} {M : Store} {Q : Value → Store → Prop} (h : S_fettlelaw5_LineLong_1 x0 x1 x2 x7 x8 M Q) : P_fettlelaw5_LineLong_1 x0 x1 x2 x7 x8 M Q := by
  intro f h0 h1 h2 h7 h8; subst h0; subst h1; subst h2; subst h7; subst h8
  unfold At
  refine cast (by kernel_rfl) (CW.loop (P := Tryd.prog) (E := Ex) (rd := none) (x := sub (bodyOf Tryd.f7) [1, 1, 1, 0, 1, 0, 0]) (a := ⟨⟨110, f⟩, []⟩) (M := M) (K := kcont Tryd.prog Ex none (bodyOf Tryd.f7) [1, 1, 1, 0, 1, 0] (kfin Tryd.prog Tryd.f7.results.toList Q)) ?_)
  exact rule (B := 1000) (N := 110) (ct := .no)
    [⟨0, fun a M => dfr a.defers (P_fettlelaw5_LineLong_1 (a.get 0) (a.get 1) (a.get 2) (a.get 7) (a.get 8) M Q), fun a M => At Tryd.prog Ex none Tryd.f7 [1, 1, 1, 0, 1, 0] a M Q⟩,
    ⟨2, fun a M => dfr a.defers (P_fettlelaw5_LineLong_2 (a.get 0) (a.get 1) (a.get 2) (a.get 7) M Q), fun a M => At Tryd.prog Ex none Tryd.f7 [1, 1, 1, 1] a M Q⟩]
    [] [0, 2] (by kernel_rfl) (by kernel_rfl) (by kernel_rfl) (by kernel_rfl) (by kernel_rfl)
    ⟨fun a M hn h => by obtain ⟨⟨n, f⟩, ds⟩ := a; have hn : n = 110 := hn; subst hn; obtain ⟨hd, h⟩ := dfr_iff h; have hd : ds = [] := hd; subst hd; exact h f rfl rfl rfl rfl rfl,
    fun a M hn h => by obtain ⟨⟨n, f⟩, ds⟩ := a; have hn : n = 110 := hn; subst hn; obtain ⟨hd, h⟩ := dfr_iff h; have hd : ds = [] := hd; subst hd; exact h f rfl rfl rfl rfl,
    trivial⟩
    (cast (by kernel_rfl) h)
def S_fettlelaw5_LineLong_2 (x0 x1 x2 x7 : Value) (M : Store) (Q : Value → Store → Prop) : Prop :=
  BR x1 (
  OP (binS .add (.string ⟨#[34]⟩) x7) fun t27 =>
  OP (binS .add t27 (.string ⟨#[34]⟩)) fun t28 =>
  P_fettlelaw5_LineLong_3 x0 x1 x2 t28 M Q
  ) (
  P_fettlelaw5_LineLong_3 x0 x1 x2 x7 M Q
  )
theorem T_fettlelaw5_LineLong_2 {x0 x1 x2 x7 : Value} {M : Store} {Q : Value → Store → Prop} (h : S_fettlelaw5_LineLong_2 x0 x1 x2 x7 M Q) : P_fettlelaw5_LineLong_2 x0 x1 x2 x7 M Q := by
  intro f h0 h1 h2 h7; subst h0; subst h1; subst h2; subst h7
  unfold At
  exact rule (B := 1000) (N := 110) (ct := (.two .no (.here 1000)))
    [⟨1002, fun a M => dfr a.defers (P_fettlelaw5_LineLong_3 (a.get 0) (a.get 1) (a.get 2) (a.get 7) M Q), fun a M => At Tryd.prog Ex none Tryd.f7 [1, 1, 1, 1, 1] a M Q⟩]
    [1000] [] (by kernel_rfl) (by kernel_rfl) (by kernel_rfl) (by kernel_rfl) (by kernel_rfl)
    ⟨fun a M hn h => by obtain ⟨⟨n, f⟩, ds⟩ := a; have hn : n = 110 := hn; subst hn; obtain ⟨hd, h⟩ := dfr_iff h; have hd : ds = [] := hd; subst hd; exact h f rfl rfl rfl rfl,
    trivial⟩
    (cast (by kernel_rfl) h)
def S_fettlelaw5_LineLong_3 (x0 x1 x2 x7 : Value) (M : Store) (Q : Value → Store → Prop) : Prop :=
  P_fettlelaw5_LineLong_4 x0 x1 x2 x7 (.string ⟨#[120, 10]⟩) (.int .i64 0) M Q
theorem T_fettlelaw5_LineLong_3 {x0 x1 x2 x7 : Value} {M : Store} {Q : Value → Store → Prop} (h : S_fettlelaw5_LineLong_3 x0 x1 x2 x7 M Q) : P_fettlelaw5_LineLong_3 x0 x1 x2 x7 M Q := by
  intro f h0 h1 h2 h7; subst h0; subst h1; subst h2; subst h7
  unfold At
  exact rule (B := 1000) (N := 110) (ct := (.two .no (.two (.two .no (.two (.here 1000) .no)) (.here 1001))))
    [⟨1002, fun a M => dfr a.defers (P_fettlelaw5_LineLong_4 (a.get 0) (a.get 1) (a.get 2) (a.get 7) (a.get 9) (a.get 10) M Q), fun a M => At Tryd.prog Ex none Tryd.f7 [1, 1, 1, 1, 1, 1, 0, 1, 0] a M Q⟩,
    ⟨1003, fun _ _ => False, fun a M => At Tryd.prog Ex none Tryd.f7 [1, 1, 1, 1, 1, 1, 1] a M Q⟩]
    [1000, 1001] [] (by kernel_rfl) (by kernel_rfl) (by kernel_rfl) (by kernel_rfl) (by kernel_rfl)
    ⟨fun a M hn h => by obtain ⟨⟨n, f⟩, ds⟩ := a; have hn : n = 110 := hn; subst hn; obtain ⟨hd, h⟩ := dfr_iff h; have hd : ds = [] := hd; subst hd; exact h f rfl rfl rfl rfl rfl rfl,
    fun _ _ _ h => h.elim,
    trivial⟩
    (cast (by kernel_rfl) h)
def S_fettlelaw5_LineLong_4 (x0 x1 x2 x7 x9 x10 : Value) (M : Store) (Q : Value → Store → Prop) : Prop :=
  OP (binI .lss x10 x2) fun t31 =>
  BR t31 (
  OP (binS .add x9 (.string ⟨#[32]⟩)) fun t35 =>
  OP (binI .add x10 (.int .i64 1)) fun t33 =>
  P_fettlelaw5_LineLong_4 x0 x1 x2 x7 t35 t33 M Q
  ) (
  P_fettlelaw5_LineLong_5 x0 x1 x2 x7 x9 M Q
  )
theorem T_fettlelaw5_LineLong_4 {x0 x1 x2 x7 x9 x10 : Value} {M : Store} {Q : Value → Store → Prop} (h : S_fettlelaw5_LineLong_4 x0 x1 x2 x7 x9 x10 M Q) : P_fettlelaw5_LineLong_4 x0 x1 x2 x7 x9 x10 M Q := by
  intro f h0 h1 h2 h7 h9 h10; subst h0; subst h1; subst h2; subst h7; subst h9; subst h10
  unfold At
  refine cast (by kernel_rfl) (CW.loop (P := Tryd.prog) (E := Ex) (rd := none) (x := sub (bodyOf Tryd.f7) [1, 1, 1, 1, 1, 1, 0, 1, 0, 0]) (a := ⟨⟨110, f⟩, []⟩) (M := M) (K := kcont Tryd.prog Ex none (bodyOf Tryd.f7) [1, 1, 1, 1, 1, 1, 0, 1, 0] (kfin Tryd.prog Tryd.f7.results.toList Q)) ?_)
  exact rule (B := 1000) (N := 110) (ct := .no)
    [⟨0, fun a M => dfr a.defers (P_fettlelaw5_LineLong_4 (a.get 0) (a.get 1) (a.get 2) (a.get 7) (a.get 9) (a.get 10) M Q), fun a M => At Tryd.prog Ex none Tryd.f7 [1, 1, 1, 1, 1, 1, 0, 1, 0] a M Q⟩,
    ⟨4, fun a M => dfr a.defers (P_fettlelaw5_LineLong_5 (a.get 0) (a.get 1) (a.get 2) (a.get 7) (a.get 9) M Q), fun a M => At Tryd.prog Ex none Tryd.f7 [1, 1, 1, 1, 1, 1, 1] a M Q⟩]
    [] [0, 4] (by kernel_rfl) (by kernel_rfl) (by kernel_rfl) (by kernel_rfl) (by kernel_rfl)
    ⟨fun a M hn h => by obtain ⟨⟨n, f⟩, ds⟩ := a; have hn : n = 110 := hn; subst hn; obtain ⟨hd, h⟩ := dfr_iff h; have hd : ds = [] := hd; subst hd; exact h f rfl rfl rfl rfl rfl rfl,
    fun a M hn h => by obtain ⟨⟨n, f⟩, ds⟩ := a; have hn : n = 110 := hn; subst hn; obtain ⟨hd, h⟩ := dfr_iff h; have hd : ds = [] := hd; subst hd; exact h f rfl rfl rfl rfl rfl,
    trivial⟩
    (cast (by kernel_rfl) h)
def S_fettlelaw5_LineLong_5 (x0 x1 x2 x7 x9 : Value) (M : Store) (Q : Value → Store → Prop) : Prop :=
  OP (binS .add x9 x7) fun t39 =>
  OP (binS .add t39 (.string ⟨#[32, 98]⟩)) fun t40 =>
  OP2 (cvSB Ty.uint8 t40 M) fun t41 M1 =>
  R F.line_Split #[t41] M1 fun t42 M2 =>
  OP (tup t42 0) fun t43 =>
  OP (tup t42 1) fun t44 =>
  LT (.pointer (some ⟨M2.n, 0, none⟩)) (M2.push (some (.inl ([(.int .i64 0), (.int .i64 0), (.int .i64 0)], Ty.api_Fault, true)))) fun t12 M3 =>
  OP (st 3 t12 t44 M3) fun M4 =>
  OP (binI .gtr x0 (.int .i64 64)) fun t46 =>
  BR t46 (
  OP (ld 3 true t12 M4) fun t47 =>
  OP (binI .add x2 (.int .i64 1)) fun t49 =>
  OP (bldS #[(.int .i64 0), (.int .i64 0), (.int .i64 0)] [(0, 1), (1, 1), (2, 1)] [(0, (.int .i64 3)), (1, (.int .i64 2)), (2, t49)]) fun t50 =>
  OP (abin Tryd.prog false .eql Ty.api_Fault t47 t50) fun t51 =>
  BR t51 (
  OP (lenV t43) fun t54 =>
  OP (binI .eql t54 (.int .i64 0)) fun t55 =>
  BR t55 (
  R F.fettlelaw5_awake #[] M4 fun t58 M5 =>
  NTs [t58] ∧ Q t58 M5
  ) (
  NTs [(.bool false)] ∧ Q (.bool false) M4
  )
  ) (
  NTs [(.bool false)] ∧ Q (.bool false) M4
  )
  ) (
  OP (ld 3 true t12 M4) fun t60 =>
  OP (bldS #[(.int .i64 0), (.int .i64 0), (.int .i64 0)] [(0, 1), (1, 1), (2, 1)] []) fun t61 =>
  OP (abin Tryd.prog false .eql Ty.api_Fault t60 t61) fun t62 =>
  BR t62 (
  OP (lenV t43) fun t65 =>
  OP (binI .eql t65 (.int .i64 2)) fun t66 =>
  BR t66 (
  OP (ixA 1 t43 (.int .i64 1)) fun t70 =>
  OP (ld 1 false t70 M4) fun t71 =>
  OP (lenV t71) fun t72 =>
  OP (binI .eql t72 (.int .i64 2)) fun t73 =>
  BR t73 (
  OP (ixA 1 t43 (.int .i64 1)) fun t77 =>
  OP (ld 1 false t77 M4) fun t78 =>
  OP (ixA 4 t78 (.int .i64 0)) fun t79 =>
  OP (fad 0 t79) fun t80 =>
  OP (ld 1 false t80 M4) fun t81 =>
  OP (lenS t81) fun t82 =>
  OP (binI .eql t82 x0) fun t84 =>
  BR t84 (
  OP (ixA 1 t43 (.int .i64 1)) fun t88 =>
  OP (ld 1 false t88 M4) fun t89 =>
  OP (ixA 4 t89 (.int .i64 0)) fun t90 =>
  OP (fad 3 t90) fun t91 =>
  OP (ld 1 false t91 M4) fun t92 =>
  OP (abin Tryd.prog false .eql Ty.bool t92 x1) fun t94 =>
  BR t94 (
  OP (ixA 1 t43 (.int .i64 1)) fun t98 =>
  OP (ld 1 false t98 M4) fun t99 =>
  OP (ixA 4 t99 (.int .i64 0)) fun t100 =>
  OP (fad 2 t100) fun t101 =>
  OP (ld 1 false t101 M4) fun t102 =>
  OP (binI .add x2 (.int .i64 1)) fun t104 =>
  OP (binI .eql t102 t104) fun t105 =>
  BR t105 (
  R F.fettlelaw5_awake #[] M4 fun t108 M6 =>
  NTs [t108] ∧ Q t108 M6
  ) (
  NTs [(.bool false)] ∧ Q (.bool false) M4
  )
  ) (
  NTs [(.bool false)] ∧ Q (.bool false) M4
  )
  ) (
  NTs [(.bool false)] ∧ Q (.bool false) M4
  )
  ) (
  NTs [(.bool false)] ∧ Q (.bool false) M4
  )
  ) (
  NTs [(.bool false)] ∧ Q (.bool false) M4
  )
  ) (
  NTs [(.bool false)] ∧ Q (.bool false) M4
  )
  )
theorem T_fettlelaw5_LineLong_5 {x0 x1 x2 x7 x9 : Value} {M : Store} {Q : Value → Store → Prop} (h : S_fettlelaw5_LineLong_5 x0 x1 x2 x7 x9 M Q) : P_fettlelaw5_LineLong_5 x0 x1 x2 x7 x9 M Q := by
  intro f h0 h1 h2 h7 h9; subst h0; subst h1; subst h2; subst h7; subst h9
  unfold At
  exact rule (B := 1000) (N := 110) (ct := .no)
    [⟨1, fun a M => kfin Tryd.prog Tryd.f7.results.toList Q 1 a M, fun a M => kfin Tryd.prog Tryd.f7.results.toList Q 1 a M⟩]
    [] [1] (by kernel_rfl) (by kernel_rfl) (by kernel_rfl) (by kernel_rfl) (by kernel_rfl)
    ⟨fun _ _ _ h => h,
    trivial⟩
    (cast (by kernel_rfl) h)
def P_fettlelaw5_Text_1 (x0 x3 x4 x5 : Value) (M : Store) (Q : Value → Store → Prop) : Prop :=
  ∀ f : Nat → Value, f 0 = x0 → f 3 = x3 → f 4 = x4 → f 5 = x5 → At Tryd.prog Ex none Tryd.f15 [1, 1, 1, 0, 1, 0] ⟨⟨41, f⟩, []⟩ M Q
def P_fettlelaw5_Text_2 (x0 x3 x4 x5 : Value) (M : Store) (Q : Value → Store → Prop) : Prop :=
  ∀ f : Nat → Value, f 0 = x0 → f 3 = x3 → f 4 = x4 → f 5 = x5 → At Tryd.prog Ex none Tryd.f15 [1, 1, 1, 0, 1, 0, 0, 1] ⟨⟨41, f⟩, []⟩ M Q
def P_fettlelaw5_Text_3 (x4 : Value) (M : Store) (Q : Value → Store → Prop) : Prop :=
  ∀ f : Nat → Value, f 4 = x4 → At Tryd.prog Ex none Tryd.f15 [1, 1, 1, 1] ⟨⟨41, f⟩, []⟩ M Q
def S_fettlelaw5_Text (x0 : Value) (M : Store) (Q : Value → Store → Prop) : Prop :=
  OP (bldL (.string ⟨#[]⟩) 1 43 [(0, (.string ⟨#[114, 117, 108, 101]⟩)), (1, (.string ⟨#[112, 104, 111, 110, 121]⟩)), (2, (.string ⟨#[100, 101, 102, 97, 117, 108, 116]⟩)), (3, (.string ⟨#[108, 101, 116]⟩)), (4, (.string ⟨#[58]⟩)), (5, (.string ⟨#[61]⟩)), (6, (.string ⟨#[124]⟩)), (7, (.string ⟨#[44]⟩)), (8, (.string ⟨#[59]⟩)), (9, (.string ⟨#[97]⟩)), (10, (.string ⟨#[98]⟩)), (11, (.string ⟨#[99]⟩)), (12, (.string ⟨#[100]⟩)), (13, (.string ⟨#[120, 46, 111]⟩)), (14, (.string ⟨#[115, 114, 99]⟩)), (15, (.string ⟨#[36, 118]⟩)), (16, (.string ⟨#[36, 119]⟩)), (17, (.string ⟨#[116, 101, 120, 116]⟩)), (18, (.string ⟨#[105, 110]⟩)), (19, (.string ⟨#[97, 108, 108]⟩)), (20, (.string ⟨#[117, 112, 112, 101, 114]⟩)), (21, (.string ⟨#[114, 101, 118]⟩)), (22, (.string ⟨#[116, 97, 107, 101]⟩)), (23, (.string ⟨#[48]⟩)), (24, (.string ⟨#[51]⟩)), (25, (.string ⟨#[48, 48, 55]⟩)), (26, (.string ⟨#[106, 111, 105, 110]⟩)), (27, (.string ⟨#[102, 97, 105, 108]⟩)), (28, (.string ⟨#[34, 104, 105, 34]⟩)), (29, (.string ⟨#[34, 34]⟩)), (30, (.string ⟨#[34]⟩)), (31, (.string ⟨#[35]⟩)), (32, (.string ⟨#[10]⟩)), (33, (.string ⟨#[10]⟩)), (34, (.string ⟨#[10]⟩)), (35, (.string ⟨#[65]⟩)), (36, (.string ⟨#[195, 169]⟩)), (37, (.string ⟨#[9]⟩)), (38, (.string ⟨#[108, 101, 116, 32, 118, 32, 61, 32, 97, 108, 108, 32, 59, 32, 117, 112, 112, 101, 114, 10]⟩)), (39, (.string ⟨#[114, 117, 108, 101, 32, 97, 32, 58, 32, 98, 32, 61, 32, 97, 108, 108, 10]⟩)), (40, (.string ⟨#[114, 117, 108, 101, 32, 99, 32, 100, 32, 58, 32, 115, 114, 99, 32, 124, 32, 97, 32, 61, 32, 105, 110, 32, 48, 32, 44, 32, 116, 101, 120, 116, 32, 34, 113, 34, 10]⟩)), (41, (.string ⟨#[112, 104, 111, 110, 121, 32, 97, 108, 108, 32, 58, 32, 97, 10]⟩)), (42, (.string ⟨#[100, 101, 102, 97, 117, 108, 116, 32, 97, 10]⟩))]) fun c =>
  LT (.slice (some ⟨M.n, 0, none⟩) 43 43) (M.push (some (.inl (c, Ty.string, true)))) fun t6 M1 =>
  P_fettlelaw5_Text_1 x0 t6 (.slice none 0 0) (.int .i64 0) M1 Q
theorem T_fettlelaw5_Text {x0 : Value} {M : Store} {Q : Value → Store → Prop} (h : S_fettlelaw5_Text x0 M Q) : R F.fettlelaw5_Text #[x0] M Q := by
  refine runs_of (c := bodyOf Tryd.f15) Tryd.func15 rfl (by kernel_rfl) (by kernel_rfl) ?_
  unfold At
  exact rule (B := 1000) (N := 41) (ct := (.two .no (.two .no (.two .no (.two (.two .no (.two (.here 1000) .no)) (.here 1001))))))
    [⟨1002, fun a M => dfr a.defers (P_fettlelaw5_Text_1 (a.get 0) (a.get 3) (a.get 4) (a.get 5) M Q), fun a M => At Tryd.prog Ex none Tryd.f15 [1, 1, 1, 0, 1, 0] a M Q⟩,
    ⟨1003, fun _ _ => False, fun a M => At Tryd.prog Ex none Tryd.f15 [1, 1, 1, 1] a M Q⟩]
    [1000, 1001] [] (by kernel_rfl) (by kernel_rfl) (by kernel_rfl) (by kernel_rfl) (by kernel_rfl)
    ⟨fun a M hn h => by obtain ⟨⟨n, f⟩, ds⟩ := a; have hn : n = 41 := hn; subst hn; obtain ⟨hd, h⟩ := dfr_iff h; have hd : ds = [] := hd; subst hd; exact h f rfl rfl rfl rfl,
    fun _ _ _ h => h.elim,
    trivial⟩
    (cast (by kernel_rfl) h)
def S_fettlelaw5_Text_1 (x0 x3 x4 x5 : Value) (M : Store) (Q : Value → Store → Prop) : Prop :=
  OP (lenV x0) fun t9 =>
  OP (binI .lss x5 t9) fun t10 =>
  BR t10 (
  OP (binI .lss x5 (.int .i64 50)) fun t13 =>
  BR t13 (
  P_fettlelaw5_Text_2 x0 x3 x4 x5 M Q
  ) (
  P_fettlelaw5_Text_3 x4 M Q
  )
  ) (
  P_fettlelaw5_Text_3 x4 M Q
  )
theorem T_fettlelaw5_Text_1 {x0 x3 x4 x5 : Value} {M : Store} {Q : Value → Store → Prop} (h : S_fettlelaw5_Text_1 x0 x3 x4 x5 M Q) : P_fettlelaw5_Text_1 x0 x3 x4 x5 M Q := by
  intro f h0 h3 h4 h5; subst h0; subst h3; subst h4; subst h5
  unfold At
  refine cast (by kernel_rfl) (CW.loop (P := Tryd.prog) (E := Ex) (rd := none) (x := sub (bodyOf Tryd.f15) [1, 1, 1, 0, 1, 0, 0]) (a := ⟨⟨41, f⟩, []⟩) (M := M) (K := kcont Tryd.prog Ex none (bodyOf Tryd.f15) [1, 1, 1, 0, 1, 0] (kfin Tryd.prog Tryd.f15.results.toList Q)) ?_)
  exact rule (B := 1000) (N := 41) (ct := (.two .no (.here 1000)))
    [⟨1002, fun a M => dfr a.defers (P_fettlelaw5_Text_2 (a.get 0) (a.get 3) (a.get 4) (a.get 5) M Q), fun a M => At Tryd.prog Ex none Tryd.f15 [1, 1, 1, 0, 1, 0, 0, 1] a M Q⟩,
    ⟨2, fun a M => dfr a.defers (P_fettlelaw5_Text_3 (a.get 4) M Q), fun a M => At Tryd.prog Ex none Tryd.f15 [1, 1, 1, 1] a M Q⟩]
    [1000] [2] (by kernel_rfl) (by kernel_rfl) (by kernel_rfl) (by kernel_rfl) (by kernel_rfl)
    ⟨fun a M hn h => by obtain ⟨⟨n, f⟩, ds⟩ := a; have hn : n = 41 := hn; subst hn; obtain ⟨hd, h⟩ := dfr_iff h; have hd : ds = [] := hd; subst hd; exact h f rfl rfl rfl rfl,
    fun a M hn h => by obtain ⟨⟨n, f⟩, ds⟩ := a; have hn : n = 41 := hn; subst hn; obtain ⟨hd, h⟩ := dfr_iff h; have hd : ds = [] := hd; subst hd; exact h f rfl,
    trivial⟩
    (cast (by kernel_rfl) h)
def S_fettlelaw5_Text_2 (x0 x3 x4 x5 : Value) (M : Store) (Q : Value → Store → Prop) : Prop :=
  OP (ixA 1 x0 x5) fun t21 =>
  OP (ld 1 false t21 M) fun t22 =>
  OP (binI .and t22 (.int .i64 65535)) fun t23 =>
  OP (lenV x3) fun t25 =>
  OP (binI .rem t23 t25) fun t26 =>
  OP (ixA 1 x3 t26) fun t27 =>
  OP (ld 1 false t27 M) fun t28 =>
  OP2 (appT 1 Ty.uint8 x4 t28 M) fun t29 M1 =>
  OP (ixA 1 x0 x5) fun t32 =>
  OP (ld 1 false t32 M1) fun t33 =>
  OP (binI .shr t33 (.int .u64 16)) fun t34 =>
  OP (binI .and t34 (.int .i64 3)) fun t35 =>
  OP (binI .gtr t35 (.int .i64 0)) fun t36 =>
  BR t36 (
  OP (bldL (.int .u8 0) 1 1 [(0, (.int .u8 32))]) fun c =>
  LT (.slice (some ⟨M1.n, 0, none⟩) 1 1) (M1.push (some (.inl (c, Ty.uint8, true)))) fun t38 M2 =>
  OP2 (appV 1 Ty.uint8 t29 t38 M2) fun t39 M3 =>
  OP (binI .add x5 (.int .i64 1)) fun t16 =>
  P_fettlelaw5_Text_1 x0 x3 t39 t16 M3 Q
  ) (
  OP (binI .add x5 (.int .i64 1)) fun t16_1 =>
  P_fettlelaw5_Text_1 x0 x3 t29 t16_1 M1 Q
  )
theorem T_fettlelaw5_Text_2 {x0 x3 x4 x5 : Value} {M : Store} {Q : Value → Store → Prop} (h : S_fettlelaw5_Text_2 x0 x3 x4 x5 M Q) : P_fettlelaw5_Text_2 x0 x3 x4 x5 M Q := by
  intro f h0 h3 h4 h5; subst h0; subst h3; subst h4; subst h5
  unfold At
  exact rule (B := 1000) (N := 41) (ct := .no)
    [⟨0, fun a M => dfr a.defers (P_fettlelaw5_Text_1 (a.get 0) (a.get 3) (a.get 4) (a.get 5) M Q), fun a M => At Tryd.prog Ex none Tryd.f15 [1, 1, 1, 0, 1, 0] a M Q⟩]
    [] [0] (by kernel_rfl) (by kernel_rfl) (by kernel_rfl) (by kernel_rfl) (by kernel_rfl)
    ⟨fun a M hn h => by obtain ⟨⟨n, f⟩, ds⟩ := a; have hn : n = 41 := hn; subst hn; obtain ⟨hd, h⟩ := dfr_iff h; have hd : ds = [] := hd; subst hd; exact h f rfl rfl rfl rfl,
    trivial⟩
    (cast (by kernel_rfl) h)
def S_fettlelaw5_Text_3 (x4 : Value) (M : Store) (Q : Value → Store → Prop) : Prop :=
  NTs [x4] ∧ Q x4 M
theorem T_fettlelaw5_Text_3 {x4 : Value} {M : Store} {Q : Value → Store → Prop} (h : S_fettlelaw5_Text_3 x4 M Q) : P_fettlelaw5_Text_3 x4 M Q := by
  intro f h4; subst h4
  unfold At
  exact rule (B := 1000) (N := 41) (ct := .no)
    [⟨1, fun a M => kfin Tryd.prog Tryd.f15.results.toList Q 1 a M, fun a M => kfin Tryd.prog Tryd.f15.results.toList Q 1 a M⟩]
    [] [1] (by kernel_rfl) (by kernel_rfl) (by kernel_rfl) (by kernel_rfl) (by kernel_rfl)
    ⟨fun _ _ _ h => h,
    trivial⟩
    (cast (by kernel_rfl) h)
end Go.G
