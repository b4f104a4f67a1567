/-  -/
import Derived.Test.YtnonfejhkbaikaaPGN
open Go.RowKit
namespace Go.G
open Go.Ab Go.Proofs
set_option linter.unusedVariables false
set_option maxRecDepth 100000
def P_l8_GrphWanted_1 (x1 x5 x7 x8 : Value) (M : Store) (Q : KP) : Prop :=
  ∀ f : Nat → Value, f 1 = x1 → f 5 = x5 → f 7 = x7 → f 8 = x8 → At Try.prog Ex none Try.f4 [1, 1, 1, 1, 0, 1, 0] ⟨⟨186, f⟩, []⟩ M Q
def P_l8_GrphWanted_2 (x1 x5 x7 x8 : Value) (M : Store) (Q : KP) : Prop :=
  ∀ f : Nat → Value, f 1 = x1 → f 5 = x5 → f 7 = x7 → f 8 = x8 → At Try.prog Ex none Try.f4 [1, 1, 1, 1, 0, 1, 0, 0, 1] ⟨⟨186, f⟩, []⟩ M Q
def P_l8_GrphWanted_3 (x5 x7 : Value) (M : Store) (Q : KP) : Prop :=
  ∀ f : Nat → Value, f 5 = x5 → f 7 = x7 → At Try.prog Ex none Try.f4 [1, 1, 1, 1, 1] ⟨⟨186, f⟩, []⟩ M Q
def P_l8_GrphWanted_4 (x5 x7 x9 x10 x65 x66 x67 : Value) (M : Store) (Q : KP) : Prop :=
  ∀ f : Nat → Value, f 5 = x5 → f 7 = x7 → f 9 = x9 → f 10 = x10 → f 65 = x65 → f 66 = x66 → f 67 = x67 → At Try.prog Ex none Try.f4 [1, 1, 1, 1, 1, 1, 1, 0, 1, 0] ⟨⟨186, f⟩, []⟩ M Q
def P_l8_GrphWanted_5 (x5 x7 x9 x10 x65 x66 x67 : Value) (M : Store) (Q : KP) : Prop :=
  ∀ f : Nat → Value, f 5 = x5 → f 7 = x7 → f 9 = x9 → f 10 = x10 → f 65 = x65 → f 66 = x66 → f 67 = x67 → At Try.prog Ex none Try.f4 [1, 1, 1, 1, 1, 1, 1, 0, 1, 0, 0, 1, 1] ⟨⟨186, f⟩, []⟩ M Q
def P_l8_GrphWanted_6 (x5 x7 x9 x10 : Value) (M : Store) (Q : KP) : Prop :=
  ∀ f : Nat → Value, f 5 = x5 → f 7 = x7 → f 9 = x9 → f 10 = x10 → At Try.prog Ex none Try.f4 [1, 1, 1, 1, 1, 1, 1, 1] ⟨⟨186, f⟩, []⟩ M Q
def P_l8_GrphWanted_7 (x5 x7 x10 x15 x95 x96 x97 : Value) (M : Store) (Q : KP) : Prop :=
  ∀ f : Nat → Value, f 5 = x5 → f 7 = x7 → f 10 = x10 → f 15 = x15 → f 95 = x95 → f 96 = x96 → f 97 = x97 → At Try.prog Ex none Try.f4 [1, 1, 1, 1, 1, 1, 1, 1, 1, 0, 1, 0] ⟨⟨186, f⟩, []⟩ M Q
def P_l8_GrphWanted_8 (x5 x7 x10 x15 x95 x96 x97 : Value) (M : Store) (Q : KP) : Prop :=
  ∀ f : Nat → Value, f 5 = x5 → f 7 = x7 → f 10 = x10 → f 15 = x15 → f 95 = x95 → f 96 = x96 → f 97 = x97 → At Try.prog Ex none Try.f4 [1, 1, 1, 1, 1, 1, 1, 1, 1, 0, 1, 0, 0, 1, 1] ⟨⟨186, f⟩, []⟩ M Q
def P_l8_GrphWanted_9 (x5 x7 x10 x15 : Value) (M : Store) (Q : KP) : Prop :=
  ∀ f : Nat → Value, f 5 = x5 → f 7 = x7 → f 10 = x10 → f 15 = x15 → At Try.prog Ex none Try.f4 [1, 1, 1, 1, 1, 1, 1, 1, 1, 1] ⟨⟨186, f⟩, []⟩ M Q
def P_l8_GrphWanted_10 (x5 x7 x10 x15 x17 x95 x96 x97 x103 x104 x105 : Value) (M : Store) (Q : KP) : Prop :=
  ∀ f : Nat → Value, f 5 = x5 → f 7 = x7 → f 10 = x10 → f 15 = x15 → f 17 = x17 → f 95 = x95 → f 96 = x96 → f 97 = x97 → f 103 = x103 → f 104 = x104 → f 105 = x105 → At Try.prog Ex none Try.f4 [1, 1, 1, 1, 1, 1, 1, 1, 1, 0, 1, 0, 0, 1, 1, 0, 0, 1, 1, 0] ⟨⟨186, f⟩, []⟩ M Q
def P_l8_GrphWanted_11 (x7 x10 x15 x129 x130 x131 : Value) (M : Store) (Q : KP) : Prop :=
  ∀ f : Nat → Value, f 7 = x7 → f 10 = x10 → f 15 = x15 → f 129 = x129 → f 130 = x130 → f 131 = x131 → At Try.prog Ex none Try.f4 [1, 1, 1, 1, 1, 1, 1, 1, 1, 1, 0, 1, 0] ⟨⟨186, f⟩, []⟩ M Q
def P_l8_GrphWanted_12 (x5 x7 x10 x15 x17 x95 x96 x97 x103 x104 x105 : Value) (M : Store) (Q : KP) : Prop :=
  ∀ f : Nat → Value, f 5 = x5 → f 7 = x7 → f 10 = x10 → f 15 = x15 → f 17 = x17 → f 95 = x95 → f 96 = x96 → f 97 = x97 → f 103 = x103 → f 104 = x104 → f 105 = x105 → At Try.prog Ex none Try.f4 [1, 1, 1, 1, 1, 1, 1, 1, 1, 0, 1, 0, 0, 1, 1, 0, 0, 1, 1, 0, 0, 1, 1] ⟨⟨186, f⟩, []⟩ M Q
def P_l8_GrphWanted_13 (x5 x7 x10 x15 x95 x96 x97 : Value) (M : Store) (Q : KP) : Prop :=
  ∀ f : Nat → Value, f 5 = x5 → f 7 = x7 → f 10 = x10 → f 15 = x15 → f 95 = x95 → f 96 = x96 → f 97 = x97 → At Try.prog Ex none Try.f4 [1, 1, 1, 1, 1, 1, 1, 1, 1, 0, 1, 0, 0, 1, 1, 1] ⟨⟨186, f⟩, []⟩ M Q
def P_l8_GrphWanted_14 (x7 x10 x15 x129 x130 x131 : Value) (M : Store) (Q : KP) : Prop :=
  ∀ f : Nat → Value, f 7 = x7 → f 10 = x10 → f 15 = x15 → f 129 = x129 → f 130 = x130 → f 131 = x131 → At Try.prog Ex none Try.f4 [1, 1, 1, 1, 1, 1, 1, 1, 1, 1, 0, 1, 0, 0, 1, 1] ⟨⟨186, f⟩, []⟩ M Q
def P_l8_GrphWanted_15 (M : Store) (Q : KP) : Prop :=
  ∀ f : Nat → Value, At Try.prog Ex none Try.f4 [1, 1, 1, 1, 1, 1, 1, 1, 1, 1, 1] ⟨⟨186, f⟩, []⟩ M Q
def P_l8_GrphWanted_16 (x7 x10 x15 x22 x24 x129 x130 x131 x140 x141 x142 : Value) (M : Store) (Q : KP) : Prop :=
  ∀ f : Nat → Value, f 7 = x7 → f 10 = x10 → f 15 = x15 → f 22 = x22 → f 24 = x24 → f 129 = x129 → f 130 = x130 → f 131 = x131 → f 140 = x140 → f 141 = x141 → f 142 = x142 → At Try.prog Ex none Try.f4 [1, 1, 1, 1, 1, 1, 1, 1, 1, 1, 0, 1, 0, 0, 1, 1, 0, 0, 1, 1, 0, 1, 0] ⟨⟨186, f⟩, []⟩ M Q
def P_l8_GrphWanted_17 (x7 x10 x15 x22 x24 x26 x129 x130 x131 x140 x141 x142 x146 x147 x148 : Value) (M : Store) (Q : KP) : Prop :=
  ∀ f : Nat → Value, f 7 = x7 → f 10 = x10 → f 15 = x15 → f 22 = x22 → f 24 = x24 → f 26 = x26 → f 129 = x129 → f 130 = x130 → f 131 = x131 → f 140 = x140 → f 141 = x141 → f 142 = x142 → f 146 = x146 → f 147 = x147 → f 148 = x148 → At Try.prog Ex none Try.f4 [1, 1, 1, 1, 1, 1, 1, 1, 1, 1, 0, 1, 0, 0, 1, 1, 0, 0, 1, 1, 0, 1, 0, 0, 1, 1, 0, 0, 1, 1, 0] ⟨⟨186, f⟩, []⟩ M Q
def P_l8_GrphWanted_18 (x7 x10 x15 x22 x24 x129 x130 x131 : Value) (M : Store) (Q : KP) : Prop :=
  ∀ f : Nat → Value, f 7 = x7 → f 10 = x10 → f 15 = x15 → f 22 = x22 → f 24 = x24 → f 129 = x129 → f 130 = x130 → f 131 = x131 → At Try.prog Ex none Try.f4 [1, 1, 1, 1, 1, 1, 1, 1, 1, 1, 0, 1, 0, 0, 1, 1, 0, 0, 1, 1, 1] ⟨⟨186, f⟩, []⟩ M Q
def P_l8_GrphWanted_19 (x7 x10 x15 x22 x24 x129 x130 x131 x140 x141 x142 : Value) (M : Store) (Q : KP) : Prop :=
  ∀ f : Nat → Value, f 7 = x7 → f 10 = x10 → f 15 = x15 → f 22 = x22 → f 24 = x24 → f 129 = x129 → f 130 = x130 → f 131 = x131 → f 140 = x140 → f 141 = x141 → f 142 = x142 → At Try.prog Ex none Try.f4 [1, 1, 1, 1, 1, 1, 1, 1, 1, 1, 0, 1, 0, 0, 1, 1, 0, 0, 1, 1, 0, 1, 0, 0, 1, 1, 1] ⟨⟨186, f⟩, []⟩ M Q
def P_l8_GrphWanted_20 (x7 x10 x15 x129 x130 x131 : Value) (M : Store) (Q : KP) : Prop :=
  ∀ f : Nat → Value, f 7 = x7 → f 10 = x10 → f 15 = x15 → f 129 = x129 → f 130 = x130 → f 131 = x131 → At Try.prog Ex none Try.f4 [1, 1, 1, 1, 1, 1, 1, 1, 1, 1, 0, 1, 0, 0, 1, 1, 1] ⟨⟨186, f⟩, []⟩ M Q
def S_l8_GrphWanted (x0 x1 : Value) (M : Store) (Q : KP) : Prop :=
  R F.lM #[x0] M fun t33 M1 =>
  R F.r4_Parse #[t33] M1 fun t34 M2 =>
  OP (tup t34 0) fun t35 =>
  OP (tup t34 1) fun t36 =>
  LT (.pointer (some ⟨M2.n, 0, none⟩)) (M2.push (some (.inl ([(.slice none 0 0), (.slice none 0 0)], Ty.api_Manifest, true)))) fun t5 M3 =>
  LT (.pointer (some ⟨M3.n, 0, none⟩)) (M3.push (some (.inl ([(.int .i64 0), (.int .i64 0), (.int .i64 0)], Ty.api_Fault, true)))) fun t6 M4 =>
  OP (st 2 t5 t35 M4) fun M5 =>
  OP (st 3 t6 t36 M5) fun M6 =>
  OP (fad 0 t6) fun t37 =>
  OP (ld 1 false t37 M6) fun t38 =>
  OP (binI .neq t38 (.int .i64 0)) fun t39 =>
  BR t39 (
  NTs [(.bool false)] ∧ Q (.bool false) M6
  ) (
  P_l8_GrphWanted_1 x1 t5 (.slice none 0 0) (.int .i64 0) M6 Q
  )
theorem T_l8_GrphWanted {x0 x1 : Value} {M : Store} {Q : KP} (h : S_l8_GrphWanted x0 x1 M Q) : R F.l8_GrphWanted #[x0, x1] M Q := by
  refine runs_of (c := bodyOf Try.f4) Try.func4 rfl (by kernel_rfl) (by kernel_rfl) ?_
  unfold At
  exact rule (B := 1000) (N := 186) (ct := (.two .no (.two .no (.two .no (.two .no (.two (.two .no (.two (.here 1000) .no)) (.here 1001)))))))
    [⟨1002, fun a M => dfr a.defers (P_l8_GrphWanted_1 (a.get 1) (a.get 5) (a.get 7) (a.get 8) M Q), fun a M => At Try.prog Ex none Try.f4 [1, 1, 1, 1, 0, 1, 0] a M Q⟩,
    ⟨1003, fun _ _ => False, fun a M => At Try.prog Ex none Try.f4 [1, 1, 1, 1, 1] a M Q⟩,
    ⟨1, fun a M => kfin Try.prog Try.f4.results.toList Q 1 a M, fun a M => kfin Try.prog Try.f4.results.toList Q 1 a M⟩]
    [1000, 1001] [1] (by kernel_rfl) (by kernel_rfl) (by kernel_rfl) (by kernel_rfl) (by kernel_rfl)
    ⟨fun a M hn h => by obtain ⟨⟨n, f⟩, ds⟩ := a; have hn : n = 186 := hn; subst hn; obtain ⟨hd, h⟩ := dfr_iff h; have hd : ds = [] := hd; subst hd; exact h f rfl rfl rfl rfl,
    fun _ _ _ h => h.elim,
    fun _ _ _ h => h,
    trivial⟩
    (cast (by kernel_rfl) h)
def S_l8_GrphWanted_1 (x1 x5 x7 x8 : Value) (M : Store) (Q : KP) : Prop :=
  OP (lenV x1) fun t42 =>
  OP (binI .lss x8 t42) fun t43 =>
  BR t43 (
  OP (binI .lss x8 (.int .i64 3)) fun t46 =>
  BR t46 (
  P_l8_GrphWanted_2 x1 x5 x7 x8 M Q
  ) (
  P_l8_GrphWanted_3 x5 x7 M Q
  )
  ) (
  P_l8_GrphWanted_3 x5 x7 M Q
  )
theorem T_l8_GrphWanted_1 {x1 x5 x7 x8 : Value} {M : Store} {Q : KP} (h : S_l8_GrphWanted_1 x1 x5 x7 x8 M Q) : P_l8_GrphWanted_1 x1 x5 x7 x8 M Q := by
  intro f h1 h5 h7 h8; subst h1; subst h5; subst h7; subst h8
  unfold At
  refine cast (by kernel_rfl) (CW.loop (P := Try.prog) (E := Ex) (rd := none) (x := sub (bodyOf Try.f4) [1, 1, 1, 1, 0, 1, 0, 0]) (a := ⟨⟨186, f⟩, []⟩) (M := M) (K := kcont Try.prog Ex none (bodyOf Try.f4) [1, 1, 1, 1, 0, 1, 0] (kfin Try.prog Try.f4.results.toList Q)) ?_)
  exact rule (B := 1000) (N := 186) (ct := (.two .no (.here 1000)))
    [⟨1002, fun a M => dfr a.defers (P_l8_GrphWanted_2 (a.get 1) (a.get 5) (a.get 7) (a.get 8) M Q), fun a M => At Try.prog Ex none Try.f4 [1, 1, 1, 1, 0, 1, 0, 0, 1] a M Q⟩,
    ⟨2, fun a M => dfr a.defers (P_l8_GrphWanted_3 (a.get 5) (a.get 7) M Q), fun a M => At Try.prog Ex none Try.f4 [1, 1, 1, 1, 1] a M Q⟩]
    [1000] [2] (by kernel_rfl) (by kernel_rfl) (by kernel_rfl) (by kernel_rfl) (by kernel_rfl)
    ⟨fun a M hn h => by obtain ⟨⟨n, f⟩, ds⟩ := a; have hn : n = 186 := hn; subst hn; obtain ⟨hd, h⟩ := dfr_iff h; have hd : ds = [] := hd; subst hd; exact h f rfl rfl rfl rfl,
    fun a M hn h => by obtain ⟨⟨n, f⟩, ds⟩ := a; have hn : n = 186 := hn; subst hn; obtain ⟨hd, h⟩ := dfr_iff h; have hd : ds = [] := hd; subst hd; exact h f rfl rfl,
    trivial⟩
    (cast (by kernel_rfl) h)
def S_l8_GrphWanted_2 (x1 x5 x7 x8 : Value) (M : Store) (Q : KP) : Prop :=
  OP (bldL (.string ⟨#[]⟩) 1 8 [(0, (.string ⟨#[97]⟩)), (1, (.string ⟨#[98]⟩)), (2, (.string ⟨#[99]⟩)), (3, (.string ⟨#[100]⟩)), (4, (.string ⟨#[101]⟩)), (5, (.string ⟨#[102]⟩)), (6, (.string ⟨#[103]⟩)), (7, (.string ⟨#[112, 97]⟩))]) fun c =>
  LT (.slice (some ⟨M.n, 0, none⟩) 8 8) (M.push (some (.inl (c, Ty.string, true)))) fun t51 M1 =>
  OP (ixA 1 x1 x8) fun t54 =>
  OP (ld 1 false t54 M1) fun t55 =>
  OP (binI .and t55 (.int .i64 7)) fun t56 =>
  OP (ixA 1 t51 t56) fun t57 =>
  OP (ld 1 false t57 M1) fun t58 =>
  OP (bldL (.string ⟨#[]⟩) 1 1 [(0, t58)]) fun c_1 =>
  LT (.slice (some ⟨M1.n, 0, none⟩) 1 1) (M1.push (some (.inl (c_1, Ty.string, true)))) fun t59 M2 =>
  OP2 (appV 1 Ty.string x7 t59 M2) fun t60 M3 =>
  OP (binI .add x8 (.int .i64 1)) fun t49 =>
  P_l8_GrphWanted_1 x1 x5 t60 t49 M3 Q
theorem T_l8_GrphWanted_2 {x1 x5 x7 x8 : Value} {M : Store} {Q : KP} (h : S_l8_GrphWanted_2 x1 x5 x7 x8 M Q) : P_l8_GrphWanted_2 x1 x5 x7 x8 M Q := by
  intro f h1 h5 h7 h8; subst h1; subst h5; subst h7; subst h8
  unfold At
  exact rule (B := 1000) (N := 186) (ct := .no)
    [⟨0, fun a M => dfr a.defers (P_l8_GrphWanted_1 (a.get 1) (a.get 5) (a.get 7) (a.get 8) M Q), fun a M => At Try.prog Ex none Try.f4 [1, 1, 1, 1, 0, 1, 0] a M Q⟩]
    [] [0] (by kernel_rfl) (by kernel_rfl) (by kernel_rfl) (by kernel_rfl) (by kernel_rfl)
    ⟨fun a M hn h => by obtain ⟨⟨n, f⟩, ds⟩ := a; have hn : n = 186 := hn; subst hn; obtain ⟨hd, h⟩ := dfr_iff h; have hd : ds = [] := hd; subst hd; exact h f rfl rfl rfl rfl,
    trivial⟩
    (cast (by kernel_rfl) h)
def S_l8_GrphWanted_3 (x5 x7 : Value) (M : Store) (Q : KP) : Prop :=
  OP (ld 2 true x5 M) fun t61 =>
  R F.grph_Wanted #[t61, x7] M fun t63 M1 =>
  LT (.map (some M1.n)) (M1.push (some (.inr (.inl [])))) fun t64 M2 =>
  OP (lenV t63) fun t66 =>
  P_l8_GrphWanted_4 x5 x7 t63 t64 t63 t66 (.int .i64 0) M2 Q
theorem T_l8_GrphWanted_3 {x5 x7 : Value} {M : Store} {Q : KP} (h : S_l8_GrphWanted_3 x5 x7 M Q) : P_l8_GrphWanted_3 x5 x7 M Q := by
  intro f h5 h7; subst h5; subst h7
  unfold At
  exact rule (B := 1000) (N := 186) (ct := (.two .no (.two .no (.two (.two .no (.two (.here 1000) .no)) (.here 1001)))))
    [⟨1002, fun a M => dfr a.defers (P_l8_GrphWanted_4 (a.get 5) (a.get 7) (a.get 9) (a.get 10) (a.get 65) (a.get 66) (a.get 67) M Q), fun a M => At Try.prog Ex none Try.f4 [1, 1, 1, 1, 1, 1, 1, 0, 1, 0] a M Q⟩,
    ⟨1003, fun _ _ => False, fun a M => At Try.prog Ex none Try.f4 [1, 1, 1, 1, 1, 1, 1, 1] a M Q⟩]
    [1000, 1001] [] (by kernel_rfl) (by kernel_rfl) (by kernel_rfl) (by kernel_rfl) (by kernel_rfl)
    ⟨fun a M hn h => by obtain ⟨⟨n, f⟩, ds⟩ := a; have hn : n = 186 := hn; subst hn; obtain ⟨hd, h⟩ := dfr_iff h; have hd : ds = [] := hd; subst hd; exact h f rfl rfl rfl rfl rfl rfl rfl,
    fun _ _ _ h => h.elim,
    trivial⟩
    (cast (by kernel_rfl) h)
def S_l8_GrphWanted_4 (x5 x7 x9 x10 x65 x66 x67 : Value) (M : Store) (Q : KP) : Prop :=
  OP (binI .lss x67 x66) fun t68 =>
  BR t68 (
  P_l8_GrphWanted_5 x5 x7 x9 x10 x65 x66 x67 M Q
  ) (
  P_l8_GrphWanted_6 x5 x7 x9 x10 M Q
  )
theorem T_l8_GrphWanted_4 {x5 x7 x9 x10 x65 x66 x67 : Value} {M : Store} {Q : KP} (h : S_l8_GrphWanted_4 x5 x7 x9 x10 x65 x66 x67 M Q) : P_l8_GrphWanted_4 x5 x7 x9 x10 x65 x66 x67 M Q := by
  intro f h5 h7 h9 h10 h65 h66 h67; subst h5; subst h7; subst h9; subst h10; subst h65; subst h66; subst h67
  unfold At
  refine cast (by kernel_rfl) (CW.loop (P := Try.prog) (E := Ex) (rd := none) (x := sub (bodyOf Try.f4) [1, 1, 1, 1, 1, 1, 1, 0, 1, 0, 0]) (a := ⟨⟨186, f⟩, []⟩) (M := M) (K := kcont Try.prog Ex none (bodyOf Try.f4) [1, 1, 1, 1, 1, 1, 1, 0, 1, 0] (kfin Try.prog Try.f4.results.toList Q)) ?_)
  exact rule (B := 1000) (N := 186) (ct := (.two .no (.two .no (.here 1000))))
    [⟨1002, fun a M => dfr a.defers (P_l8_GrphWanted_5 (a.get 5) (a.get 7) (a.get 9) (a.get 10) (a.get 65) (a.get 66) (a.get 67) M Q), fun a M => At Try.prog Ex none Try.f4 [1, 1, 1, 1, 1, 1, 1, 0, 1, 0, 0, 1, 1] a M Q⟩,
    ⟨4, fun a M => dfr a.defers (P_l8_GrphWanted_6 (a.get 5) (a.get 7) (a.get 9) (a.get 10) M Q), fun a M => At Try.prog Ex none Try.f4 [1, 1, 1, 1, 1, 1, 1, 1] a M Q⟩]
    [1000] [4] (by kernel_rfl) (by kernel_rfl) (by kernel_rfl) (by kernel_rfl) (by kernel_rfl)
    ⟨fun a M hn h => by obtain ⟨⟨n, f⟩, ds⟩ := a; have hn : n = 186 := hn; subst hn; obtain ⟨hd, h⟩ := dfr_iff h; have hd : ds = [] := hd; subst hd; exact h f rfl rfl rfl rfl rfl rfl rfl,
    fun a M hn h => by obtain ⟨⟨n, f⟩, ds⟩ := a; have hn : n = 186 := hn; subst hn; obtain ⟨hd, h⟩ := dfr_iff h; have hd : ds = [] := hd; subst hd; exact h f rfl rfl rfl rfl,
    trivial⟩
    (cast (by kernel_rfl) h)
def S_l8_GrphWanted_5 (x5 x7 x9 x10 x65 x66 x67 : Value) (M : Store) (Q : KP) : Prop :=
  OP (ixA 1 x65 x67) fun t70 =>
  OP (ld 1 false t70 M) fun t71 =>
  OP (lku (.int .i64) (.int .i64 0) x10 t71 true M) fun t75 =>
  OP (tup t75 0) fun t76 =>
  OP (tup t75 1) fun t77 =>
  BR t77 (
  NTs [(.bool false)] ∧ Q (.bool false) M
  ) (
  OP (binI .lss t71 (.int .i64 0)) fun t81 =>
  BR t81 (
  NTs [(.bool false)] ∧ Q (.bool false) M
  ) (
  OP (fad 0 x5) fun t85 =>
  OP (ld 1 false t85 M) fun t86 =>
  OP (lenV t86) fun t87 =>
  OP (binI .geq t71 t87) fun t88 =>
  BR t88 (
  NTs [(.bool false)] ∧ Q (.bool false) M
  ) (
  OP (mup (.int .i64) x10 t71 x67 M) fun M1 =>
  OP (binI .add x67 (.int .i64 1)) fun t93 =>
  P_l8_GrphWanted_4 x5 x7 x9 x10 x65 x66 t93 M1 Q
  )
  )
  )
theorem T_l8_GrphWanted_5 {x5 x7 x9 x10 x65 x66 x67 : Value} {M : Store} {Q : KP} (h : S_l8_GrphWanted_5 x5 x7 x9 x10 x65 x66 x67 M Q) : P_l8_GrphWanted_5 x5 x7 x9 x10 x65 x66 x67 M Q := by
  intro f h5 h7 h9 h10 h65 h66 h67; subst h5; subst h7; subst h9; subst h10; subst h65; subst h66; subst h67
  unfold At
  exact rule (B := 1000) (N := 186) (ct := .no)
    [⟨0, fun a M => dfr a.defers (P_l8_GrphWanted_4 (a.get 5) (a.get 7) (a.get 9) (a.get 10) (a.get 65) (a.get 66) (a.get 67) M Q), fun a M => At Try.prog Ex none Try.f4 [1, 1, 1, 1, 1, 1, 1, 0, 1, 0] a M Q⟩,
    ⟨1, fun a M => kfin Try.prog Try.f4.results.toList Q 1 a M, fun a M => kfin Try.prog Try.f4.results.toList Q 1 a M⟩]
    [] [0, 1] (by kernel_rfl) (by kernel_rfl) (by kernel_rfl) (by kernel_rfl) (by kernel_rfl)
    ⟨fun a M hn h => by obtain ⟨⟨n, f⟩, ds⟩ := a; have hn : n = 186 := hn; subst hn; obtain ⟨hd, h⟩ := dfr_iff h; have hd : ds = [] := hd; subst hd; exact h f rfl rfl rfl rfl rfl rfl rfl,
    fun _ _ _ h => h,
    trivial⟩
    (cast (by kernel_rfl) h)
def S_l8_GrphWanted_6 (x5 x7 x9 x10 : Value) (M : Store) (Q : KP) : Prop :=
  LT (.map (some M.n)) (M.push (some (.inr (.inl [])))) fun t94 M1 =>
  OP (lenV x9) fun t96 =>
  P_l8_GrphWanted_7 x5 x7 x10 t94 x9 t96 (.int .i64 0) M1 Q
theorem T_l8_GrphWanted_6 {x5 x7 x9 x10 : Value} {M : Store} {Q : KP} (h : S_l8_GrphWanted_6 x5 x7 x9 x10 M Q) : P_l8_GrphWanted_6 x5 x7 x9 x10 M Q := by
  intro f h5 h7 h9 h10; subst h5; subst h7; subst h9; subst h10
  unfold At
  exact rule (B := 1000) (N := 186) (ct := (.two .no (.two (.two .no (.two (.here 1000) .no)) (.here 1001))))
    [⟨1002, fun a M => dfr a.defers (P_l8_GrphWanted_7 (a.get 5) (a.get 7) (a.get 10) (a.get 15) (a.get 95) (a.get 96) (a.get 97) M Q), fun a M => At Try.prog Ex none Try.f4 [1, 1, 1, 1, 1, 1, 1, 1, 1, 0, 1, 0] a M Q⟩,
    ⟨1003, fun _ _ => False, fun a M => At Try.prog Ex none Try.f4 [1, 1, 1, 1, 1, 1, 1, 1, 1, 1] a M Q⟩]
    [1000, 1001] [] (by kernel_rfl) (by kernel_rfl) (by kernel_rfl) (by kernel_rfl) (by kernel_rfl)
    ⟨fun a M hn h => by obtain ⟨⟨n, f⟩, ds⟩ := a; have hn : n = 186 := hn; subst hn; obtain ⟨hd, h⟩ := dfr_iff h; have hd : ds = [] := hd; subst hd; exact h f rfl rfl rfl rfl rfl rfl rfl,
    fun _ _ _ h => h.elim,
    trivial⟩
    (cast (by kernel_rfl) h)
def S_l8_GrphWanted_7 (x5 x7 x10 x15 x95 x96 x97 : Value) (M : Store) (Q : KP) : Prop :=
  OP (binI .lss x97 x96) fun t98 =>
  BR t98 (
  P_l8_GrphWanted_8 x5 x7 x10 x15 x95 x96 x97 M Q
  ) (
  P_l8_GrphWanted_9 x5 x7 x10 x15 M Q
  )
theorem T_l8_GrphWanted_7 {x5 x7 x10 x15 x95 x96 x97 : Value} {M : Store} {Q : KP} (h : S_l8_GrphWanted_7 x5 x7 x10 x15 x95 x96 x97 M Q) : P_l8_GrphWanted_7 x5 x7 x10 x15 x95 x96 x97 M Q := by
  intro f h5 h7 h10 h15 h95 h96 h97; subst h5; subst h7; subst h10; subst h15; subst h95; subst h96; subst h97
  unfold At
  refine cast (by kernel_rfl) (CW.loop (P := Try.prog) (E := Ex) (rd := none) (x := sub (bodyOf Try.f4) [1, 1, 1, 1, 1, 1, 1, 1, 1, 0, 1, 0, 0]) (a := ⟨⟨186, f⟩, []⟩) (M := M) (K := kcont Try.prog Ex none (bodyOf Try.f4) [1, 1, 1, 1, 1, 1, 1, 1, 1, 0, 1, 0] (kfin Try.prog Try.f4.results.toList Q)) ?_)
  exact rule (B := 1000) (N := 186) (ct := (.two .no (.two .no (.here 1000))))
    [⟨1002, fun a M => dfr a.defers (P_l8_GrphWanted_8 (a.get 5) (a.get 7) (a.get 10) (a.get 15) (a.get 95) (a.get 96) (a.get 97) M Q), fun a M => At Try.prog Ex none Try.f4 [1, 1, 1, 1, 1, 1, 1, 1, 1, 0, 1, 0, 0, 1, 1] a M Q⟩,
    ⟨6, fun a M => dfr a.defers (P_l8_GrphWanted_9 (a.get 5) (a.get 7) (a.get 10) (a.get 15) M Q), fun a M => At Try.prog Ex none Try.f4 [1, 1, 1, 1, 1, 1, 1, 1, 1, 1] a M Q⟩]
    [1000] [6] (by kernel_rfl) (by kernel_rfl) (by kernel_rfl) (by kernel_rfl) (by kernel_rfl)
    ⟨fun a M hn h => by obtain ⟨⟨n, f⟩, ds⟩ := a; have hn : n = 186 := hn; subst hn; obtain ⟨hd, h⟩ := dfr_iff h; have hd : ds = [] := hd; subst hd; exact h f rfl rfl rfl rfl rfl rfl rfl,
    fun a M hn h => by obtain ⟨⟨n, f⟩, ds⟩ := a; have hn : n = 186 := hn; subst hn; obtain ⟨hd, h⟩ := dfr_iff h; have hd : ds = [] := hd; subst hd; exact h f rfl rfl rfl rfl,
    trivial⟩
    (cast (by kernel_rfl) h)
def S_l8_GrphWanted_8 (x5 x7 x10 x15 x95 x96 x97 : Value) (M : Store) (Q : KP) : Prop :=
  OP (ixA 1 x95 x97) fun t99 =>
  OP (ld 1 false t99 M) fun t100 =>
  OP (ld 2 true x5 M) fun t101 =>
  R F.r4_Needs #[t101, t100] M fun t103 M1 =>
  OP (lenV t103) fun t104 =>
  P_l8_GrphWanted_10 x5 x7 x10 x15 t100 x95 x96 x97 t103 t104 (.int .i64 0) M1 Q
theorem T_l8_GrphWanted_8 {x5 x7 x10 x15 x95 x96 x97 : Value} {M : Store} {Q : KP} (h : S_l8_GrphWanted_8 x5 x7 x10 x15 x95 x96 x97 M Q) : P_l8_GrphWanted_8 x5 x7 x10 x15 x95 x96 x97 M Q := by
  intro f h5 h7 h10 h15 h95 h96 h97; subst h5; subst h7; subst h10; subst h15; subst h95; subst h96; subst h97
  unfold At
  exact rule (B := 1000) (N := 186) (ct := (.two (.two (.two .no (.two .no (.two (.here 1000) .no))) .no) (.here 1001)))
    [⟨1002, fun a M => dfr a.defers (P_l8_GrphWanted_10 (a.get 5) (a.get 7) (a.get 10) (a.get 15) (a.get 17) (a.get 95) (a.get 96) (a.get 97) (a.get 103) (a.get 104) (a.get 105) M Q), fun a M => At Try.prog Ex none Try.f4 [1, 1, 1, 1, 1, 1, 1, 1, 1, 0, 1, 0, 0, 1, 1, 0, 0, 1, 1, 0] a M Q⟩,
    ⟨1003, fun _ _ => False, fun a M => At Try.prog Ex none Try.f4 [1, 1, 1, 1, 1, 1, 1, 1, 1, 0, 1, 0, 0, 1, 1, 1] a M Q⟩]
    [1000, 1001] [] (by kernel_rfl) (by kernel_rfl) (by kernel_rfl) (by kernel_rfl) (by kernel_rfl)
    ⟨fun a M hn h => by obtain ⟨⟨n, f⟩, ds⟩ := a; have hn : n = 186 := hn; subst hn; obtain ⟨hd, h⟩ := dfr_iff h; have hd : ds = [] := hd; subst hd; exact h f rfl rfl rfl rfl rfl rfl rfl rfl rfl rfl rfl,
    fun _ _ _ h => h.elim,
    trivial⟩
    (cast (by kernel_rfl) h)
def S_l8_GrphWanted_9 (x5 x7 x10 x15 : Value) (M : Store) (Q : KP) : Prop :=
  OP (fad 0 x5) fun t128 =>
  OP (ld 1 false t128 M) fun t129 =>
  OP (lenV t129) fun t130 =>
  P_l8_GrphWanted_11 x7 x10 x15 t129 t130 (.int .i64 0) M Q
theorem T_l8_GrphWanted_9 {x5 x7 x10 x15 : Value} {M : Store} {Q : KP} (h : S_l8_GrphWanted_9 x5 x7 x10 x15 M Q) : P_l8_GrphWanted_9 x5 x7 x10 x15 M Q := by
  intro f h5 h7 h10 h15; subst h5; subst h7; subst h10; subst h15
  unfold At
  exact rule (B := 1000) (N := 186) (ct := (.two (.two .no (.two (.here 1000) .no)) (.here 1001)))
    [⟨1002, fun a M => dfr a.defers (P_l8_GrphWanted_11 (a.get 7) (a.get 10) (a.get 15) (a.get 129) (a.get 130) (a.get 131) M Q), fun a M => At Try.prog Ex none Try.f4 [1, 1, 1, 1, 1, 1, 1, 1, 1, 1, 0, 1, 0] a M Q⟩,
    ⟨1003, fun _ _ => False, fun a M => At Try.prog Ex none Try.f4 [1, 1, 1, 1, 1, 1, 1, 1, 1, 1, 1] a M Q⟩]
    [1000, 1001] [] (by kernel_rfl) (by kernel_rfl) (by kernel_rfl) (by kernel_rfl) (by kernel_rfl)
    ⟨fun a M hn h => by obtain ⟨⟨n, f⟩, ds⟩ := a; have hn : n = 186 := hn; subst hn; obtain ⟨hd, h⟩ := dfr_iff h; have hd : ds = [] := hd; subst hd; exact h f rfl rfl rfl rfl rfl rfl,
    fun _ _ _ h => h.elim,
    trivial⟩
    (cast (by kernel_rfl) h)
def S_l8_GrphWanted_10 (x5 x7 x10 x15 x17 x95 x96 x97 x103 x104 x105 : Value) (M : Store) (Q : KP) : Prop :=
  OP (binI .lss x105 x104) fun t106 =>
  BR t106 (
  P_l8_GrphWanted_12 x5 x7 x10 x15 x17 x95 x96 x97 x103 x104 x105 M Q
  ) (
  P_l8_GrphWanted_13 x5 x7 x10 x15 x95 x96 x97 M Q
  )
theorem T_l8_GrphWanted_10 {x5 x7 x10 x15 x17 x95 x96 x97 x103 x104 x105 : Value} {M : Store} {Q : KP} (h : S_l8_GrphWanted_10 x5 x7 x10 x15 x17 x95 x96 x97 x103 x104 x105 M Q) : P_l8_GrphWanted_10 x5 x7 x10 x15 x17 x95 x96 x97 x103 x104 x105 M Q := by
  intro f h5 h7 h10 h15 h17 h95 h96 h97 h103 h104 h105; subst h5; subst h7; subst h10; subst h15; subst h17; subst h95; subst h96; subst h97; subst h103; subst h104; subst h105
  unfold At
  refine cast (by kernel_rfl) (CW.loop (P := Try.prog) (E := Ex) (rd := none) (x := sub (bodyOf Try.f4) [1, 1, 1, 1, 1, 1, 1, 1, 1, 0, 1, 0, 0, 1, 1, 0, 0, 1, 1, 0, 0]) (a := ⟨⟨186, f⟩, []⟩) (M := M) (K := kcont Try.prog Ex none (bodyOf Try.f4) [1, 1, 1, 1, 1, 1, 1, 1, 1, 0, 1, 0, 0, 1, 1, 0, 0, 1, 1, 0] (kfin Try.prog Try.f4.results.toList Q)) ?_)
  exact rule (B := 1000) (N := 186) (ct := (.two .no (.two .no (.here 1000))))
    [⟨1002, fun a M => dfr a.defers (P_l8_GrphWanted_12 (a.get 5) (a.get 7) (a.get 10) (a.get 15) (a.get 17) (a.get 95) (a.get 96) (a.get 97) (a.get 103) (a.get 104) (a.get 105) M Q), fun a M => At Try.prog Ex none Try.f4 [1, 1, 1, 1, 1, 1, 1, 1, 1, 0, 1, 0, 0, 1, 1, 0, 0, 1, 1, 0, 0, 1, 1] a M Q⟩,
    ⟨8, fun a M => dfr a.defers (P_l8_GrphWanted_13 (a.get 5) (a.get 7) (a.get 10) (a.get 15) (a.get 95) (a.get 96) (a.get 97) M Q), fun a M => At Try.prog Ex none Try.f4 [1, 1, 1, 1, 1, 1, 1, 1, 1, 0, 1, 0, 0, 1, 1, 1] a M Q⟩]
    [1000] [8] (by kernel_rfl) (by kernel_rfl) (by kernel_rfl) (by kernel_rfl) (by kernel_rfl)
    ⟨fun a M hn h => by obtain ⟨⟨n, f⟩, ds⟩ := a; have hn : n = 186 := hn; subst hn; obtain ⟨hd, h⟩ := dfr_iff h; have hd : ds = [] := hd; subst hd; exact h f rfl rfl rfl rfl rfl rfl rfl rfl rfl rfl rfl,
    fun a M hn h => by obtain ⟨⟨n, f⟩, ds⟩ := a; have hn : n = 186 := hn; subst hn; obtain ⟨hd, h⟩ := dfr_iff h; have hd : ds = [] := hd; subst hd; exact h f rfl rfl rfl rfl rfl rfl rfl,
    trivial⟩
    (cast (by kernel_rfl) h)
def S_l8_GrphWanted_11 (x7 x10 x15 x129 x130 x131 : Value) (M : Store) (Q : KP) : Prop :=
  OP (binI .lss x131 x130) fun t132 =>
  BR t132 (
  P_l8_GrphWanted_14 x7 x10 x15 x129 x130 x131 M Q
  ) (
  P_l8_GrphWanted_15 M Q
  )
theorem T_l8_GrphWanted_11 {x7 x10 x15 x129 x130 x131 : Value} {M : Store} {Q : KP} (h : S_l8_GrphWanted_11 x7 x10 x15 x129 x130 x131 M Q) : P_l8_GrphWanted_11 x7 x10 x15 x129 x130 x131 M Q := by
  intro f h7 h10 h15 h129 h130 h131; subst h7; subst h10; subst h15; subst h129; subst h130; subst h131
  unfold At
  refine cast (by kernel_rfl) (CW.loop (P := Try.prog) (E := Ex) (rd := none) (x := sub (bodyOf Try.f4) [1, 1, 1, 1, 1, 1, 1, 1, 1, 1, 0, 1, 0, 0]) (a := ⟨⟨186, f⟩, []⟩) (M := M) (K := kcont Try.prog Ex none (bodyOf Try.f4) [1, 1, 1, 1, 1, 1, 1, 1, 1, 1, 0, 1, 0] (kfin Try.prog Try.f4.results.toList Q)) ?_)
  exact rule (B := 1000) (N := 186) (ct := (.two .no (.two .no (.here 1000))))
    [⟨1002, fun a M => dfr a.defers (P_l8_GrphWanted_14 (a.get 7) (a.get 10) (a.get 15) (a.get 129) (a.get 130) (a.get 131) M Q), fun a M => At Try.prog Ex none Try.f4 [1, 1, 1, 1, 1, 1, 1, 1, 1, 1, 0, 1, 0, 0, 1, 1] a M Q⟩,
    ⟨10, fun a M => dfr a.defers (P_l8_GrphWanted_15 M Q), fun a M => At Try.prog Ex none Try.f4 [1, 1, 1, 1, 1, 1, 1, 1, 1, 1, 1] a M Q⟩]
    [1000] [10] (by kernel_rfl) (by kernel_rfl) (by kernel_rfl) (by kernel_rfl) (by kernel_rfl)
    ⟨fun a M hn h => by obtain ⟨⟨n, f⟩, ds⟩ := a; have hn : n = 186 := hn; subst hn; obtain ⟨hd, h⟩ := dfr_iff h; have hd : ds = [] := hd; subst hd; exact h f rfl rfl rfl rfl rfl rfl,
    fun a M hn h => by obtain ⟨⟨n, f⟩, ds⟩ := a; have hn : n = 186 := hn; subst hn; obtain ⟨hd, h⟩ := dfr_iff h; have hd : ds = [] := hd; subst hd; exact h f,
    trivial⟩
    (cast (by kernel_rfl) h)
def S_l8_GrphWanted_12 (x5 x7 x10 x15 x17 x95 x96 x97 x103 x104 x105 : Value) (M : Store) (Q : KP) : Prop :=
  OP (ixA 1 x103 x105) fun t107 =>
  OP (ld 1 false t107 M) fun t108 =>
  OP (lku (.int .i64) (.int .i64 0) x10 t108 true M) fun t112 =>
  OP (tup t112 0) fun t113 =>
  OP (tup t112 1) fun t114 =>
  OP (aun .not t114) fun t116 =>
  BR t116 (
  NTs [(.bool false)] ∧ Q (.bool false) M
  ) (
  OP (lku (.int .i64) (.int .i64 0) x10 x17 false M) fun t121 =>
  OP (binI .geq t113 t121) fun t122 =>
  BR t122 (
  NTs [(.bool false)] ∧ Q (.bool false) M
  ) (
  OP (mup (.int .i64) x15 t108 (.bool true) M) fun M1 =>
  OP (binI .add x105 (.int .i64 1)) fun t126 =>
  P_l8_GrphWanted_10 x5 x7 x10 x15 x17 x95 x96 x97 x103 x104 t126 M1 Q
  )
  )
theorem T_l8_GrphWanted_12 {x5 x7 x10 x15 x17 x95 x96 x97 x103 x104 x105 : Value} {M : Store} {Q : KP} (h : S_l8_GrphWanted_12 x5 x7 x10 x15 x17 x95 x96 x97 x103 x104 x105 M Q) : P_l8_GrphWanted_12 x5 x7 x10 x15 x17 x95 x96 x97 x103 x104 x105 M Q := by
  intro f h5 h7 h10 h15 h17 h95 h96 h97 h103 h104 h105; subst h5; subst h7; subst h10; subst h15; subst h17; subst h95; subst h96; subst h97; subst h103; subst h104; subst h105
  unfold At
  exact rule (B := 1000) (N := 186) (ct := .no)
    [⟨0, fun a M => dfr a.defers (P_l8_GrphWanted_10 (a.get 5) (a.get 7) (a.get 10) (a.get 15) (a.get 17) (a.get 95) (a.get 96) (a.get 97) (a.get 103) (a.get 104) (a.get 105) M Q), fun a M => At Try.prog Ex none Try.f4 [1, 1, 1, 1, 1, 1, 1, 1, 1, 0, 1, 0, 0, 1, 1, 0, 0, 1, 1, 0] a M Q⟩,
    ⟨1, fun a M => kfin Try.prog Try.f4.results.toList Q 1 a M, fun a M => kfin Try.prog Try.f4.results.toList Q 1 a M⟩]
    [] [0, 1] (by kernel_rfl) (by kernel_rfl) (by kernel_rfl) (by kernel_rfl) (by kernel_rfl)
    ⟨fun a M hn h => by obtain ⟨⟨n, f⟩, ds⟩ := a; have hn : n = 186 := hn; subst hn; obtain ⟨hd, h⟩ := dfr_iff h; have hd : ds = [] := hd; subst hd; exact h f rfl rfl rfl rfl rfl rfl rfl rfl rfl rfl rfl,
    fun _ _ _ h => h,
    trivial⟩
    (cast (by kernel_rfl) h)
def S_l8_GrphWanted_13 (x5 x7 x10 x15 x95 x96 x97 : Value) (M : Store) (Q : KP) : Prop :=
  OP (binI .add x97 (.int .i64 1)) fun t127 =>
  P_l8_GrphWanted_7 x5 x7 x10 x15 x95 x96 t127 M Q
theorem T_l8_GrphWanted_13 {x5 x7 x10 x15 x95 x96 x97 : Value} {M : Store} {Q : KP} (h : S_l8_GrphWanted_13 x5 x7 x10 x15 x95 x96 x97 M Q) : P_l8_GrphWanted_13 x5 x7 x10 x15 x95 x96 x97 M Q := by
  intro f h5 h7 h10 h15 h95 h96 h97; subst h5; subst h7; subst h10; subst h15; subst h95; subst h96; subst h97
  unfold At
  exact rule (B := 1000) (N := 186) (ct := .no)
    [⟨0, fun a M => dfr a.defers (P_l8_GrphWanted_7 (a.get 5) (a.get 7) (a.get 10) (a.get 15) (a.get 95) (a.get 96) (a.get 97) M Q), fun a M => At Try.prog Ex none Try.f4 [1, 1, 1, 1, 1, 1, 1, 1, 1, 0, 1, 0] a M Q⟩]
    [] [0] (by kernel_rfl) (by kernel_rfl) (by kernel_rfl) (by kernel_rfl) (by kernel_rfl)
    ⟨fun a M hn h => by obtain ⟨⟨n, f⟩, ds⟩ := a; have hn : n = 186 := hn; subst hn; obtain ⟨hd, h⟩ := dfr_iff h; have hd : ds = [] := hd; subst hd; exact h f rfl rfl rfl rfl rfl rfl rfl,
    trivial⟩
    (cast (by kernel_rfl) h)
def S_l8_GrphWanted_14 (x7 x10 x15 x129 x130 x131 : Value) (M : Store) (Q : KP) : Prop :=
  OP (ixA 5 x129 x131) fun t134 =>
  OP (ld 5 true t134 M) fun t135 =>
  LT (.pointer (some ⟨M.n, 0, none⟩)) (M.push (some (.inl ([(.slice none 0 0), (.slice none 0 0), (.slice none 0 0), (.slice none 0 0), (.bool false)], Ty.api_Rule, true)))) fun t23 M1 =>
  OP (st 5 t23 t135 M1) fun M2 =>
  OP (lenV x7) fun t137 =>
  OP (binI .eql t137 (.int .i64 0)) fun t138 =>
  OP (fad 0 t23) fun t139 =>
  OP (ld 1 false t139 M2) fun t140 =>
  OP (lenV t140) fun t141 =>
  P_l8_GrphWanted_16 x7 x10 x15 x131 t138 x129 x130 x131 t140 t141 (.int .i64 0) M2 Q
theorem T_l8_GrphWanted_14 {x7 x10 x15 x129 x130 x131 : Value} {M : Store} {Q : KP} (h : S_l8_GrphWanted_14 x7 x10 x15 x129 x130 x131 M Q) : P_l8_GrphWanted_14 x7 x10 x15 x129 x130 x131 M Q := by
  intro f h7 h10 h15 h129 h130 h131; subst h7; subst h10; subst h15; subst h129; subst h130; subst h131
  unfold At
  exact rule (B := 1000) (N := 186) (ct := (.two (.two (.two .no (.two .no (.two (.two .no (.two (.here 1000) .no)) (.here 1001)))) .no) (.here 1002)))
    [⟨1002, fun a M => dfr a.defers (P_l8_GrphWanted_16 (a.get 7) (a.get 10) (a.get 15) (a.get 22) (a.get 24) (a.get 129) (a.get 130) (a.get 131) (a.get 140) (a.get 141) (a.get 142) M Q), fun a M => At Try.prog Ex none Try.f4 [1, 1, 1, 1, 1, 1, 1, 1, 1, 1, 0, 1, 0, 0, 1, 1, 0, 0, 1, 1, 0, 1, 0] a M Q⟩,
    ⟨1003, fun _ _ => False, fun a M => At Try.prog Ex none Try.f4 [1, 1, 1, 1, 1, 1, 1, 1, 1, 1, 0, 1, 0, 0, 1, 1, 0, 0, 1, 1, 1] a M Q⟩,
    ⟨1004, fun _ _ => False, fun a M => At Try.prog Ex none Try.f4 [1, 1, 1, 1, 1, 1, 1, 1, 1, 1, 0, 1, 0, 0, 1, 1, 1] a M Q⟩]
    [1000, 1001, 1002] [] (by kernel_rfl) (by kernel_rfl) (by kernel_rfl) (by kernel_rfl) (by kernel_rfl)
    ⟨fun a M hn h => by obtain ⟨⟨n, f⟩, ds⟩ := a; have hn : n = 186 := hn; subst hn; obtain ⟨hd, h⟩ := dfr_iff h; have hd : ds = [] := hd; subst hd; exact h f rfl rfl rfl rfl rfl rfl rfl rfl rfl rfl rfl,
    fun _ _ _ h => h.elim,
    fun _ _ _ h => h.elim,
    trivial⟩
    (cast (by kernel_rfl) h)
def S_l8_GrphWanted_15 (M : Store) (Q : KP) : Prop :=
  R F.l8_awake #[] M fun t185 M1 =>
  NTs [t185] ∧ Q t185 M1
theorem T_l8_GrphWanted_15 {M : Store} {Q : KP} (h : S_l8_GrphWanted_15 M Q) : P_l8_GrphWanted_15 M Q := by
  intro f 
  unfold At
  exact rule (B := 1000) (N := 186) (ct := .no)
    [⟨1, fun a M => kfin Try.prog Try.f4.results.toList Q 1 a M, fun a M => kfin Try.prog Try.f4.results.toList Q 1 a M⟩]
    [] [1] (by kernel_rfl) (by kernel_rfl) (by kernel_rfl) (by kernel_rfl) (by kernel_rfl)
    ⟨fun _ _ _ h => h,
    trivial⟩
    (cast (by kernel_rfl) h)
def S_l8_GrphWanted_16 (x7 x10 x15 x22 x24 x129 x130 x131 x140 x141 x142 : Value) (M : Store) (Q : KP) : Prop :=
  OP (binI .lss x142 x141) fun t143 =>
  BR t143 (
  OP (ixA 1 x140 x142) fun t144 =>
  OP (ld 1 false t144 M) fun t145 =>
  OP (lenV x7) fun t147 =>
  P_l8_GrphWanted_17 x7 x10 x15 x22 x24 t145 x129 x130 x131 x140 x141 x142 x7 t147 (.int .i64 0) M Q
  ) (
  P_l8_GrphWanted_18 x7 x10 x15 x22 x24 x129 x130 x131 M Q
  )
theorem T_l8_GrphWanted_16 {x7 x10 x15 x22 x24 x129 x130 x131 x140 x141 x142 : Value} {M : Store} {Q : KP} (h : S_l8_GrphWanted_16 x7 x10 x15 x22 x24 x129 x130 x131 x140 x141 x142 M Q) : P_l8_GrphWanted_16 x7 x10 x15 x22 x24 x129 x130 x131 x140 x141 x142 M Q := by
  intro f h7 h10 h15 h22 h24 h129 h130 h131 h140 h141 h142; subst h7; subst h10; subst h15; subst h22; subst h24; subst h129; subst h130; subst h131; subst h140; subst h141; subst h142
  unfold At
  refine cast (by kernel_rfl) (CW.loop (P := Try.prog) (E := Ex) (rd := none) (x := sub (bodyOf Try.f4) [1, 1, 1, 1, 1, 1, 1, 1, 1, 1, 0, 1, 0, 0, 1, 1, 0, 0, 1, 1, 0, 1, 0, 0]) (a := ⟨⟨186, f⟩, []⟩) (M := M) (K := kcont Try.prog Ex none (bodyOf Try.f4) [1, 1, 1, 1, 1, 1, 1, 1, 1, 1, 0, 1, 0, 0, 1, 1, 0, 0, 1, 1, 0, 1, 0] (kfin Try.prog Try.f4.results.toList Q)) ?_)
  exact rule (B := 1000) (N := 186) (ct := (.two .no (.two .no (.two (.two (.two .no (.two .no (.two (.here 1000) .no))) .no) (.here 1001)))))
    [⟨1002, fun a M => dfr a.defers (P_l8_GrphWanted_17 (a.get 7) (a.get 10) (a.get 15) (a.get 22) (a.get 24) (a.get 26) (a.get 129) (a.get 130) (a.get 131) (a.get 140) (a.get 141) (a.get 142) (a.get 146) (a.get 147) (a.get 148) M Q), fun a M => At Try.prog Ex none Try.f4 [1, 1, 1, 1, 1, 1, 1, 1, 1, 1, 0, 1, 0, 0, 1, 1, 0, 0, 1, 1, 0, 1, 0, 0, 1, 1, 0, 0, 1, 1, 0] a M Q⟩,
    ⟨1003, fun _ _ => False, fun a M => At Try.prog Ex none Try.f4 [1, 1, 1, 1, 1, 1, 1, 1, 1, 1, 0, 1, 0, 0, 1, 1, 0, 0, 1, 1, 0, 1, 0, 0, 1, 1, 1] a M Q⟩,
    ⟨12, fun a M => dfr a.defers (P_l8_GrphWanted_18 (a.get 7) (a.get 10) (a.get 15) (a.get 22) (a.get 24) (a.get 129) (a.get 130) (a.get 131) M Q), fun a M => At Try.prog Ex none Try.f4 [1, 1, 1, 1, 1, 1, 1, 1, 1, 1, 0, 1, 0, 0, 1, 1, 0, 0, 1, 1, 1] a M Q⟩]
    [1000, 1001] [12] (by kernel_rfl) (by kernel_rfl) (by kernel_rfl) (by kernel_rfl) (by kernel_rfl)
    ⟨fun a M hn h => by obtain ⟨⟨n, f⟩, ds⟩ := a; have hn : n = 186 := hn; subst hn; obtain ⟨hd, h⟩ := dfr_iff h; have hd : ds = [] := hd; subst hd; exact h f rfl rfl rfl rfl rfl rfl rfl rfl rfl rfl rfl rfl rfl rfl rfl,
    fun _ _ _ h => h.elim,
    fun a M hn h => by obtain ⟨⟨n, f⟩, ds⟩ := a; have hn : n = 186 := hn; subst hn; obtain ⟨hd, h⟩ := dfr_iff h; have hd : ds = [] := hd; subst hd; exact h f rfl rfl rfl rfl rfl rfl rfl rfl,
    trivial⟩
    (cast (by kernel_rfl) h)
def S_l8_GrphWanted_17 (x7 x10 x15 x22 x24 x26 x129 x130 x131 x140 x141 x142 x146 x147 x148 : Value) (M : Store) (Q : KP) : Prop :=
  OP (binI .lss x148 x147) fun t149 =>
  BR t149 (
  OP (ixA 1 x146 x148) fun t150 =>
  OP (ld 1 false t150 M) fun t151 =>
  BR x24 (
  OP (binI .add x148 (.int .i64 1)) fun t158 =>
  P_l8_GrphWanted_17 x7 x10 x15 x22 (.bool true) x26 x129 x130 x131 x140 x141 x142 x146 x147 t158 M Q
  ) (
  OP (binS .eql x26 t151) fun t156 =>
  OP (binI .add x148 (.int .i64 1)) fun t158_1 =>
  P_l8_GrphWanted_17 x7 x10 x15 x22 t156 x26 x129 x130 x131 x140 x141 x142 x146 x147 t158_1 M Q
  )
  ) (
  P_l8_GrphWanted_19 x7 x10 x15 x22 x24 x129 x130 x131 x140 x141 x142 M Q
  )
theorem T_l8_GrphWanted_17 {x7 x10 x15 x22 x24 x26 x129 x130 x131 x140 x141 x142 x146 x147 x148 : Value} {M : Store} {Q : KP} (h : S_l8_GrphWanted_17 x7 x10 x15 x22 x24 x26 x129 x130 x131 x140 x141 x142 x146 x147 x148 M Q) : P_l8_GrphWanted_17 x7 x10 x15 x22 x24 x26 x129 x130 x131 x140 x141 x142 x146 x147 x148 M Q := by
  intro f h7 h10 h15 h22 h24 h26 h129 h130 h131 h140 h141 h142 h146 h147 h148; subst h7; subst h10; subst h15; subst h22; subst h24; subst h26; subst h129; subst h130; subst h131; subst h140; subst h141; subst h142; subst h146; subst h147; subst h148
  unfold At
  refine cast (by kernel_rfl) (CW.loop (P := Try.prog) (E := Ex) (rd := none) (x := sub (bodyOf Try.f4) [1, 1, 1, 1, 1, 1, 1, 1, 1, 1, 0, 1, 0, 0, 1, 1, 0, 0, 1, 1, 0, 1, 0, 0, 1, 1, 0, 0, 1, 1, 0, 0]) (a := ⟨⟨186, f⟩, []⟩) (M := M) (K := kcont Try.prog Ex none (bodyOf Try.f4) [1, 1, 1, 1, 1, 1, 1, 1, 1, 1, 0, 1, 0, 0, 1, 1, 0, 0, 1, 1, 0, 1, 0, 0, 1, 1, 0, 0, 1, 1, 0] (kfin Try.prog Try.f4.results.toList Q)) ?_)
  exact rule (B := 1000) (N := 186) (ct := .no)
    [⟨0, fun a M => dfr a.defers (P_l8_GrphWanted_17 (a.get 7) (a.get 10) (a.get 15) (a.get 22) (a.get 24) (a.get 26) (a.get 129) (a.get 130) (a.get 131) (a.get 140) (a.get 141) (a.get 142) (a.get 146) (a.get 147) (a.get 148) M Q), fun a M => At Try.prog Ex none Try.f4 [1, 1, 1, 1, 1, 1, 1, 1, 1, 1, 0, 1, 0, 0, 1, 1, 0, 0, 1, 1, 0, 1, 0, 0, 1, 1, 0, 0, 1, 1, 0] a M Q⟩,
    ⟨14, fun a M => dfr a.defers (P_l8_GrphWanted_19 (a.get 7) (a.get 10) (a.get 15) (a.get 22) (a.get 24) (a.get 129) (a.get 130) (a.get 131) (a.get 140) (a.get 141) (a.get 142) M Q), fun a M => At Try.prog Ex none Try.f4 [1, 1, 1, 1, 1, 1, 1, 1, 1, 1, 0, 1, 0, 0, 1, 1, 0, 0, 1, 1, 0, 1, 0, 0, 1, 1, 1] a M Q⟩]
    [] [0, 14] (by kernel_rfl) (by kernel_rfl) (by kernel_rfl) (by kernel_rfl) (by kernel_rfl)
    ⟨fun a M hn h => by obtain ⟨⟨n, f⟩, ds⟩ := a; have hn : n = 186 := hn; subst hn; obtain ⟨hd, h⟩ := dfr_iff h; have hd : ds = [] := hd; subst hd; exact h f rfl rfl rfl rfl rfl rfl rfl rfl rfl rfl rfl rfl rfl rfl rfl,
    fun a M hn h => by obtain ⟨⟨n, f⟩, ds⟩ := a; have hn : n = 186 := hn; subst hn; obtain ⟨hd, h⟩ := dfr_iff h; have hd : ds = [] := hd; subst hd; exact h f rfl rfl rfl rfl rfl rfl rfl rfl rfl rfl rfl,
    trivial⟩
    (cast (by kernel_rfl) h)
def S_l8_GrphWanted_18 (x7 x10 x15 x22 x24 x129 x130 x131 : Value) (M : Store) (Q : KP) : Prop :=
  OP (lku (.int .i64) (.int .i64 0) x10 x22 true M) fun t163 =>
  OP (tup t163 0) fun t164 =>
  OP (tup t163 1) fun t165 =>
  BR x24 (
  OP (aun .not t165) fun t169 =>
  BR t169 (
  NTs [(.bool false)] ∧ Q (.bool false) M
  ) (
  BR3 t165 (
  OP (aun .not x24) fun t175 =>
  BR3 t175 (
  OP (lku (.int .i64) (.bool false) x15 x22 false M) fun t180 =>
  OP (aun .not t180) fun t181 =>
  BR t181 (
  NTs [(.bool false)] ∧ Q (.bool false) M
  ) (
  P_l8_GrphWanted_20 x7 x10 x15 x129 x130 x131 M Q
  )
  ) (
  P_l8_GrphWanted_20 x7 x10 x15 x129 x130 x131 M Q
  ) (
  BR t175 (
  BR undef (
  NTs [(.bool false)] ∧ Q (.bool false) M
  ) (
  P_l8_GrphWanted_20 x7 x10 x15 x129 x130 x131 M Q
  )
  ) (
  P_l8_GrphWanted_20 x7 x10 x15 x129 x130 x131 M Q
  )
  )
  ) (
  P_l8_GrphWanted_20 x7 x10 x15 x129 x130 x131 M Q
  ) (
  BR t165 (
  BR undef (
  BR undef (
  NTs [(.bool false)] ∧ Q (.bool false) M
  ) (
  P_l8_GrphWanted_20 x7 x10 x15 x129 x130 x131 M Q
  )
  ) (
  P_l8_GrphWanted_20 x7 x10 x15 x129 x130 x131 M Q
  )
  ) (
  P_l8_GrphWanted_20 x7 x10 x15 x129 x130 x131 M Q
  )
  )
  )
  ) (
  BR3 t165 (
  OP (aun .not x24) fun t175_1 =>
  BR3 t175_1 (
  OP (lku (.int .i64) (.bool false) x15 x22 false M) fun t180_1 =>
  OP (aun .not t180_1) fun t181_1 =>
  BR t181_1 (
  NTs [(.bool false)] ∧ Q (.bool false) M
  ) (
  P_l8_GrphWanted_20 x7 x10 x15 x129 x130 x131 M Q
  )
  ) (
  P_l8_GrphWanted_20 x7 x10 x15 x129 x130 x131 M Q
  ) (
  BR t175_1 (
  BR undef (
  NTs [(.bool false)] ∧ Q (.bool false) M
  ) (
  P_l8_GrphWanted_20 x7 x10 x15 x129 x130 x131 M Q
  )
  ) (
  P_l8_GrphWanted_20 x7 x10 x15 x129 x130 x131 M Q
  )
  )
  ) (
  P_l8_GrphWanted_20 x7 x10 x15 x129 x130 x131 M Q
  ) (
  BR t165 (
  BR undef (
  BR undef (
  NTs [(.bool false)] ∧ Q (.bool false) M
  ) (
  P_l8_GrphWanted_20 x7 x10 x15 x129 x130 x131 M Q
  )
  ) (
  P_l8_GrphWanted_20 x7 x10 x15 x129 x130 x131 M Q
  )
  ) (
  P_l8_GrphWanted_20 x7 x10 x15 x129 x130 x131 M Q
  )
  )
  )
theorem T_l8_GrphWanted_18 {x7 x10 x15 x22 x24 x129 x130 x131 : Value} {M : Store} {Q : KP} (h : S_l8_GrphWanted_18 x7 x10 x15 x22 x24 x129 x130 x131 M Q) : P_l8_GrphWanted_18 x7 x10 x15 x22 x24 x129 x130 x131 M Q := by
  intro f h7 h10 h15 h22 h24 h129 h130 h131; subst h7; subst h10; subst h15; subst h22; subst h24; subst h129; subst h130; subst h131
  unfold At
  exact rule (B := 1000) (N := 186) (ct := .no)
    [⟨0, fun a M => dfr a.defers (P_l8_GrphWanted_20 (a.get 7) (a.get 10) (a.get 15) (a.get 129) (a.get 130) (a.get 131) M Q), fun a M => At Try.prog Ex none Try.f4 [1, 1, 1, 1, 1, 1, 1, 1, 1, 1, 0, 1, 0, 0, 1, 1, 1] a M Q⟩,
    ⟨1, fun a M => kfin Try.prog Try.f4.results.toList Q 1 a M, fun a M => kfin Try.prog Try.f4.results.toList Q 1 a M⟩]
    [] [0, 1] (by kernel_rfl) (by kernel_rfl) (by kernel_rfl) (by kernel_rfl) (by kernel_rfl)
    ⟨fun a M hn h => by obtain ⟨⟨n, f⟩, ds⟩ := a; have hn : n = 186 := hn; subst hn; obtain ⟨hd, h⟩ := dfr_iff h; have hd : ds = [] := hd; subst hd; exact h f rfl rfl rfl rfl rfl rfl,
    fun _ _ _ h => h,
    trivial⟩
    (cast (by kernel_rfl) h)
def S_l8_GrphWanted_19 (x7 x10 x15 x22 x24 x129 x130 x131 x140 x141 x142 : Value) (M : Store) (Q : KP) : Prop :=
  OP (binI .add x142 (.int .i64 1)) fun t159 =>
  P_l8_GrphWanted_16 x7 x10 x15 x22 x24 x129 x130 x131 x140 x141 t159 M Q
theorem T_l8_GrphWanted_19 {x7 x10 x15 x22 x24 x129 x130 x131 x140 x141 x142 : Value} {M : Store} {Q : KP} (h : S_l8_GrphWanted_19 x7 x10 x15 x22 x24 x129 x130 x131 x140 x141 x142 M Q) : P_l8_GrphWanted_19 x7 x10 x15 x22 x24 x129 x130 x131 x140 x141 x142 M Q := by
  intro f h7 h10 h15 h22 h24 h129 h130 h131 h140 h141 h142; subst h7; subst h10; subst h15; subst h22; subst h24; subst h129; subst h130; subst h131; subst h140; subst h141; subst h142
  unfold At
  exact rule (B := 1000) (N := 186) (ct := .no)
    [⟨0, fun a M => dfr a.defers (P_l8_GrphWanted_16 (a.get 7) (a.get 10) (a.get 15) (a.get 22) (a.get 24) (a.get 129) (a.get 130) (a.get 131) (a.get 140) (a.get 141) (a.get 142) M Q), fun a M => At Try.prog Ex none Try.f4 [1, 1, 1, 1, 1, 1, 1, 1, 1, 1, 0, 1, 0, 0, 1, 1, 0, 0, 1, 1, 0, 1, 0] a M Q⟩]
    [] [0] (by kernel_rfl) (by kernel_rfl) (by kernel_rfl) (by kernel_rfl) (by kernel_rfl)
    ⟨fun a M hn h => by obtain ⟨⟨n, f⟩, ds⟩ := a; have hn : n = 186 := hn; subst hn; obtain ⟨hd, h⟩ := dfr_iff h; have hd : ds = [] := hd; subst hd; exact h f rfl rfl rfl rfl rfl rfl rfl rfl rfl rfl rfl,
    trivial⟩
    (cast (by kernel_rfl) h)
def S_l8_GrphWanted_20 (x7 x10 x15 x129 x130 x131 : Value) (M : Store) (Q : KP) : Prop :=
  OP (binI .add x131 (.int .i64 1)) fun t184 =>
  P_l8_GrphWanted_11 x7 x10 x15 x129 x130 t184 M Q
theorem T_l8_GrphWanted_20 {x7 x10 x15 x129 x130 x131 : Value} {M : Store} {Q : KP} (h : S_l8_GrphWanted_20 x7 x10 x15 x129 x130 x131 M Q) : P_l8_GrphWanted_20 x7 x10 x15 x129 x130 x131 M Q := by
  intro f h7 h10 h15 h129 h130 h131; subst h7; subst h10; subst h15; subst h129; subst h130; subst h131
  unfold At
  exact rule (B := 1000) (N := 186) (ct := .no)
    [⟨0, fun a M => dfr a.defers (P_l8_GrphWanted_11 (a.get 7) (a.get 10) (a.get 15) (a.get 129) (a.get 130) (a.get 131) M Q), fun a M => At Try.prog Ex none Try.f4 [1, 1, 1, 1, 1, 1, 1, 1, 1, 1, 0, 1, 0] a M Q⟩]
    [] [0] (by kernel_rfl) (by kernel_rfl) (by kernel_rfl) (by kernel_rfl) (by kernel_rfl)
    ⟨fun a M hn h => by obtain ⟨⟨n, f⟩, ds⟩ := a; have hn : n = 186 := hn; subst hn; obtain ⟨hd, h⟩ := dfr_iff h; have hd : ds = [] := hd; subst hd; exact h f rfl rfl rfl rfl rfl rfl,
    trivial⟩
    (cast (by kernel_rfl) h)
end Go.G
