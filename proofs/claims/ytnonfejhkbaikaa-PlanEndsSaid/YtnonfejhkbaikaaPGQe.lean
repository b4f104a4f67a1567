/-  -/
import Derived.Test.YtnonfejhkbaikaaPGN
open Go.RowKit
namespace Go.G
open Go.Ab Go.Proofs
set_option linter.unusedVariables false
set_option maxRecDepth 100000
variable {x0 x1 x5 x7 x8 x9 x11 x12 x71 x72 x73 x95 x96 x97 : Value} {M : Store} {Q : KP}
def be (x1 x5 x7 x8 x9 : Value) (M : Store) (Q : KP) : Prop :=
 ∀ f : Nat → Value, f 1 = x1 → f 5 = x5 → f 7 = x7 → f 8 = x8 → f 9 = x9 → An Try.f9 [1, 1, 1, 1, 1, 1, 0, 0] 149 f M Q
def gu (x1 x5 x7 x8 x9 : Value) (M : Store) (Q : KP) : Prop :=
 ∀ f : Nat → Value, f 1 = x1 → f 5 = x5 → f 7 = x7 → f 8 = x8 → f 9 = x9 → An Try.f9 [1, 1, 1, 1, 1, 1, 0, 0, 0, 1] 149 f M Q
def gv (x5 x7 x8 : Value) (M : Store) (Q : KP) : Prop :=
 ∀ f : Nat → Value, f 5 = x5 → f 7 = x7 → f 8 = x8 → An Try.f9 [1, 1, 1, 1, 1, 1, 1] 149 f M Q
def bB (x1 x5 x7 x8 x9 x11 x12 : Value) (M : Store) (Q : KP) : Prop :=
 ∀ f : Nat → Value, f 1 = x1 → f 5 = x5 → f 7 = x7 → f 8 = x8 → f 9 = x9 → f 11 = x11 → f 12 = x12 → An Try.f9 [1, 1, 1, 1, 1, 1, 0, 0, 0, 1, 0, 0, 1, 1, 1, 1] 149 f M Q
def ak (x5 x7 x8 x95 x96 x97 : Value) (M : Store) (Q : KP) : Prop :=
 ∀ f : Nat → Value, f 5 = x5 → f 7 = x7 → f 8 = x8 → f 95 = x95 → f 96 = x96 → f 97 = x97 → An Try.f9 [1, 1, 1, 1, 1, 1, 1, 0, 1, 0] 149 f M Q
def bY (x1 x5 x7 x8 x9 x11 x12 x71 x72 x73 : Value) (M : Store) (Q : KP) : Prop :=
 ∀ f : Nat → Value, f 1 = x1 → f 5 = x5 → f 7 = x7 → f 8 = x8 → f 9 = x9 → f 11 = x11 → f 12 = x12 → f 71 = x71 → f 72 = x72 → f 73 = x73 → An Try.f9 [1, 1, 1, 1, 1, 1, 0, 0, 0, 1, 0, 0, 1, 1, 1, 1, 0, 1, 0] 149 f M Q
def gz (x5 x7 x8 x95 x96 x97 : Value) (M : Store) (Q : KP) : Prop :=
 ∀ f : Nat → Value, f 5 = x5 → f 7 = x7 → f 8 = x8 → f 95 = x95 → f 96 = x96 → f 97 = x97 → An Try.f9 [1, 1, 1, 1, 1, 1, 1, 0, 1, 0, 0, 1, 1] 149 f M Q
def gA (x5 x7 : Value) (M : Store) (Q : KP) : Prop :=
 ∀ f : Nat → Value, f 5 = x5 → f 7 = x7 → An Try.f9 [1, 1, 1, 1, 1, 1, 1, 1] 149 f M Q
def eh (x1 x5 x7 x8 x9 x11 x12 : Value) (M : Store) (Q : KP) : Prop :=
 ∀ f : Nat → Value, f 1 = x1 → f 5 = x5 → f 7 = x7 → f 8 = x8 → f 9 = x9 → f 11 = x11 → f 12 = x12 → An Try.f9 [1, 1, 1, 1, 1, 1, 0, 0, 0, 1, 0, 0, 1, 1, 1, 1, 1] 149 f M Q
def fW (x1 x5 x7 x8 x9 : Value) (M : Store) (Q : KP) : Prop :=
 ∀ f : Nat → Value, f 1 = x1 → f 5 = x5 → f 7 = x7 → f 8 = x8 → f 9 = x9 → An Try.f9 [1, 1, 1, 1, 1, 1, 0, 0, 0, 1, 1] 149 f M Q
def oe (x0 x1 : Value) (M : Store) (Q : KP) : Prop :=
 R F.lM #[x0] M fun t19 M1 =>
 R F.H #[t19] M1 fun t20 M2 =>
 OP (tup t20 0) fun t21 =>
 OP (tup t20 1) fun t22 =>
 LT (.pointer (some ⟨M2.n, 0, none⟩)) (M2.push (some (.inl ([(.slice none 0 0), (.slice none 0 0)], Ty.d, true)))) fun t5 M3 =>
 LT (.pointer (some ⟨M3.n, 0, none⟩)) (M3.push (some (.inl ([(.int .i64 0), (.int .i64 0), (.int .i64 0)], Ty.i, true)))) fun t6 M4 =>
 OP (st 2 t5 t21 M4) fun M5 =>
 OP (st 3 t6 t22 M5) fun M6 =>
 OP (fad 0 t6) fun t23 =>
 OP (ld 1 false t23 M6) fun t24 =>
 OP (ad .neq t24 (.int .i64 0)) fun t25 =>
 BR t25 (
 NTs [(.bool false)] ∧ Q (.bool false) M6
 ) (
 OP (ld 2 true t5 M6) fun t26 =>
 R F.T #[t26, (.slice none 0 0)] M6 fun t27 M7 =>
 LT (.pointer (some ⟨M7.n, 0, none⟩)) (M7.push (some (.inl ([(.slice none 0 0), (.slice none 0 0)], Ty.l, true)))) fun t7 M8 =>
 OP (st 2 t7 t27 M8) fun M9 =>
 LT (.map (some M9.n)) (M9.push (some (.inr (.inl [])))) fun t28 M10 =>
 be x1 t5 t7 t28 (.int .i64 0) M10 Q
 )
theorem xF (h : oe x0 x1 M Q) : R F.M #[x0, x1] M Q := by
 refine ro Try.func9 ?_
 exact ru (N := 149) (ct := (.two .no (.two .no (.two .no (.two .no (.two .no (.two .no (.two (.two (.here 1000) .no) (.here 1001)))))))))
  [⟨1002, fun a M => dfr a.defers (be (a.get 1) (a.get 5) (a.get 7) (a.get 8) (a.get 9) M Q), Aa Try.f9 [1, 1, 1, 1, 1, 1, 0, 0] Q⟩,
  ⟨1003, fF, Aa Try.f9 [1, 1, 1, 1, 1, 1, 1] Q⟩,
  kE Try.f9 Q 1]
  [1000, 1001] [1]
  ⟨en fun f M h => h f rfl rfl rfl rfl rfl,
  el,
  er,
  trivial⟩
  h
def gC (x1 x5 x7 x8 x9 : Value) (M : Store) (Q : KP) : Prop :=
 OP (ld 2 true x7 M) fun t29 =>
 R F.N #[t29] M fun t30 M1 =>
 OP (aun .not t30) fun t31 =>
 BR t31 (
 gu x1 x5 x7 x8 x9 M1 Q
 ) (
 gv x5 x7 x8 M1 Q
 )
theorem lT (h : gC x1 x5 x7 x8 x9 M Q) : be x1 x5 x7 x8 x9 M Q := by
 rintro f rfl rfl rfl rfl rfl
 refine lp ?_
 exact ru (N := 149) (ct := (.two .no (.here 1000)))
  [⟨1002, fun a M => dfr a.defers (gu (a.get 1) (a.get 5) (a.get 7) (a.get 8) (a.get 9) M Q), Aa Try.f9 [1, 1, 1, 1, 1, 1, 0, 0, 0, 1] Q⟩,
  ⟨2, fun a M => dfr a.defers (gv (a.get 5) (a.get 7) (a.get 8) M Q), Aa Try.f9 [1, 1, 1, 1, 1, 1, 1] Q⟩]
  [1000] [2]
  ⟨en fun f M h => h f rfl rfl rfl rfl rfl,
  en fun f M h => h f rfl rfl rfl,
  trivial⟩
  h
def lm (x1 x5 x7 x8 x9 : Value) (M : Store) (Q : KP) : Prop :=
 OP (ld 2 true x5 M) fun t34 =>
 OP (ld 2 true x7 M) fun t35 =>
 R F.F #[t34, t35] M fun t36 M1 =>
 OP (lenV t36) fun t38 =>
 OP (ad .eql t38 (.int .i64 0)) fun t39 =>
 BR t39 (
 NTs [(.bool false)] ∧ Q (.bool false) M1
 ) (
 OP (ad .gtr x9 (.int .i64 40)) fun t42 =>
 BR t42 (
 NTs [(.bool false)] ∧ Q (.bool false) M1
 ) (
 OP (ixA 1 t36 (.int .i64 0)) fun t45 =>
 OP (ld 1 false t45 M1) fun t46 =>
 OP (lenV x1) fun t49 =>
 OP (ad .lss x9 t49) fun t50 =>
 BR t50 (
 OP (ixA 1 x1 x9) fun t54 =>
 OP (ld 1 false t54 M1) fun t55 =>
 OP (ad .and t55 (.int .i64 255)) fun t56 =>
 OP (lenV t36) fun t58 =>
 OP (ad .rem t56 t58) fun t59 =>
 OP (ixA 1 t36 t59) fun t60 =>
 OP (ld 1 false t60 M1) fun t61 =>
 OP (ixA 1 x1 x9) fun t64 =>
 OP (ld 1 false t64 M1) fun t65 =>
 OP (ad .shr t65 (.int .u64 8)) fun t66 =>
 OP (ad .and t66 (.int .i64 7)) fun t67 =>
 OP (ad .eql t67 (.int .i64 0)) fun t68 =>
 BR t68 (
 bB x1 x5 x7 x8 x9 t61 (.int .i64 3) M1 Q
 ) (
 bB x1 x5 x7 x8 x9 t61 (.int .i64 2) M1 Q
 )
 ) (
 bB x1 x5 x7 x8 x9 t46 (.int .i64 2) M1 Q
 )
 )
 )
theorem uV (h : lm x1 x5 x7 x8 x9 M Q) : gu x1 x5 x7 x8 x9 M Q := by
 rintro f rfl rfl rfl rfl rfl
 exact ru (N := 149) (ct := (.two (.two (.two .no (.two .no (.two .no (.two .no (.here 1000))))) .no) (.here 1001)))
  [⟨1002, fun a M => dfr a.defers (bB (a.get 1) (a.get 5) (a.get 7) (a.get 8) (a.get 9) (a.get 11) (a.get 12) M Q), Aa Try.f9 [1, 1, 1, 1, 1, 1, 0, 0, 0, 1, 0, 0, 1, 1, 1, 1] Q⟩,
  ⟨1003, fF, Aa Try.f9 [1, 1, 1, 1, 1, 1, 0, 0, 0, 1, 1] Q⟩,
  kE Try.f9 Q 1]
  [1000, 1001] [1]
  ⟨en fun f M h => h f rfl rfl rfl rfl rfl rfl rfl,
  el,
  er,
  trivial⟩
  h
def gD (x5 x7 x8 : Value) (M : Store) (Q : KP) : Prop :=
 OP (fad 0 x7) fun t94 =>
 OP (ld 1 false t94 M) fun t95 =>
 OP (lenV t95) fun t96 =>
 ak x5 x7 x8 t95 t96 (.int .i64 0) M Q
theorem lU (h : gD x5 x7 x8 M Q) : gv x5 x7 x8 M Q := by
 rintro f rfl rfl rfl
 exact ru (N := 149) (ct := (.two (.two .no (.two (.here 1000) .no)) (.here 1001)))
  [⟨1002, fun a M => dfr a.defers (ak (a.get 5) (a.get 7) (a.get 8) (a.get 95) (a.get 96) (a.get 97) M Q), Aa Try.f9 [1, 1, 1, 1, 1, 1, 1, 0, 1, 0] Q⟩,
  ⟨1003, fF, Aa Try.f9 [1, 1, 1, 1, 1, 1, 1, 1] Q⟩]
  [1000, 1001] []
  ⟨en fun f M h => h f rfl rfl rfl rfl rfl rfl,
  el,
  trivial⟩
  h
def lq (x1 x5 x7 x8 x9 x11 x12 : Value) (M : Store) (Q : KP) : Prop :=
 OP (ld 2 true x5 M) fun t69 =>
 R F.G #[t69, x11] M fun t71 M1 =>
 OP (lenV t71) fun t72 =>
 bY x1 x5 x7 x8 x9 x11 x12 t71 t72 (.int .i64 0) M1 Q
theorem uW (h : lq x1 x5 x7 x8 x9 x11 x12 M Q) : bB x1 x5 x7 x8 x9 x11 x12 M Q := by
 rintro f rfl rfl rfl rfl rfl rfl rfl
 exact ru (N := 149) (ct := (.two (.two .no (.two (.here 1000) .no)) (.here 1001)))
  [⟨1002, fun a M => dfr a.defers (bY (a.get 1) (a.get 5) (a.get 7) (a.get 8) (a.get 9) (a.get 11) (a.get 12) (a.get 71) (a.get 72) (a.get 73) M Q), Aa Try.f9 [1, 1, 1, 1, 1, 1, 0, 0, 0, 1, 0, 0, 1, 1, 1, 1, 0, 1, 0] Q⟩,
  ⟨1003, fF, Aa Try.f9 [1, 1, 1, 1, 1, 1, 0, 0, 0, 1, 0, 0, 1, 1, 1, 1, 1] Q⟩]
  [1000, 1001] []
  ⟨en fun f M h => h f rfl rfl rfl rfl rfl rfl rfl rfl rfl rfl,
  el,
  trivial⟩
  h
def gE (x5 x7 x8 x95 x96 x97 : Value) (M : Store) (Q : KP) : Prop :=
 OP (ad .lss x97 x96) fun t98 =>
 BR t98 (
 gz x5 x7 x8 x95 x96 x97 M Q
 ) (
 gA x5 x7 M Q
 )
theorem lV (h : gE x5 x7 x8 x95 x96 x97 M Q) : ak x5 x7 x8 x95 x96 x97 M Q := by
 rintro f rfl rfl rfl rfl rfl rfl
 refine lp ?_
 exact ru (N := 149) (ct := (.two .no (.two .no (.here 1000))))
  [⟨1002, fun a M => dfr a.defers (gz (a.get 5) (a.get 7) (a.get 8) (a.get 95) (a.get 96) (a.get 97) M Q), Aa Try.f9 [1, 1, 1, 1, 1, 1, 1, 0, 1, 0, 0, 1, 1] Q⟩,
  ⟨6, fun a M => dfr a.defers (gA (a.get 5) (a.get 7) M Q), Aa Try.f9 [1, 1, 1, 1, 1, 1, 1, 1] Q⟩]
  [1000] [6]
  ⟨en fun f M h => h f rfl rfl rfl rfl rfl rfl,
  en fun f M h => h f rfl rfl,
  trivial⟩
  h
def gF (x1 x5 x7 x8 x9 x11 x12 x71 x72 x73 : Value) (M : Store) (Q : KP) : Prop :=
 OP (ad .lss x73 x72) fun t74 =>
 BR t74 (
 OP (ixA 1 x71 x73) fun t75 =>
 OP (ld 1 false t75 M) fun t76 =>
 OP (lku (.int .i64) (.int .i64 0) x8 t76 false M) fun t79 =>
 OP (ad .neq t79 (.int .i64 2)) fun t80 =>
 BR t80 (
 NTs [(.bool false)] ∧ Q (.bool false) M
 ) (
 OP (ad .add x73 (.int .i64 1)) fun t81 =>
 bY x1 x5 x7 x8 x9 x11 x12 x71 x72 t81 M Q
 )
 ) (
 eh x1 x5 x7 x8 x9 x11 x12 M Q
 )
theorem lW (h : gF x1 x5 x7 x8 x9 x11 x12 x71 x72 x73 M Q) : bY x1 x5 x7 x8 x9 x11 x12 x71 x72 x73 M Q := by
 rintro f rfl rfl rfl rfl rfl rfl rfl rfl rfl rfl
 refine lp ?_
 exact ru (N := 149) (ct := .no)
  [⟨0, fun a M => dfr a.defers (bY (a.get 1) (a.get 5) (a.get 7) (a.get 8) (a.get 9) (a.get 11) (a.get 12) (a.get 71) (a.get 72) (a.get 73) M Q), Aa Try.f9 [1, 1, 1, 1, 1, 1, 0, 0, 0, 1, 0, 0, 1, 1, 1, 1, 0, 1, 0] Q⟩,
  kE Try.f9 Q 1,
  ⟨4, fun a M => dfr a.defers (eh (a.get 1) (a.get 5) (a.get 7) (a.get 8) (a.get 9) (a.get 11) (a.get 12) M Q), Aa Try.f9 [1, 1, 1, 1, 1, 1, 0, 0, 0, 1, 0, 0, 1, 1, 1, 1, 1] Q⟩]
  [] [0, 1, 4]
  ⟨en fun f M h => h f rfl rfl rfl rfl rfl rfl rfl rfl rfl rfl,
  er,
  en fun f M h => h f rfl rfl rfl rfl rfl rfl rfl,
  trivial⟩
  h
def qP (M : Store) (x97 : Value) (Q : KP) (x5 : Value) (x7 : Value) (x8 : Value) (x95 : Value) (x96 : Value) : Prop :=
 OP (ld 1 false undef M) fun t131_1 =>
 OP (ixA 1 t131_1 x97) fun t133_1 =>
 OP (ld 1 false t133_1 M) fun t134_1 =>
 OP (ad .neq t134_1 (.int .i64 4)) fun t135_1 =>
 BR t135_1 (
 NTs [(.bool false)] ∧ Q (.bool false) M
 ) (
 OP (ad .add x97 (.int .i64 1)) fun t138_2 =>
 ak x5 x7 x8 x95 x96 t138_2 M Q
 )
def qQ (x97 : Value) (M : Store) (Q : KP) (x5 : Value) (x7 : Value) (x8 : Value) (x95 : Value) (x96 : Value) : Prop :=
 OP (ixA 1 undef x97) fun t133_2 =>
 OP (ld 1 false t133_2 M) fun t134_2 =>
 OP (ad .neq t134_2 (.int .i64 4)) fun t135_2 =>
 BR t135_2 (
 NTs [(.bool false)] ∧ Q (.bool false) M
 ) (
 OP (ad .add x97 (.int .i64 1)) fun t138_4 =>
 ak x5 x7 x8 x95 x96 t138_4 M Q
 )
def qR (M : Store) (Q : KP) (x97 : Value) (x5 : Value) (x7 : Value) (x8 : Value) (x95 : Value) (x96 : Value) : Prop :=
 OP (ixA 1 undef undef) fun t133_3 =>
 OP (ld 1 false t133_3 M) fun t134_3 =>
 OP (ad .neq t134_3 (.int .i64 4)) fun t135_3 =>
 BR t135_3 (
 NTs [(.bool false)] ∧ Q (.bool false) M
 ) (
 OP (ad .add x97 (.int .i64 1)) fun t138_6 =>
 ak x5 x7 x8 x95 x96 t138_6 M Q
 )
def qT (M : Store) (Q : KP) (x97 : Value) (x5 : Value) (x7 : Value) (x8 : Value) (x95 : Value) (x96 : Value) : Prop :=
 OP (ld 1 false undef M) fun t134_4 =>
 OP (ad .neq t134_4 (.int .i64 4)) fun t135_4 =>
 BR t135_4 (
 NTs [(.bool false)] ∧ Q (.bool false) M
 ) (
 OP (ad .add x97 (.int .i64 1)) fun t138_8 =>
 ak x5 x7 x8 x95 x96 t138_8 M Q
 )
def qU (Q : KP) (M : Store) (x97 : Value) (x5 : Value) (x7 : Value) (x8 : Value) (x95 : Value) (x96 : Value) : Prop :=
 OP (ad .neq undef (.int .i64 4)) fun t135_5 =>
 BR t135_5 (
 NTs [(.bool false)] ∧ Q (.bool false) M
 ) (
 OP (ad .add x97 (.int .i64 1)) fun t138_10 =>
 ak x5 x7 x8 x95 x96 t138_10 M Q
 )
def qV (t128 : Value) (Q : KP) (M : Store) (x97 : Value) (x5 : Value) (x7 : Value) (x8 : Value) (x95 : Value) (x96 : Value) : Prop :=
 BR t128 (
 BR undef (
 NTs [(.bool false)] ∧ Q (.bool false) M
 ) (
 OP (ad .add x97 (.int .i64 1)) fun t138_12 =>
 ak x5 x7 x8 x95 x96 t138_12 M Q
 )
 ) (
 OP (ad .add x97 (.int .i64 1)) fun t138_13 =>
 ak x5 x7 x8 x95 x96 t138_13 M Q
 )
def qW (t128 : Value) (Q : KP) (M : Store) (x97 : Value) (x5 : Value) (x7 : Value) (x8 : Value) (x95 : Value) (x96 : Value) : Prop :=
 BR3 t128 (
 qU Q M x97 x5 x7 x8 x95 x96
 ) (
 OP (ad .add x97 (.int .i64 1)) fun t138_11 =>
 ak x5 x7 x8 x95 x96 t138_11 M Q
 ) (
 qV t128 Q M x97 x5 x7 x8 x95 x96
 )
def qX (t128 : Value) (M : Store) (Q : KP) (x97 : Value) (x5 : Value) (x7 : Value) (x8 : Value) (x95 : Value) (x96 : Value) : Prop :=
 BR3 t128 (
 qT M Q x97 x5 x7 x8 x95 x96
 ) (
 OP (ad .add x97 (.int .i64 1)) fun t138_9 =>
 ak x5 x7 x8 x95 x96 t138_9 M Q
 ) (
 qW t128 Q M x97 x5 x7 x8 x95 x96
 )
def qY (t128 : Value) (M : Store) (Q : KP) (x97 : Value) (x5 : Value) (x7 : Value) (x8 : Value) (x95 : Value) (x96 : Value) : Prop :=
 BR3 t128 (
 qR M Q x97 x5 x7 x8 x95 x96
 ) (
 OP (ad .add x97 (.int .i64 1)) fun t138_7 =>
 ak x5 x7 x8 x95 x96 t138_7 M Q
 ) (
 qX t128 M Q x97 x5 x7 x8 x95 x96
 )
def oZ (t128 : Value) (x97 : Value) (M : Store) (Q : KP) (x5 : Value) (x7 : Value) (x8 : Value) (x95 : Value) (x96 : Value) : Prop :=
 BR3 t128 (
 qQ x97 M Q x5 x7 x8 x95 x96
 ) (
 OP (ad .add x97 (.int .i64 1)) fun t138_5 =>
 ak x5 x7 x8 x95 x96 t138_5 M Q
 ) (
 qY t128 M Q x97 x5 x7 x8 x95 x96
 )
def eo (t128 : Value) (M : Store) (x97 : Value) (Q : KP) (x5 : Value) (x7 : Value) (x8 : Value) (x95 : Value) (x96 : Value) : Prop :=
 BR3 t128 (
 qP M x97 Q x5 x7 x8 x95 x96
 ) (
 OP (ad .add x97 (.int .i64 1)) fun t138_3 =>
 ak x5 x7 x8 x95 x96 t138_3 M Q
 ) (
 oZ t128 x97 M Q x5 x7 x8 x95 x96
 )
def o0 (x7 : Value) (M : Store) (x97 : Value) (Q : KP) (x5 : Value) (x8 : Value) (x95 : Value) (x96 : Value) : Prop :=
 OP (fad 1 x7) fun t130_2 =>
 OP (ld 1 false t130_2 M) fun t131_4 =>
 OP (ixA 1 t131_4 x97) fun t133_8 =>
 OP (ld 1 false t133_8 M) fun t134_10 =>
 OP (ad .neq t134_10 (.int .i64 4)) fun t135_12 =>
 BR t135_12 (
 NTs [(.bool false)] ∧ Q (.bool false) M
 ) (
 OP (ad .add x97 (.int .i64 1)) fun t138_28 =>
 ak x5 x7 x8 x95 x96 t138_28 M Q
 )
def al (x8 : Value) (t101 : Value) (M : Store) (x7 : Value) (x97 : Value) (Q : KP) (x5 : Value) (x95 : Value) (x96 : Value) : Prop :=
 OP (lku (.int .i64) (.int .i64 0) x8 t101 false M) fun t127_2 =>
 OP (ad .eql t127_2 (.int .i64 0)) fun t128_2 =>
 BR3 t128_2 (
 o0 x7 M x97 Q x5 x8 x95 x96
 ) (
 OP (ad .add x97 (.int .i64 1)) fun t138_29 =>
 ak x5 x7 x8 x95 x96 t138_29 M Q
 ) (
 eo t128_2 M x97 Q x5 x7 x8 x95 x96
 )
def pa (t101 : Value) (M : Store) (x7 : Value) (x97 : Value) (Q : KP) (x8 : Value) (x5 : Value) (x95 : Value) (x96 : Value) : Prop :=
 OP (lku (.int .i64) (.int .i64 0) undef t101 false M) fun t115_1 =>
 OP (fad 1 x7) fun t116_1 =>
 OP (ld 1 false t116_1 M) fun t117_1 =>
 OP (ixA 1 t117_1 x97) fun t119_1 =>
 OP (ld 1 false t119_1 M) fun t120_1 =>
 OP (ad .neq t115_1 t120_1) fun t121_1 =>
 BR t121_1 (
 NTs [(.bool false)] ∧ Q (.bool false) M
 ) (
 al x8 t101 M x7 x97 Q x5 x95 x96
 )
def pb (M : Store) (x7 : Value) (x97 : Value) (Q : KP) (x8 : Value) (t101 : Value) (x5 : Value) (x95 : Value) (x96 : Value) : Prop :=
 OP (lku (.int .i64) (.int .i64 0) undef undef false M) fun t115_2 =>
 OP (fad 1 x7) fun t116_2 =>
 OP (ld 1 false t116_2 M) fun t117_2 =>
 OP (ixA 1 t117_2 x97) fun t119_2 =>
 OP (ld 1 false t119_2 M) fun t120_2 =>
 OP (ad .neq t115_2 t120_2) fun t121_2 =>
 BR t121_2 (
 NTs [(.bool false)] ∧ Q (.bool false) M
 ) (
 al x8 t101 M x7 x97 Q x5 x95 x96
 )
def pc (x7 : Value) (M : Store) (x97 : Value) (Q : KP) (x8 : Value) (t101 : Value) (x5 : Value) (x95 : Value) (x96 : Value) : Prop :=
 OP (fad 1 x7) fun t116_3 =>
 OP (ld 1 false t116_3 M) fun t117_3 =>
 OP (ixA 1 t117_3 x97) fun t119_3 =>
 OP (ld 1 false t119_3 M) fun t120_3 =>
 OP (ad .neq undef t120_3) fun t121_3 =>
 BR t121_3 (
 NTs [(.bool false)] ∧ Q (.bool false) M
 ) (
 al x8 t101 M x7 x97 Q x5 x95 x96
 )
def pd (M : Store) (x97 : Value) (Q : KP) (x8 : Value) (t101 : Value) (x7 : Value) (x5 : Value) (x95 : Value) (x96 : Value) : Prop :=
 OP (ld 1 false undef M) fun t117_4 =>
 OP (ixA 1 t117_4 x97) fun t119_4 =>
 OP (ld 1 false t119_4 M) fun t120_4 =>
 OP (ad .neq undef t120_4) fun t121_4 =>
 BR t121_4 (
 NTs [(.bool false)] ∧ Q (.bool false) M
 ) (
 al x8 t101 M x7 x97 Q x5 x95 x96
 )
def pf (x97 : Value) (M : Store) (Q : KP) (x8 : Value) (t101 : Value) (x7 : Value) (x5 : Value) (x95 : Value) (x96 : Value) : Prop :=
 OP (ixA 1 undef x97) fun t119_5 =>
 OP (ld 1 false t119_5 M) fun t120_5 =>
 OP (ad .neq undef t120_5) fun t121_5 =>
 BR t121_5 (
 NTs [(.bool false)] ∧ Q (.bool false) M
 ) (
 al x8 t101 M x7 x97 Q x5 x95 x96
 )
def pg (M : Store) (Q : KP) (x8 : Value) (t101 : Value) (x7 : Value) (x97 : Value) (x5 : Value) (x95 : Value) (x96 : Value) : Prop :=
 OP (ixA 1 undef undef) fun t119_6 =>
 OP (ld 1 false t119_6 M) fun t120_6 =>
 OP (ad .neq undef t120_6) fun t121_6 =>
 BR t121_6 (
 NTs [(.bool false)] ∧ Q (.bool false) M
 ) (
 al x8 t101 M x7 x97 Q x5 x95 x96
 )
def pi (M : Store) (Q : KP) (x8 : Value) (t101 : Value) (x7 : Value) (x97 : Value) (x5 : Value) (x95 : Value) (x96 : Value) : Prop :=
 OP (ld 1 false undef M) fun t120_7 =>
 OP (ad .neq undef t120_7) fun t121_7 =>
 BR t121_7 (
 NTs [(.bool false)] ∧ Q (.bool false) M
 ) (
 al x8 t101 M x7 x97 Q x5 x95 x96
 )
def pj (Q : KP) (M : Store) (x8 : Value) (t101 : Value) (x7 : Value) (x97 : Value) (x5 : Value) (x95 : Value) (x96 : Value) : Prop :=
 OP (ad .neq undef undef) fun t121_8 =>
 BR t121_8 (
 NTs [(.bool false)] ∧ Q (.bool false) M
 ) (
 al x8 t101 M x7 x97 Q x5 x95 x96
 )
def pk (Q : KP) (M : Store) (x8 : Value) (t101 : Value) (x7 : Value) (x97 : Value) (x5 : Value) (x95 : Value) (x96 : Value) : Prop :=
 BR undef (
 NTs [(.bool false)] ∧ Q (.bool false) M
 ) (
 al x8 t101 M x7 x97 Q x5 x95 x96
 )
def pn (t111 : Value) (Q : KP) (M : Store) (x8 : Value) (t101 : Value) (x7 : Value) (x97 : Value) (x5 : Value) (x95 : Value) (x96 : Value) : Prop :=
 BR t111 (
 pk Q M x8 t101 x7 x97 x5 x95 x96
 ) (
 al x8 t101 M x7 x97 Q x5 x95 x96
 )
def po (t111 : Value) (Q : KP) (M : Store) (x8 : Value) (t101 : Value) (x7 : Value) (x97 : Value) (x5 : Value) (x95 : Value) (x96 : Value) : Prop :=
 BR3 t111 (
 pj Q M x8 t101 x7 x97 x5 x95 x96
 ) (
 al x8 t101 M x7 x97 Q x5 x95 x96
 ) (
 pn t111 Q M x8 t101 x7 x97 x5 x95 x96
 )
def pq (t111 : Value) (M : Store) (Q : KP) (x8 : Value) (t101 : Value) (x7 : Value) (x97 : Value) (x5 : Value) (x95 : Value) (x96 : Value) : Prop :=
 BR3 t111 (
 pi M Q x8 t101 x7 x97 x5 x95 x96
 ) (
 al x8 t101 M x7 x97 Q x5 x95 x96
 ) (
 po t111 Q M x8 t101 x7 x97 x5 x95 x96
 )
def pr (t111 : Value) (M : Store) (Q : KP) (x8 : Value) (t101 : Value) (x7 : Value) (x97 : Value) (x5 : Value) (x95 : Value) (x96 : Value) : Prop :=
 BR3 t111 (
 pg M Q x8 t101 x7 x97 x5 x95 x96
 ) (
 al x8 t101 M x7 x97 Q x5 x95 x96
 ) (
 pq t111 M Q x8 t101 x7 x97 x5 x95 x96
 )
def pw (t111 : Value) (x97 : Value) (M : Store) (Q : KP) (x8 : Value) (t101 : Value) (x7 : Value) (x5 : Value) (x95 : Value) (x96 : Value) : Prop :=
 BR3 t111 (
 pf x97 M Q x8 t101 x7 x5 x95 x96
 ) (
 al x8 t101 M x7 x97 Q x5 x95 x96
 ) (
 pr t111 M Q x8 t101 x7 x97 x5 x95 x96
 )
def px (t111 : Value) (M : Store) (x97 : Value) (Q : KP) (x8 : Value) (t101 : Value) (x7 : Value) (x5 : Value) (x95 : Value) (x96 : Value) : Prop :=
 BR3 t111 (
 pd M x97 Q x8 t101 x7 x5 x95 x96
 ) (
 al x8 t101 M x7 x97 Q x5 x95 x96
 ) (
 pw t111 x97 M Q x8 t101 x7 x5 x95 x96
 )
def py (t111 : Value) (x7 : Value) (M : Store) (x97 : Value) (Q : KP) (x8 : Value) (t101 : Value) (x5 : Value) (x95 : Value) (x96 : Value) : Prop :=
 BR3 t111 (
 pc x7 M x97 Q x8 t101 x5 x95 x96
 ) (
 al x8 t101 M x7 x97 Q x5 x95 x96
 ) (
 px t111 M x97 Q x8 t101 x7 x5 x95 x96
 )
def pz (t111 : Value) (M : Store) (x7 : Value) (x97 : Value) (Q : KP) (x8 : Value) (t101 : Value) (x5 : Value) (x95 : Value) (x96 : Value) : Prop :=
 BR3 t111 (
 pb M x7 x97 Q x8 t101 x5 x95 x96
 ) (
 al x8 t101 M x7 x97 Q x5 x95 x96
 ) (
 py t111 x7 M x97 Q x8 t101 x5 x95 x96
 )
def pB (t111 : Value) (t101 : Value) (M : Store) (x7 : Value) (x97 : Value) (Q : KP) (x8 : Value) (x5 : Value) (x95 : Value) (x96 : Value) : Prop :=
 BR3 t111 (
 pa t101 M x7 x97 Q x8 x5 x95 x96
 ) (
 al x8 t101 M x7 x97 Q x5 x95 x96
 ) (
 pz t111 M x7 x97 Q x8 t101 x5 x95 x96
 )
def lr (x5 x7 x8 x95 x96 x97 : Value) (M : Store) (Q : KP) : Prop :=
 OP (ixA 1 x95 x97) fun t100 =>
 OP (ld 1 false t100 M) fun t101 =>
 OP (fad 1 x7) fun t103 =>
 OP (ld 1 false t103 M) fun t104 =>
 OP (lenV t104) fun t105 =>
 OP (ad .geq x97 t105) fun t106 =>
 BR t106 (
 NTs [(.bool false)] ∧ Q (.bool false) M
 ) (
 OP (lku (.int .i64) (.int .i64 0) x8 t101 false M) fun t110 =>
 OP (ad .neq t110 (.int .i64 0)) fun t111 =>
 BR3 t111 (
 OP (lku (.int .i64) (.int .i64 0) x8 t101 false M) fun t115 =>
 OP (fad 1 x7) fun t116 =>
 OP (ld 1 false t116 M) fun t117 =>
 OP (ixA 1 t117 x97) fun t119 =>
 OP (ld 1 false t119 M) fun t120 =>
 OP (ad .neq t115 t120) fun t121 =>
 BR t121 (
 NTs [(.bool false)] ∧ Q (.bool false) M
 ) (
 OP (lku (.int .i64) (.int .i64 0) x8 t101 false M) fun t127 =>
 OP (ad .eql t127 (.int .i64 0)) fun t128 =>
 BR3 t128 (
 OP (fad 1 x7) fun t130 =>
 OP (ld 1 false t130 M) fun t131 =>
 OP (ixA 1 t131 x97) fun t133 =>
 OP (ld 1 false t133 M) fun t134 =>
 OP (ad .neq t134 (.int .i64 4)) fun t135 =>
 BR t135 (
 NTs [(.bool false)] ∧ Q (.bool false) M
 ) (
 OP (ad .add x97 (.int .i64 1)) fun t138 =>
 ak x5 x7 x8 x95 x96 t138 M Q
 )
 ) (
 OP (ad .add x97 (.int .i64 1)) fun t138_1 =>
 ak x5 x7 x8 x95 x96 t138_1 M Q
 ) (
 eo t128 M x97 Q x5 x7 x8 x95 x96
 )
 )
 ) (
 OP (lku (.int .i64) (.int .i64 0) x8 t101 false M) fun t127_1 =>
 OP (ad .eql t127_1 (.int .i64 0)) fun t128_1 =>
 BR3 t128_1 (
 OP (fad 1 x7) fun t130_1 =>
 OP (ld 1 false t130_1 M) fun t131_2 =>
 OP (ixA 1 t131_2 x97) fun t133_4 =>
 OP (ld 1 false t133_4 M) fun t134_5 =>
 OP (ad .neq t134_5 (.int .i64 4)) fun t135_6 =>
 BR t135_6 (
 NTs [(.bool false)] ∧ Q (.bool false) M
 ) (
 OP (ad .add x97 (.int .i64 1)) fun t138_14 =>
 ak x5 x7 x8 x95 x96 t138_14 M Q
 )
 ) (
 OP (ad .add x97 (.int .i64 1)) fun t138_15 =>
 ak x5 x7 x8 x95 x96 t138_15 M Q
 ) (
 eo t128_1 M x97 Q x5 x7 x8 x95 x96
 )
 ) (
 pB t111 t101 M x7 x97 Q x8 x5 x95 x96
 )
 )
theorem uX (h : lr x5 x7 x8 x95 x96 x97 M Q) : gz x5 x7 x8 x95 x96 x97 M Q := by
 rintro f rfl rfl rfl rfl rfl rfl
 exact ru (N := 149) (ct := .no)
  [⟨0, fun a M => dfr a.defers (ak (a.get 5) (a.get 7) (a.get 8) (a.get 95) (a.get 96) (a.get 97) M Q), Aa Try.f9 [1, 1, 1, 1, 1, 1, 1, 0, 1, 0] Q⟩,
  kE Try.f9 Q 1]
  [] [0, 1]
  ⟨en fun f M h => h f rfl rfl rfl rfl rfl rfl,
  er,
  trivial⟩
  h
def lu (x5 x7 : Value) (M : Store) (Q : KP) : Prop :=
 OP (fad 0 x7) fun t139 =>
 OP (ld 1 false t139 M) fun t140 =>
 OP (lenV t140) fun t141 =>
 OP (fad 0 x5) fun t142 =>
 OP (ld 1 false t142 M) fun t143 =>
 OP (lenV t143) fun t144 =>
 OP (ad .eql t141 t144) fun t145 =>
 BR t145 (
 R F.s #[] M fun t147 M1 =>
 NTs [t147] ∧ Q t147 M1
 ) (
 NTs [(.bool false)] ∧ Q (.bool false) M
 )
theorem uY (h : lu x5 x7 M Q) : gA x5 x7 M Q := by
 rintro f rfl rfl
 exact ru (N := 149) (ct := .no)
  [kE Try.f9 Q 1]
  [] [1]
  ⟨er,
  trivial⟩
  h
def lw (x1 x5 x7 x8 x9 x11 x12 : Value) (M : Store) (Q : KP) : Prop :=
 OP (lku (.int .i64) (.int .i64 0) x8 x11 false M) fun t84 =>
 OP (ad .neq t84 (.int .i64 0)) fun t85 =>
 BR t85 (
 NTs [(.bool false)] ∧ Q (.bool false) M
 ) (
 OP (mup (.int .i64) x8 x11 x12 M) fun M1 =>
 OP (ld 2 true x5 M1) fun t89 =>
 OP (ld 2 true x7 M1) fun t90 =>
 R F.U #[t89, t90, x11, x12] M1 fun t93 M2 =>
 OP (st 2 x7 t93 M2) fun M3 =>
 fW x1 x5 x7 x8 x9 M3 Q
 )
theorem uZ (h : lw x1 x5 x7 x8 x9 x11 x12 M Q) : eh x1 x5 x7 x8 x9 x11 x12 M Q := by
 rintro f rfl rfl rfl rfl rfl rfl rfl
 exact ru (N := 149) (ct := .no)
  [⟨0, fun a M => dfr a.defers (fW (a.get 1) (a.get 5) (a.get 7) (a.get 8) (a.get 9) M Q), Aa Try.f9 [1, 1, 1, 1, 1, 1, 0, 0, 0, 1, 1] Q⟩,
  kE Try.f9 Q 1]
  [] [0, 1]
  ⟨en fun f M h => h f rfl rfl rfl rfl rfl,
  er,
  trivial⟩
  h
def ka (x1 x5 x7 x8 x9 : Value) (M : Store) (Q : KP) : Prop :=
 OP (ad .add x9 (.int .i64 1)) fun t33 =>
 be x1 x5 x7 x8 t33 M Q
theorem tS (h : ka x1 x5 x7 x8 x9 M Q) : fW x1 x5 x7 x8 x9 M Q := by
 rintro f rfl rfl rfl rfl rfl
 exact ru (N := 149) (ct := .no)
  [⟨0, fun a M => dfr a.defers (be (a.get 1) (a.get 5) (a.get 7) (a.get 8) (a.get 9) M Q), Aa Try.f9 [1, 1, 1, 1, 1, 1, 0, 0] Q⟩]
  [] [0]
  ⟨en fun f M h => h f rfl rfl rfl rfl rfl,
  trivial⟩
  h
end Go.G
