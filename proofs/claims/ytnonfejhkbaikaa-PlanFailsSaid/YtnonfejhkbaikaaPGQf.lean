/-  -/
import Derived.Test.YtnonfejhkbaikaaPGN
open Go.RowKit
namespace Go.G
open Go.Ab Go.Proofs
set_option linter.unusedVariables false
set_option maxRecDepth 100000
variable {x0 x1 x5 x7 x8 x9 x12 x13 x14 x47 x48 x52 x53 x58 x59 x60 x73 x74 x75 x103 x104 x105 : Value} {M : Store} {Q : KP}
def bT (x1 x5 x7 x8 x47 x48 : Value) (M : Store) (Q : KP) : Prop :=
 ∀ f : Nat → Value, f 1 = x1 → f 5 = x5 → f 7 = x7 → f 8 = x8 → f 47 = x47 → f 48 = x48 → An Try.f8 [1, 1, 1, 1, 1, 1, 1, 0, 1, 0] 123 f M Q
def bU (x1 x5 x7 x8 x47 x48 x52 x53 : Value) (M : Store) (Q : KP) : Prop :=
 ∀ f : Nat → Value, f 1 = x1 → f 5 = x5 → f 7 = x7 → f 8 = x8 → f 47 = x47 → f 48 = x48 → f 52 = x52 → f 53 = x53 → An Try.f8 [1, 1, 1, 1, 1, 1, 1, 0, 1, 0, 0, 1, 1, 0, 0, 1, 0] 123 f M Q
def f0 (x1 x5 x7 x8 : Value) (M : Store) (Q : KP) : Prop :=
 ∀ f : Nat → Value, f 1 = x1 → f 5 = x5 → f 7 = x7 → f 8 = x8 → An Try.f8 [1, 1, 1, 1, 1, 1, 1, 1] 123 f M Q
def bm (x1 x5 x7 x8 x9 x47 x48 x52 x53 x58 x59 x60 : Value) (M : Store) (Q : KP) : Prop :=
 ∀ f : Nat → Value, f 1 = x1 → f 5 = x5 → f 7 = x7 → f 8 = x8 → f 9 = x9 → f 47 = x47 → f 48 = x48 → f 52 = x52 → f 53 = x53 → f 58 = x58 → f 59 = x59 → f 60 = x60 → An Try.f8 [1, 1, 1, 1, 1, 1, 1, 0, 1, 0, 0, 1, 1, 0, 0, 1, 0, 0, 1, 1, 0, 0, 1, 1, 0] 123 f M Q
def dK (x1 x5 x7 x8 x47 x48 : Value) (M : Store) (Q : KP) : Prop :=
 ∀ f : Nat → Value, f 1 = x1 → f 5 = x5 → f 7 = x7 → f 8 = x8 → f 47 = x47 → f 48 = x48 → An Try.f8 [1, 1, 1, 1, 1, 1, 1, 0, 1, 0, 0, 1, 1, 1] 123 f M Q
def bV (x1 x5 x7 x8 x73 x74 x75 : Value) (M : Store) (Q : KP) : Prop :=
 ∀ f : Nat → Value, f 1 = x1 → f 5 = x5 → f 7 = x7 → f 8 = x8 → f 73 = x73 → f 74 = x74 → f 75 = x75 → An Try.f8 [1, 1, 1, 1, 1, 1, 1, 1, 0, 1, 0] 123 f M Q
def dL (x1 x5 x7 x8 x47 x48 x52 x53 : Value) (M : Store) (Q : KP) : Prop :=
 ∀ f : Nat → Value, f 1 = x1 → f 5 = x5 → f 7 = x7 → f 8 = x8 → f 47 = x47 → f 48 = x48 → f 52 = x52 → f 53 = x53 → An Try.f8 [1, 1, 1, 1, 1, 1, 1, 0, 1, 0, 0, 1, 1, 0, 0, 1, 0, 0, 1, 1, 1] 123 f M Q
def f4 (x1 x5 x7 x8 x73 x74 x75 : Value) (M : Store) (Q : KP) : Prop :=
 ∀ f : Nat → Value, f 1 = x1 → f 5 = x5 → f 7 = x7 → f 8 = x8 → f 73 = x73 → f 74 = x74 → f 75 = x75 → An Try.f8 [1, 1, 1, 1, 1, 1, 1, 1, 0, 1, 0, 0, 1, 1] 123 f M Q
def dM (x5 x7 x8 : Value) (M : Store) (Q : KP) : Prop :=
 ∀ f : Nat → Value, f 5 = x5 → f 7 = x7 → f 8 = x8 → An Try.f8 [1, 1, 1, 1, 1, 1, 1, 1, 1] 123 f M Q
def cA (x1 x5 x7 x8 x12 x13 x14 x73 x74 x75 : Value) (M : Store) (Q : KP) : Prop :=
 ∀ f : Nat → Value, f 1 = x1 → f 5 = x5 → f 7 = x7 → f 8 = x8 → f 12 = x12 → f 13 = x13 → f 14 = x14 → f 73 = x73 → f 74 = x74 → f 75 = x75 → An Try.f8 [1, 1, 1, 1, 1, 1, 1, 1, 0, 1, 0, 0, 1, 1, 0, 0, 1, 1, 1] 123 f M Q
def bH (x5 x7 x8 x103 x104 x105 : Value) (M : Store) (Q : KP) : Prop :=
 ∀ f : Nat → Value, f 5 = x5 → f 7 = x7 → f 8 = x8 → f 103 = x103 → f 104 = x104 → f 105 = x105 → An Try.f8 [1, 1, 1, 1, 1, 1, 1, 1, 1, 0, 1, 0] 123 f M Q
def cB (x1 x5 x7 x8 x12 x14 x73 x74 x75 : Value) (M : Store) (Q : KP) : Prop :=
 ∀ f : Nat → Value, f 1 = x1 → f 5 = x5 → f 7 = x7 → f 8 = x8 → f 12 = x12 → f 14 = x14 → f 73 = x73 → f 74 = x74 → f 75 = x75 → An Try.f8 [1, 1, 1, 1, 1, 1, 1, 1, 0, 1, 0, 0, 1, 1, 0, 0, 1, 1, 1, 1] 123 f M Q
def dz (x5 x7 : Value) (M : Store) (Q : KP) : Prop :=
 ∀ f : Nat → Value, f 5 = x5 → f 7 = x7 → An Try.f8 [1, 1, 1, 1, 1, 1, 1, 1, 1, 1] 123 f M Q
def fp (x1 x5 x7 x8 x73 x74 x75 : Value) (M : Store) (Q : KP) : Prop :=
 ∀ f : Nat → Value, f 1 = x1 → f 5 = x5 → f 7 = x7 → f 8 = x8 → f 73 = x73 → f 74 = x74 → f 75 = x75 → An Try.f8 [1, 1, 1, 1, 1, 1, 1, 1, 0, 1, 0, 0, 1, 1, 1] 123 f M Q
def mK (x0 x1 : Value) (M : Store) (Q : KP) : Prop :=
 R F.lM #[x0] M fun t19 M1 =>
 R F.H #[t19] M1 fun t20 M2 =>
 OP (tup t20 0) fun t21 =>
 OP (tup t20 1) fun t22 =>
 LT (.pointer (some ⟨M2.n, 0, none⟩)) (M2.push (some (.inl ([(.slice none 0 0), (.slice none 0 0)], Ty.d, true)))) fun t5 M3 =>
 LT (.pointer (some ⟨M3.n, 0, none⟩)) (M3.push (some (.inl ([(.int .i64 0), (.int .i64 0), (.int .i64 0)], Ty.h, true)))) fun t6 M4 =>
 OP (st 2 t5 t21 M4) fun M5 =>
 OP (st 3 t6 t22 M5) fun M6 =>
 OP (fad 0 t6) fun t23 =>
 OP (ld 1 false t23 M6) fun t24 =>
 OP (ad .neq t24 (.int .i64 0)) fun t25 =>
 BR t25 (
 NTs [(.bool false)] ∧ Q (.bool false) M6
 ) (
 OP (fad 0 t5) fun t26 =>
 OP (ld 1 false t26 M6) fun t27 =>
 OP (lenV t27) fun t28 =>
 OP (ad .eql t28 (.int .i64 0)) fun t29 =>
 BR t29 (
 R F.m #[] M6 fun t30 M7 =>
 NTs [t30] ∧ Q t30 M7
 ) (
 OP (ad .and x1 (.int .i64 255)) fun t32 =>
 OP (fad 0 t5) fun t33 =>
 OP (ld 1 false t33 M6) fun t34 =>
 OP (lenV t34) fun t35 =>
 OP (ad .rem t32 t35) fun t36 =>
 OP (ld 2 true t5 M6) fun t37 =>
 OP (ld 2 true t5 M6) fun t38 =>
 R F.R #[t38, (.slice none 0 0)] M6 fun t39 M8 =>
 TDj [1] [M6.n, M6.n, M6.n] M6 M8 ∧
 R F.S #[t37, t39, t36, (.int .i64 3)] M8 fun t41 M9 =>
 TDx [0, 0, 2, 0, 15, 0, 63] [M6.n, M6.n, M6.n, M8.n, M8.n] 4 M8 M9 ∧
 LT (.pointer (some ⟨M9.n, 0, none⟩)) (M9.push (some (.inl ([(.slice none 0 0), (.slice none 0 0)], Ty.n, true)))) fun t7 M10 =>
 OP (st 2 t7 t41 M10) fun M11 =>
 TDx [0, 0, 2, 0, 15, 0, 63] [M6.n, M6.n, M6.n, M8.n, M8.n, M9.n, M10.n] 6 M10 M11 ∧
 LT (.map (some M11.n)) (M11.push (some (.inr (.inl [])))) fun t42 M12 =>
 OP (mup (.int .i64) t42 t36 (.bool true) M12) fun M13 =>
 OP (fad 0 t5) fun t45 =>
 OP (ld 1 false t45 M13) fun t46 =>
 OP (lenV t46) fun t47 =>
 bT t36 t5 t7 t42 t47 (.int .i64 0) M13 Q
 )
 )
theorem vT (h : mK x0 x1 M Q) : R F.J #[x0, x1] M Q := by
 refine ro Try.func8 ?_
 exact ru (N := 123) (ct := (.two .no (.two .no (.two .no (.two .no (.two .no (.two .no (.two .no (.two (.two .no (.two (.here 1000) .no)) (.here 1001))))))))))
  [⟨1002, fun a M => dfr a.defers (bT (a.get 1) (a.get 5) (a.get 7) (a.get 8) (a.get 47) (a.get 48) M Q), Aa Try.f8 [1, 1, 1, 1, 1, 1, 1, 0, 1, 0] Q⟩,
  ⟨1003, fF, Aa Try.f8 [1, 1, 1, 1, 1, 1, 1, 1] Q⟩,
  kE Try.f8 Q 1]
  [1000, 1001] [1]
  ⟨en fun f M h => h f rfl rfl rfl rfl rfl rfl,
  el,
  er,
  trivial⟩
  h
def f6 (x1 x5 x7 x8 x47 x48 : Value) (M : Store) (Q : KP) : Prop :=
 OP (ad .lss x48 x47) fun t49 =>
 BR t49 (
 OP (fad 0 x5) fun t50 =>
 OP (ld 1 false t50 M) fun t51 =>
 OP (lenV t51) fun t52 =>
 bU x1 x5 x7 x8 x47 x48 t52 (.int .i64 0) M Q
 ) (
 f0 x1 x5 x7 x8 M Q
 )
theorem ku (h : f6 x1 x5 x7 x8 x47 x48 M Q) : bT x1 x5 x7 x8 x47 x48 M Q := by
 rintro f rfl rfl rfl rfl rfl rfl
 refine lp ?_
 exact ru (N := 123) (ct := (.two .no (.two .no (.two (.two (.two .no (.two (.here 1000) .no)) .no) (.here 1001)))))
  [⟨1002, fun a M => dfr a.defers (bU (a.get 1) (a.get 5) (a.get 7) (a.get 8) (a.get 47) (a.get 48) (a.get 52) (a.get 53) M Q), Aa Try.f8 [1, 1, 1, 1, 1, 1, 1, 0, 1, 0, 0, 1, 1, 0, 0, 1, 0] Q⟩,
  ⟨1003, fF, Aa Try.f8 [1, 1, 1, 1, 1, 1, 1, 0, 1, 0, 0, 1, 1, 1] Q⟩,
  ⟨2, fun a M => dfr a.defers (f0 (a.get 1) (a.get 5) (a.get 7) (a.get 8) M Q), Aa Try.f8 [1, 1, 1, 1, 1, 1, 1, 1] Q⟩]
  [1000, 1001] [2]
  ⟨en fun f M h => h f rfl rfl rfl rfl rfl rfl rfl rfl,
  el,
  en fun f M h => h f rfl rfl rfl rfl,
  trivial⟩
  h
def f7 (x1 x5 x7 x8 x47 x48 x52 x53 : Value) (M : Store) (Q : KP) : Prop :=
 OP (ad .lss x53 x52) fun t54 =>
 BR t54 (
 OP (ld 2 true x5 M) fun t56 =>
 R F.G #[t56, x53] M fun t58 M1 =>
 OP (lenV t58) fun t59 =>
 bm x1 x5 x7 x8 x53 x47 x48 x52 x53 t58 t59 (.int .i64 0) M1 Q
 ) (
 dK x1 x5 x7 x8 x47 x48 M Q
 )
theorem kw (h : f7 x1 x5 x7 x8 x47 x48 x52 x53 M Q) : bU x1 x5 x7 x8 x47 x48 x52 x53 M Q := by
 rintro f rfl rfl rfl rfl rfl rfl rfl rfl
 refine lp ?_
 exact ru (N := 123) (ct := (.two .no (.two .no (.two (.two (.two .no (.two .no (.two (.here 1000) .no))) .no) (.here 1001)))))
  [⟨1002, fun a M => dfr a.defers (bm (a.get 1) (a.get 5) (a.get 7) (a.get 8) (a.get 9) (a.get 47) (a.get 48) (a.get 52) (a.get 53) (a.get 58) (a.get 59) (a.get 60) M Q), Aa Try.f8 [1, 1, 1, 1, 1, 1, 1, 0, 1, 0, 0, 1, 1, 0, 0, 1, 0, 0, 1, 1, 0, 0, 1, 1, 0] Q⟩,
  ⟨1003, fF, Aa Try.f8 [1, 1, 1, 1, 1, 1, 1, 0, 1, 0, 0, 1, 1, 0, 0, 1, 0, 0, 1, 1, 1] Q⟩,
  ⟨4, fun a M => dfr a.defers (dK (a.get 1) (a.get 5) (a.get 7) (a.get 8) (a.get 47) (a.get 48) M Q), Aa Try.f8 [1, 1, 1, 1, 1, 1, 1, 0, 1, 0, 0, 1, 1, 1] Q⟩]
  [1000, 1001] [4]
  ⟨en fun f M h => h f rfl rfl rfl rfl rfl rfl rfl rfl rfl rfl rfl rfl,
  el,
  en fun f M h => h f rfl rfl rfl rfl rfl rfl,
  trivial⟩
  h
def km (x1 x5 x7 x8 : Value) (M : Store) (Q : KP) : Prop :=
 OP (fad 0 x7) fun t72 =>
 OP (ld 1 false t72 M) fun t73 =>
 OP (lenV t73) fun t74 =>
 bV x1 x5 x7 x8 t73 t74 (.int .i64 0) M Q
theorem tk (h : km x1 x5 x7 x8 M Q) : f0 x1 x5 x7 x8 M Q := by
 rintro f rfl rfl rfl rfl
 exact ru (N := 123) (ct := (.two (.two .no (.two (.here 1000) .no)) (.here 1001)))
  [⟨1002, fun a M => dfr a.defers (bV (a.get 1) (a.get 5) (a.get 7) (a.get 8) (a.get 73) (a.get 74) (a.get 75) M Q), Aa Try.f8 [1, 1, 1, 1, 1, 1, 1, 1, 0, 1, 0] Q⟩,
  ⟨1003, fF, Aa Try.f8 [1, 1, 1, 1, 1, 1, 1, 1, 1] Q⟩]
  [1000, 1001] []
  ⟨en fun f M h => h f rfl rfl rfl rfl rfl rfl rfl,
  el,
  trivial⟩
  h
def f9 (x1 x5 x7 x8 x9 x47 x48 x52 x53 x58 x59 x60 : Value) (M : Store) (Q : KP) : Prop :=
 OP (ad .lss x60 x59) fun t61 =>
 BR t61 (
 OP (ixA 1 x58 x60) fun t62 =>
 OP (ld 1 false t62 M) fun t63 =>
 OP (lku (.int .i64) (.bool false) x8 t63 false M) fun t66 =>
 BR t66 (
 OP (mup (.int .i64) x8 x9 (.bool true) M) fun M1 =>
 OP (ad .add x60 (.int .i64 1)) fun t69 =>
 bm x1 x5 x7 x8 x9 x47 x48 x52 x53 x58 x59 t69 M1 Q
 ) (
 OP (ad .add x60 (.int .i64 1)) fun t69_1 =>
 bm x1 x5 x7 x8 x9 x47 x48 x52 x53 x58 x59 t69_1 M Q
 )
 ) (
 dL x1 x5 x7 x8 x47 x48 x52 x53 M Q
 )
theorem kx (h : f9 x1 x5 x7 x8 x9 x47 x48 x52 x53 x58 x59 x60 M Q) : bm x1 x5 x7 x8 x9 x47 x48 x52 x53 x58 x59 x60 M Q := by
 rintro f rfl rfl rfl rfl rfl rfl rfl rfl rfl rfl rfl rfl
 refine lp ?_
 exact ru (N := 123) (ct := .no)
  [⟨0, fun a M => dfr a.defers (bm (a.get 1) (a.get 5) (a.get 7) (a.get 8) (a.get 9) (a.get 47) (a.get 48) (a.get 52) (a.get 53) (a.get 58) (a.get 59) (a.get 60) M Q), Aa Try.f8 [1, 1, 1, 1, 1, 1, 1, 0, 1, 0, 0, 1, 1, 0, 0, 1, 0, 0, 1, 1, 0, 0, 1, 1, 0] Q⟩,
  ⟨6, fun a M => dfr a.defers (dL (a.get 1) (a.get 5) (a.get 7) (a.get 8) (a.get 47) (a.get 48) (a.get 52) (a.get 53) M Q), Aa Try.f8 [1, 1, 1, 1, 1, 1, 1, 0, 1, 0, 0, 1, 1, 0, 0, 1, 0, 0, 1, 1, 1] Q⟩]
  [] [0, 6]
  ⟨en fun f M h => h f rfl rfl rfl rfl rfl rfl rfl rfl rfl rfl rfl rfl,
  en fun f M h => h f rfl rfl rfl rfl rfl rfl rfl rfl,
  trivial⟩
  h
def kn (x1 x5 x7 x8 x47 x48 : Value) (M : Store) (Q : KP) : Prop :=
 OP (ad .add x48 (.int .i64 1)) fun t71 =>
 bT x1 x5 x7 x8 x47 t71 M Q
theorem tl (h : kn x1 x5 x7 x8 x47 x48 M Q) : dK x1 x5 x7 x8 x47 x48 M Q := by
 rintro f rfl rfl rfl rfl rfl rfl
 exact ru (N := 123) (ct := .no)
  [⟨0, fun a M => dfr a.defers (bT (a.get 1) (a.get 5) (a.get 7) (a.get 8) (a.get 47) (a.get 48) M Q), Aa Try.f8 [1, 1, 1, 1, 1, 1, 1, 0, 1, 0] Q⟩]
  [] [0]
  ⟨en fun f M h => h f rfl rfl rfl rfl rfl rfl,
  trivial⟩
  h
def ga (x1 x5 x7 x8 x73 x74 x75 : Value) (M : Store) (Q : KP) : Prop :=
 OP (ad .lss x75 x74) fun t76 =>
 BR t76 (
 f4 x1 x5 x7 x8 x73 x74 x75 M Q
 ) (
 dM x5 x7 x8 M Q
 )
theorem ky (h : ga x1 x5 x7 x8 x73 x74 x75 M Q) : bV x1 x5 x7 x8 x73 x74 x75 M Q := by
 rintro f rfl rfl rfl rfl rfl rfl rfl
 refine lp ?_
 exact ru (N := 123) (ct := (.two .no (.two .no (.here 1000))))
  [⟨1002, fun a M => dfr a.defers (f4 (a.get 1) (a.get 5) (a.get 7) (a.get 8) (a.get 73) (a.get 74) (a.get 75) M Q), Aa Try.f8 [1, 1, 1, 1, 1, 1, 1, 1, 0, 1, 0, 0, 1, 1] Q⟩,
  ⟨8, fun a M => dfr a.defers (dM (a.get 5) (a.get 7) (a.get 8) M Q), Aa Try.f8 [1, 1, 1, 1, 1, 1, 1, 1, 1] Q⟩]
  [1000] [8]
  ⟨en fun f M h => h f rfl rfl rfl rfl rfl rfl rfl,
  en fun f M h => h f rfl rfl rfl,
  trivial⟩
  h
def ko (x1 x5 x7 x8 x47 x48 x52 x53 : Value) (M : Store) (Q : KP) : Prop :=
 OP (ad .add x53 (.int .i64 1)) fun t70 =>
 bU x1 x5 x7 x8 x47 x48 x52 t70 M Q
theorem tm (h : ko x1 x5 x7 x8 x47 x48 x52 x53 M Q) : dL x1 x5 x7 x8 x47 x48 x52 x53 M Q := by
 rintro f rfl rfl rfl rfl rfl rfl rfl rfl
 exact ru (N := 123) (ct := .no)
  [⟨0, fun a M => dfr a.defers (bU (a.get 1) (a.get 5) (a.get 7) (a.get 8) (a.get 47) (a.get 48) (a.get 52) (a.get 53) M Q), Aa Try.f8 [1, 1, 1, 1, 1, 1, 1, 0, 1, 0, 0, 1, 1, 0, 0, 1, 0] Q⟩]
  [] [0]
  ⟨en fun f M h => h f rfl rfl rfl rfl rfl rfl rfl rfl,
  trivial⟩
  h
def kp (x1 x5 x7 x8 x73 x74 x75 : Value) (M : Store) (Q : KP) : Prop :=
 OP (ixA 1 x73 x75) fun t78 =>
 OP (ld 1 false t78 M) fun t79 =>
 OP (lku (.int .i64) (.bool false) x8 t79 false M) fun t82 =>
 BR t82 (
 cA x1 x5 x7 x8 x75 t79 (.int .i64 4) x73 x74 x75 M Q
 ) (
 cA x1 x5 x7 x8 x75 t79 (.int .i64 1) x73 x74 x75 M Q
 )
theorem tn (h : kp x1 x5 x7 x8 x73 x74 x75 M Q) : f4 x1 x5 x7 x8 x73 x74 x75 M Q := by
 rintro f rfl rfl rfl rfl rfl rfl rfl
 exact ru (N := 123) (ct := (.two (.two (.two .no (.two .no (.two .no (.here 1000)))) .no) (.here 1001)))
  [⟨1002, fun a M => dfr a.defers (cA (a.get 1) (a.get 5) (a.get 7) (a.get 8) (a.get 12) (a.get 13) (a.get 14) (a.get 73) (a.get 74) (a.get 75) M Q), Aa Try.f8 [1, 1, 1, 1, 1, 1, 1, 1, 0, 1, 0, 0, 1, 1, 0, 0, 1, 1, 1] Q⟩,
  ⟨1003, fF, Aa Try.f8 [1, 1, 1, 1, 1, 1, 1, 1, 0, 1, 0, 0, 1, 1, 1] Q⟩]
  [1000, 1001] []
  ⟨en fun f M h => h f rfl rfl rfl rfl rfl rfl rfl rfl rfl rfl,
  el,
  trivial⟩
  h
def kq (x5 x7 x8 : Value) (M : Store) (Q : KP) : Prop :=
 OP (ld 2 true x5 M) fun t101 =>
 OP (ld 2 true x7 M) fun t102 =>
 R F.F #[t101, t102] M fun t103 M1 =>
 OP (lenV t103) fun t104 =>
 bH x5 x7 x8 t103 t104 (.int .i64 0) M1 Q
theorem tq (h : kq x5 x7 x8 M Q) : dM x5 x7 x8 M Q := by
 rintro f rfl rfl rfl
 exact ru (N := 123) (ct := (.two (.two .no (.two (.here 1000) .no)) (.here 1001)))
  [⟨1002, fun a M => dfr a.defers (bH (a.get 5) (a.get 7) (a.get 8) (a.get 103) (a.get 104) (a.get 105) M Q), Aa Try.f8 [1, 1, 1, 1, 1, 1, 1, 1, 1, 0, 1, 0] Q⟩,
  ⟨1003, fF, Aa Try.f8 [1, 1, 1, 1, 1, 1, 1, 1, 1, 1] Q⟩]
  [1000, 1001] []
  ⟨en fun f M h => h f rfl rfl rfl rfl rfl rfl,
  el,
  trivial⟩
  h
def jF (x1 x5 x7 x8 x12 x13 x14 x73 x74 x75 : Value) (M : Store) (Q : KP) : Prop :=
 OP (ad .eql x13 x1) fun t85 =>
 BR t85 (
 cB x1 x5 x7 x8 x12 (.int .i64 3) x73 x74 x75 M Q
 ) (
 cB x1 x5 x7 x8 x12 x14 x73 x74 x75 M Q
 )
theorem rI (h : jF x1 x5 x7 x8 x12 x13 x14 x73 x74 x75 M Q) : cA x1 x5 x7 x8 x12 x13 x14 x73 x74 x75 M Q := by
 rintro f rfl rfl rfl rfl rfl rfl rfl rfl rfl rfl
 exact ru (N := 123) (ct := (.two .no (.here 1000)))
  [⟨1002, fun a M => dfr a.defers (cB (a.get 1) (a.get 5) (a.get 7) (a.get 8) (a.get 12) (a.get 14) (a.get 73) (a.get 74) (a.get 75) M Q), Aa Try.f8 [1, 1, 1, 1, 1, 1, 1, 1, 0, 1, 0, 0, 1, 1, 0, 0, 1, 1, 1, 1] Q⟩]
  [1000] []
  ⟨en fun f M h => h f rfl rfl rfl rfl rfl rfl rfl rfl rfl,
  trivial⟩
  h
def fB (x5 x7 x8 x103 x104 x105 : Value) (M : Store) (Q : KP) : Prop :=
 OP (ad .lss x105 x104) fun t106 =>
 BR t106 (
 OP (ixA 1 x103 x105) fun t107 =>
 OP (ld 1 false t107 M) fun t108 =>
 OP (lku (.int .i64) (.bool false) x8 t108 false M) fun t111 =>
 BR t111 (
 NTs [(.bool false)] ∧ Q (.bool false) M
 ) (
 OP (ad .add x105 (.int .i64 1)) fun t112 =>
 bH x5 x7 x8 x103 x104 t112 M Q
 )
 ) (
 dz x5 x7 M Q
 )
theorem jM (h : fB x5 x7 x8 x103 x104 x105 M Q) : bH x5 x7 x8 x103 x104 x105 M Q := by
 rintro f rfl rfl rfl rfl rfl rfl
 refine lp ?_
 exact ru (N := 123) (ct := .no)
  [⟨0, fun a M => dfr a.defers (bH (a.get 5) (a.get 7) (a.get 8) (a.get 103) (a.get 104) (a.get 105) M Q), Aa Try.f8 [1, 1, 1, 1, 1, 1, 1, 1, 1, 0, 1, 0] Q⟩,
  kE Try.f8 Q 1,
  ⟨10, fun a M => dfr a.defers (dz (a.get 5) (a.get 7) M Q), Aa Try.f8 [1, 1, 1, 1, 1, 1, 1, 1, 1, 1] Q⟩]
  [] [0, 1, 10]
  ⟨en fun f M h => h f rfl rfl rfl rfl rfl rfl,
  er,
  en fun f M h => h f rfl rfl,
  trivial⟩
  h
def jG (x1 x5 x7 x8 x12 x14 x73 x74 x75 : Value) (M : Store) (Q : KP) : Prop :=
 OP (fad 1 x7) fun t87 =>
 OP (ld 1 false t87 M) fun t88 =>
 OP (lenV t88) fun t89 =>
 OP (ad .geq x12 t89) fun t90 =>
 BR t90 (
 NTs [(.bool false)] ∧ Q (.bool false) M
 ) (
 OP (fad 1 x7) fun t92 =>
 OP (ld 1 false t92 M) fun t93 =>
 OP (ixA 1 t93 x12) fun t95 =>
 OP (ld 1 false t95 M) fun t96 =>
 OP (ad .neq t96 x14) fun t98 =>
 BR t98 (
 NTs [(.bool false)] ∧ Q (.bool false) M
 ) (
 fp x1 x5 x7 x8 x73 x74 x75 M Q
 )
 )
theorem rJ (h : jG x1 x5 x7 x8 x12 x14 x73 x74 x75 M Q) : cB x1 x5 x7 x8 x12 x14 x73 x74 x75 M Q := by
 rintro f rfl rfl rfl rfl rfl rfl rfl rfl rfl
 exact ru (N := 123) (ct := .no)
  [⟨0, fun a M => dfr a.defers (fp (a.get 1) (a.get 5) (a.get 7) (a.get 8) (a.get 73) (a.get 74) (a.get 75) M Q), Aa Try.f8 [1, 1, 1, 1, 1, 1, 1, 1, 0, 1, 0, 0, 1, 1, 1] Q⟩,
  kE Try.f8 Q 1]
  [] [0, 1]
  ⟨en fun f M h => h f rfl rfl rfl rfl rfl rfl rfl,
  er,
  trivial⟩
  h
def jH (x5 x7 : Value) (M : Store) (Q : KP) : Prop :=
 OP (fad 0 x7) fun t113 =>
 OP (ld 1 false t113 M) fun t114 =>
 OP (lenV t114) fun t115 =>
 OP (fad 0 x5) fun t116 =>
 OP (ld 1 false t116 M) fun t117 =>
 OP (lenV t117) fun t118 =>
 OP (ad .eql t115 t118) fun t119 =>
 BR t119 (
 R F.m #[] M fun t121 M1 =>
 NTs [t121] ∧ Q t121 M1
 ) (
 NTs [(.bool false)] ∧ Q (.bool false) M
 )
theorem rK (h : jH x5 x7 M Q) : dz x5 x7 M Q := by
 rintro f rfl rfl
 exact ru (N := 123) (ct := .no)
  [kE Try.f8 Q 1]
  [] [1]
  ⟨er,
  trivial⟩
  h
def jI (x1 x5 x7 x8 x73 x74 x75 : Value) (M : Store) (Q : KP) : Prop :=
 OP (ad .add x75 (.int .i64 1)) fun t100 =>
 bV x1 x5 x7 x8 x73 x74 t100 M Q
theorem rL (h : jI x1 x5 x7 x8 x73 x74 x75 M Q) : fp x1 x5 x7 x8 x73 x74 x75 M Q := by
 rintro f rfl rfl rfl rfl rfl rfl rfl
 exact ru (N := 123) (ct := .no)
  [⟨0, fun a M => dfr a.defers (bV (a.get 1) (a.get 5) (a.get 7) (a.get 8) (a.get 73) (a.get 74) (a.get 75) M Q), Aa Try.f8 [1, 1, 1, 1, 1, 1, 1, 1, 0, 1, 0] Q⟩]
  [] [0]
  ⟨en fun f M h => h f rfl rfl rfl rfl rfl rfl rfl,
  trivial⟩
  h
end Go.G
