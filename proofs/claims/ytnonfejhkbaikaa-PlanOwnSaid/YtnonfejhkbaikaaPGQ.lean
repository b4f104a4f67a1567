/-  -/
import Derived.Test.YtnonfejhkbaikaaPGN
open Go.RowKit
namespace Go.G
open Go.Ab Go.Proofs
set_option linter.unusedVariables false
set_option maxRecDepth 100000
variable {x0 x1 x2 x3 x4 x5 x6 x7 x8 x9 x10 x11 x12 x13 x34 x35 x36 x41 x42 x43 : Value} {M : Store} {Q : KP}
def dX (x4 x5 x12 x13 : Value) (M : Store) (Q : KP) : Prop :=
 ∀ f : Nat → Value, f 4 = x4 → f 5 = x5 → f 12 = x12 → f 13 = x13 → An Try.f29 [1, 1, 0, 1, 0] 22 f M Q
def lI (x4 x5 x12 x13 : Value) (M : Store) (Q : KP) : Prop :=
 ∀ f : Nat → Value, f 4 = x4 → f 5 = x5 → f 12 = x12 → f 13 = x13 → An Try.f29 [1, 1, 0, 1, 0, 0, 1, 1] 22 f M Q
def lJ (x4 x5 : Value) (M : Store) (Q : KP) : Prop :=
 ∀ f : Nat → Value, f 4 = x4 → f 5 = x5 → An Try.f29 [1, 1, 1] 22 f M Q
def wC (x0 x1 : Value) (M : Store) (Q : KP) : Prop :=
 OP (aJ x0) fun c =>
 LT (.pointer (some ⟨M.n, 0, none⟩)) (M.push (some (.inl (c, Ty.d, true)))) fun t2 M1 =>
 LT (.pointer (some ⟨M1.n, 0, none⟩)) (M1.push (some (.inl ([(.slice none 0 0), (.slice none 0 0)], Ty.e, true)))) fun t4 M2 =>
 OP (ld 2 true t2 M2) fun t6 =>
 R F.z #[t6, x1] M2 fun t8 M3 =>
 OP (bz #[(.slice none 0 0), (.slice none 0 0)] [(0, 1), (1, 1)] [(0, t8)]) fun t9 =>
 LT (.pointer (some ⟨M3.n, 0, none⟩)) (M3.push (some (.inl ([(.slice none 0 0), (.slice none 0 0)], Ty.e, true)))) fun t5 M4 =>
 OP (st 2 t5 t9 M4) fun M5 =>
 OP (fad 0 t5) fun t10 =>
 OP (ld 1 false t10 M5) fun t11 =>
 OP (lenV t11) fun t12 =>
 dX t4 t5 t12 (.int .i64 0) M5 Q
theorem Eu (h : wC x0 x1 M Q) : R F.V #[x0, x1] M Q := by
 refine ro Try.func29 ?_
 exact ru (N := 22) (ct := (.two .no (.two .no (.two (.two .no (.two (.here 1000) .no)) (.here 1001)))))
  [⟨1002, fun a M => dfr a.defers (dX (a.get 4) (a.get 5) (a.get 12) (a.get 13) M Q), Aa Try.f29 [1, 1, 0, 1, 0] Q⟩,
  ⟨1003, fF, Aa Try.f29 [1, 1, 1] Q⟩]
  [1000, 1001] []
  ⟨en fun f M h => h f rfl rfl rfl rfl,
  el,
  trivial⟩
  h
def ml (x4 x5 x12 x13 : Value) (M : Store) (Q : KP) : Prop :=
 OP (ad .lss x13 x12) fun t14 =>
 BR t14 (
 lI x4 x5 x12 x13 M Q
 ) (
 lJ x4 x5 M Q
 )
theorem s4 (h : ml x4 x5 x12 x13 M Q) : dX x4 x5 x12 x13 M Q := by
 rintro f rfl rfl rfl rfl
 refine lp ?_
 exact ru (N := 22) (ct := (.two .no (.two .no (.here 1000))))
  [⟨1002, fun a M => dfr a.defers (lI (a.get 4) (a.get 5) (a.get 12) (a.get 13) M Q), Aa Try.f29 [1, 1, 0, 1, 0, 0, 1, 1] Q⟩,
  ⟨2, fun a M => dfr a.defers (lJ (a.get 4) (a.get 5) M Q), Aa Try.f29 [1, 1, 1] Q⟩]
  [1000] [2]
  ⟨en fun f M h => h f rfl rfl rfl rfl,
  en fun f M h => h f rfl rfl,
  trivial⟩
  h
def rU (x4 x5 x12 x13 : Value) (M : Store) (Q : KP) : Prop :=
 OP (fad 1 x5) fun t15 =>
 OP (ld 1 false t15 M) fun t16 =>
 OP (al (.int .i64 0) 1 1 [(0, (.int .i64 1))]) fun c =>
 LT (.slice (some ⟨M.n, 0, none⟩) 1 1) (M.push (some (.inl (c, Ty.b, true)))) fun t17 M1 =>
 OP2 (appV 1 Ty.b t16 t17 M1) fun t18 M2 =>
 OP (fad 1 x5) fun t19 =>
 OP (st 1 t19 t18 M2) fun M3 =>
 OP (ad .add x13 (.int .i64 1)) fun t20 =>
 dX x4 x5 x12 t20 M3 Q
theorem A9 (h : rU x4 x5 x12 x13 M Q) : lI x4 x5 x12 x13 M Q := by
 rintro f rfl rfl rfl rfl
 exact ru (N := 22) (ct := .no)
  [⟨0, fun a M => dfr a.defers (dX (a.get 4) (a.get 5) (a.get 12) (a.get 13) M Q), Aa Try.f29 [1, 1, 0, 1, 0] Q⟩]
  [] [0]
  ⟨en fun f M h => h f rfl rfl rfl rfl,
  trivial⟩
  h
def rV (x4 x5 : Value) (M : Store) (Q : KP) : Prop :=
 OP (ld 2 true x5 M) fun t21 =>
 OP (st 2 x4 t21 M) fun M1 =>
 OP (ld 2 true x4 M1) fun r4 =>
 NTs [r4] ∧ Q r4 M1
theorem Ba (h : rV x4 x5 M Q) : lJ x4 x5 M Q := by
 rintro f rfl rfl
 exact ru (N := 22) (ct := .no)
  [kE Try.f29 Q 1]
  [] [1]
  ⟨er,
  trivial⟩
  h
def eV (x4 x5 x6 : Value) (M : Store) (Q : KP) : Prop :=
 ∀ f : Nat → Value, f 4 = x4 → f 5 = x5 → f 6 = x6 → An Try.f30 [1, 1, 0, 1, 0] 24 f M Q
def ow (x4 x5 x6 : Value) (M : Store) (Q : KP) : Prop :=
 ∀ f : Nat → Value, f 4 = x4 → f 5 = x5 → f 6 = x6 → An Try.f30 [1, 1, 0, 1, 0, 0, 1] 24 f M Q
def oz (x4 x5 : Value) (M : Store) (Q : KP) : Prop :=
 ∀ f : Nat → Value, f 4 = x4 → f 5 = x5 → An Try.f30 [1, 1, 1] 24 f M Q
def zj (x0 x1 : Value) (M : Store) (Q : KP) : Prop :=
 OP (aJ x0) fun c =>
 LT (.pointer (some ⟨M.n, 0, none⟩)) (M.push (some (.inl (c, Ty.d, true)))) fun t2 M1 =>
 LT (.pointer (some ⟨M1.n, 0, none⟩)) (M1.push (some (.inl ([(.slice none 0 0), (.slice none 0 0)], Ty.e, true)))) fun t4 M2 =>
 OP (ld 2 true t2 M2) fun t7 =>
 R F.P #[t7, x1] M2 fun t9 M3 =>
 OP (bz #[(.slice none 0 0), (.slice none 0 0)] [(0, 1), (1, 1)] [(0, t9)]) fun t10 =>
 LT (.pointer (some ⟨M3.n, 0, none⟩)) (M3.push (some (.inl ([(.slice none 0 0), (.slice none 0 0)], Ty.e, true)))) fun t5 M4 =>
 OP (st 2 t5 t10 M4) fun M5 =>
 eV t4 t5 (.int .i64 0) M5 Q
theorem Gh (h : zj x0 x1 M Q) : R F.f1 #[x0, x1] M Q := by
 refine ro Try.func30 ?_
 exact ru (N := 24) (ct := (.two .no (.two .no (.two (.two .no (.two (.here 1000) .no)) (.here 1001)))))
  [⟨1002, fun a M => dfr a.defers (eV (a.get 4) (a.get 5) (a.get 6) M Q), Aa Try.f30 [1, 1, 0, 1, 0] Q⟩,
  ⟨1003, fF, Aa Try.f30 [1, 1, 1] Q⟩]
  [1000, 1001] []
  ⟨en fun f M h => h f rfl rfl rfl,
  el,
  trivial⟩
  h
def oI (x4 x5 x6 : Value) (M : Store) (Q : KP) : Prop :=
 OP (fad 0 x5) fun t12 =>
 OP (ld 1 false t12 M) fun t13 =>
 OP (lenV t13) fun t14 =>
 OP (ad .lss x6 t14) fun t15 =>
 BR t15 (
 ow x4 x5 x6 M Q
 ) (
 oz x4 x5 M Q
 )
theorem vl (h : oI x4 x5 x6 M Q) : eV x4 x5 x6 M Q := by
 rintro f rfl rfl rfl
 refine lp ?_
 exact ru (N := 24) (ct := (.two .no (.here 1000)))
  [⟨1002, fun a M => dfr a.defers (ow (a.get 4) (a.get 5) (a.get 6) M Q), Aa Try.f30 [1, 1, 0, 1, 0, 0, 1] Q⟩,
  ⟨2, fun a M => dfr a.defers (oz (a.get 4) (a.get 5) M Q), Aa Try.f30 [1, 1, 1] Q⟩]
  [1000] [2]
  ⟨en fun f M h => h f rfl rfl rfl,
  en fun f M h => h f rfl rfl,
  trivial⟩
  h
def uQ (x4 x5 x6 : Value) (M : Store) (Q : KP) : Prop :=
 OP (fad 1 x5) fun t18 =>
 OP (ld 1 false t18 M) fun t19 =>
 OP (al (.int .i64 0) 1 1 [(0, (.int .i64 1))]) fun c =>
 LT (.slice (some ⟨M.n, 0, none⟩) 1 1) (M.push (some (.inl (c, Ty.b, true)))) fun t20 M1 =>
 OP2 (appV 1 Ty.b t19 t20 M1) fun t21 M2 =>
 OP (fad 1 x5) fun t22 =>
 OP (st 1 t22 t21 M2) fun M3 =>
 OP (ad .add x6 (.int .i64 1)) fun t17 =>
 eV x4 x5 t17 M3 Q
theorem CR (h : uQ x4 x5 x6 M Q) : ow x4 x5 x6 M Q := by
 rintro f rfl rfl rfl
 exact ru (N := 24) (ct := .no)
  [⟨0, fun a M => dfr a.defers (eV (a.get 4) (a.get 5) (a.get 6) M Q), Aa Try.f30 [1, 1, 0, 1, 0] Q⟩]
  [] [0]
  ⟨en fun f M h => h f rfl rfl rfl,
  trivial⟩
  h
def uR (x4 x5 : Value) (M : Store) (Q : KP) : Prop :=
 OP (ld 2 true x5 M) fun t23 =>
 OP (st 2 x4 t23 M) fun M1 =>
 OP (ld 2 true x4 M1) fun r4 =>
 NTs [r4] ∧ Q r4 M1
theorem CS (h : uR x4 x5 M Q) : oz x4 x5 M Q := by
 rintro f rfl rfl
 exact ru (N := 24) (ct := .no)
  [kE Try.f30 Q 1]
  [] [1]
  ⟨er,
  trivial⟩
  h
def dY (x3 x4 x5 x8 : Value) (M : Store) (Q : KP) : Prop :=
 ∀ f : Nat → Value, f 3 = x3 → f 4 = x4 → f 5 = x5 → f 8 = x8 → An Try.f31 [1, 1, 1, 1, 1, 0, 0] 44 f M Q
def fG (x5 x8 : Value) (M : Store) (Q : KP) : Prop :=
 ∀ f : Nat → Value, f 5 = x5 → f 8 = x8 → An Try.f31 [1, 1, 1, 1, 1, 1] 44 f M Q
def wD (x0 x1 x2 x3 : Value) (M : Store) (Q : KP) : Prop :=
 OP (aJ x0) fun c =>
 LT (.pointer (some ⟨M.n, 0, none⟩)) (M.push (some (.inl (c, Ty.d, true)))) fun t4 M1 =>
 OP (aJ x1) fun c_1 =>
 LT (.pointer (some ⟨M1.n, 0, none⟩)) (M1.push (some (.inl (c_1, Ty.e, true)))) fun t5 M2 =>
 LT (.pointer (some ⟨M2.n, 0, none⟩)) (M2.push (some (.inl ([(.slice none 0 0), (.slice none 0 0)], Ty.e, true)))) fun t8 M3 =>
 OP (fad 0 t5) fun t10 =>
 OP (ld 1 false t10 M3) fun t11 =>
 R F.F #[t11] M3 fun t12 M4 =>
 TDj [0, 1] [M3.n, M3.n, M3.n] M3 M4 ∧
 OP (fad 1 t5) fun t13 =>
 OP (ld 1 false t13 M4) fun t14 =>
 R F.F #[t14] M4 fun t15 M5 =>
 TDx [0, 1, 3, 0, 8, 31, 63, 127] [M3.n, M3.n, M3.n, M4.n, M4.n, M4.n] 5 M4 M5 ∧
 OP (bz #[(.slice none 0 0), (.slice none 0 0)] [(0, 1), (1, 1)] [(0, t12), (1, t15)]) fun t16 =>
 OP (st 2 t5 t16 M5) fun M6 =>
 TDx [0, 1, 3, 0, 8, 31, 63, 127] [M3.n, M3.n, M3.n, M4.n, M4.n, M4.n, M5.n, M5.n] 7 M5 M6 ∧
 OP (fad 0 t5) fun t17 =>
 OP (ld 1 false t17 M6) fun t18 =>
 R F.G #[t18, x2] M6 fun t20 M7 =>
 OP (ad .lss t20 (.int .i64 0)) fun t22 =>
 BR t22 (
 OP (ld 2 true t5 M7) fun t30 =>
 OP (st 2 t8 t30 M7) fun M8 =>
 OP (ld 2 true t8 M8) fun r8 =>
 NTs [r8] ∧ Q r8 M8
 ) (
 OP (fad 1 t5) fun t25 =>
 OP (ld 1 false t25 M7) fun t26 =>
 OP (lenV t26) fun t27 =>
 OP (ad .geq t20 t27) fun t28 =>
 BR t28 (
 OP (ld 2 true t5 M7) fun t30_1 =>
 OP (st 2 t8 t30_1 M7) fun M9 =>
 OP (ld 2 true t8 M9) fun r8_1 =>
 NTs [r8_1] ∧ Q r8_1 M9
 ) (
 OP (fad 1 t5) fun t31 =>
 OP (ld 1 false t31 M7) fun t32 =>
 OP (ixA 1 t32 t20) fun t35 =>
 OP (st 1 t35 x3 M7) fun M10 =>
 dY x3 t4 t5 t8 M10 Q
 )
 )
theorem Ev (h : wD x0 x1 x2 x3 M Q) : R F.W #[x0, x1, x2, x3] M Q := by
 refine ro Try.func31 ?_
 exact ru (N := 44) (ct := (.two .no (.two .no (.two .no (.two .no (.two .no (.two (.two (.here 1000) .no) (.here 1001))))))))
  [⟨1002, fun a M => dfr a.defers (dY (a.get 3) (a.get 4) (a.get 5) (a.get 8) M Q), Aa Try.f31 [1, 1, 1, 1, 1, 0, 0] Q⟩,
  ⟨1003, fF, Aa Try.f31 [1, 1, 1, 1, 1, 1] Q⟩,
  kE Try.f31 Q 1]
  [1000, 1001] [1]
  ⟨en fun f M h => h f rfl rfl rfl rfl,
  el,
  er,
  trivial⟩
  h
def mn (x3 x4 x5 x8 : Value) (M : Store) (Q : KP) : Prop :=
 OP (ad .eql x3 (.int .i64 3)) fun t37 =>
 BR t37 (
 OP (ld 2 true x4 M) fun t39 =>
 OP (ld 2 true x5 M) fun t40 =>
 R F.e1 #[t39, t40] M fun t41 M1 =>
 BR t41 (
 dY x3 x4 x5 x8 M1 Q
 ) (
 fG x5 x8 M1 Q
 )
 ) (
 fG x5 x8 M Q
 )
theorem s6 (h : mn x3 x4 x5 x8 M Q) : dY x3 x4 x5 x8 M Q := by
 rintro f rfl rfl rfl rfl
 refine lp ?_
 exact ru (N := 44) (ct := .no)
  [⟨0, fun a M => dfr a.defers (dY (a.get 3) (a.get 4) (a.get 5) (a.get 8) M Q), Aa Try.f31 [1, 1, 1, 1, 1, 0, 0] Q⟩,
  ⟨2, fun a M => dfr a.defers (fG (a.get 5) (a.get 8) M Q), Aa Try.f31 [1, 1, 1, 1, 1, 1] Q⟩]
  [] [0, 2]
  ⟨en fun f M h => h f rfl rfl rfl rfl,
  en fun f M h => h f rfl rfl,
  trivial⟩
  h
def mo (x5 x8 : Value) (M : Store) (Q : KP) : Prop :=
 OP (ld 2 true x5 M) fun t43 =>
 OP (st 2 x8 t43 M) fun M1 =>
 OP (ld 2 true x8 M1) fun r8 =>
 NTs [r8] ∧ Q r8 M1
theorem ta (h : mo x5 x8 M Q) : fG x5 x8 M Q := by
 rintro f rfl rfl
 exact ru (N := 44) (ct := .no)
  [kE Try.f31 Q 1]
  [] [1]
  ⟨er,
  trivial⟩
  h
def bp (x2 x3 x5 x10 x11 x12 : Value) (M : Store) (Q : KP) : Prop :=
 ∀ f : Nat → Value, f 2 = x2 → f 3 = x3 → f 5 = x5 → f 10 = x10 → f 11 = x11 → f 12 = x12 → An Try.f32 [1, 1, 0, 1, 0] 35 f M Q
def jr (x2 x3 x5 x10 x11 x12 : Value) (M : Store) (Q : KP) : Prop :=
 ∀ f : Nat → Value, f 2 = x2 → f 3 = x3 → f 5 = x5 → f 10 = x10 → f 11 = x11 → f 12 = x12 → An Try.f32 [1, 1, 0, 1, 0, 0, 1, 1] 35 f M Q
def jt (x5 : Value) (M : Store) (Q : KP) : Prop :=
 ∀ f : Nat → Value, f 5 = x5 → An Try.f32 [1, 1, 1] 35 f M Q
def rW (x0 x1 : Value) (M : Store) (Q : KP) : Prop :=
 OP (aJ x0) fun c =>
 LT (.pointer (some ⟨M.n, 0, none⟩)) (M.push (some (.inl (c, Ty.d, true)))) fun t2 M1 =>
 OP (aJ x1) fun c_1 =>
 LT (.pointer (some ⟨M1.n, 0, none⟩)) (M1.push (some (.inl (c_1, Ty.e, true)))) fun t3 M2 =>
 OP (fad 0 t3) fun t9 =>
 OP (ld 1 false t9 M2) fun t10 =>
 OP (lenV t10) fun t11 =>
 bp t2 t3 (.slice none 0 0) t10 t11 (.int .i64 0) M2 Q
theorem Bb (h : rW x0 x1 M Q) : R F.v #[x0, x1] M Q := by
 refine ro Try.func32 ?_
 exact ru (N := 35) (ct := (.two .no (.two .no (.two (.two .no (.two (.here 1000) .no)) (.here 1001)))))
  [⟨1002, fun a M => dfr a.defers (bp (a.get 2) (a.get 3) (a.get 5) (a.get 10) (a.get 11) (a.get 12) M Q), Aa Try.f32 [1, 1, 0, 1, 0] Q⟩,
  ⟨1003, fF, Aa Try.f32 [1, 1, 1] Q⟩]
  [1000, 1001] []
  ⟨en fun f M h => h f rfl rfl rfl rfl rfl rfl,
  el,
  trivial⟩
  h
def jD (x2 x3 x5 x10 x11 x12 : Value) (M : Store) (Q : KP) : Prop :=
 OP (ad .lss x12 x11) fun t13 =>
 BR t13 (
 jr x2 x3 x5 x10 x11 x12 M Q
 ) (
 jt x5 M Q
 )
theorem pH (h : jD x2 x3 x5 x10 x11 x12 M Q) : bp x2 x3 x5 x10 x11 x12 M Q := by
 rintro f rfl rfl rfl rfl rfl rfl
 refine lp ?_
 exact ru (N := 35) (ct := (.two .no (.two .no (.here 1000))))
  [⟨1002, fun a M => dfr a.defers (jr (a.get 2) (a.get 3) (a.get 5) (a.get 10) (a.get 11) (a.get 12) M Q), Aa Try.f32 [1, 1, 0, 1, 0, 0, 1, 1] Q⟩,
  ⟨2, fun a M => dfr a.defers (jt (a.get 5) M Q), Aa Try.f32 [1, 1, 1] Q⟩]
  [1000] [2]
  ⟨en fun f M h => h f rfl rfl rfl rfl rfl rfl,
  en fun f M h => h f rfl,
  trivial⟩
  h
def pn (x2 x3 x5 x10 x11 x12 : Value) (M : Store) (Q : KP) : Prop :=
 OP (ixA 1 x10 x12) fun t14 =>
 OP (ld 1 false t14 M) fun t15 =>
 OP (ld 2 true x3 M) fun t16 =>
 R F.n #[t16, t15] M fun t18 M1 =>
 OP (ad .eql t18 (.int .i64 1)) fun t19 =>
 BR t19 (
 OP (ld 2 true x2 M1) fun t21 =>
 OP (ld 2 true x3 M1) fun t22 =>
 R F.s #[t21, t22, t15] M1 fun t24 M2 =>
 R F.h #[t24, (.func (.func F.l) #[] #[])] M2 fun t26 M3 =>
 OP (aun .not t26) fun t27 =>
 BR t27 (
 OP (al (.int .i64 0) 1 1 [(0, t15)]) fun c =>
 LT (.slice (some ⟨M3.n, 0, none⟩) 1 1) (M3.push (some (.inl (c, Ty.b, true)))) fun t31 M4 =>
 OP2 (appV 1 Ty.b x5 t31 M4) fun t32 M5 =>
 OP (ad .add x12 (.int .i64 1)) fun t33 =>
 bp x2 x3 t32 x10 x11 t33 M5 Q
 ) (
 OP (ad .add x12 (.int .i64 1)) fun t33_1 =>
 bp x2 x3 x5 x10 x11 t33_1 M3 Q
 )
 ) (
 OP (ad .add x12 (.int .i64 1)) fun t33_2 =>
 bp x2 x3 x5 x10 x11 t33_2 M1 Q
 )
theorem yI (h : pn x2 x3 x5 x10 x11 x12 M Q) : jr x2 x3 x5 x10 x11 x12 M Q := by
 rintro f rfl rfl rfl rfl rfl rfl
 exact ru (N := 35) (ct := .no)
  [⟨0, fun a M => dfr a.defers (bp (a.get 2) (a.get 3) (a.get 5) (a.get 10) (a.get 11) (a.get 12) M Q), Aa Try.f32 [1, 1, 0, 1, 0] Q⟩]
  [] [0]
  ⟨en fun f M h => h f rfl rfl rfl rfl rfl rfl,
  trivial⟩
  h
def po (x5 : Value) (M : Store) (Q : KP) : Prop :=
 NTs [x5] ∧ Q x5 M
theorem yJ (h : po x5 M Q) : jt x5 M Q := by
 rintro f rfl
 exact ru (N := 35) (ct := .no)
  [kE Try.f32 Q 1]
  [] [1]
  ⟨er,
  trivial⟩
  h
def rg (x0 x1 : Value) (M : Store) (Q : KP) : Prop :=
 OP (aJ x0) fun c =>
 LT (.pointer (some ⟨M.n, 0, none⟩)) (M.push (some (.inl (c, Ty.e, true)))) fun t2 M1 =>
 OP (aJ x1) fun c_1 =>
 LT (.pointer (some ⟨M1.n, 0, none⟩)) (M1.push (some (.inl (c_1, Ty.e, true)))) fun t3 M2 =>
 OP (fad 0 t2) fun t5 =>
 OP (ld 1 false t5 M2) fun t6 =>
 OP (fad 0 t3) fun t7 =>
 OP (ld 1 false t7 M2) fun t8 =>
 R F.k #[t6, t8] M2 fun t9 M3 =>
 BR t9 (
 OP (fad 1 t2) fun t11 =>
 OP (ld 1 false t11 M3) fun t12 =>
 OP (fad 1 t3) fun t13 =>
 OP (ld 1 false t13 M3) fun t14 =>
 R F.k #[t12, t14] M3 fun t15 M4 =>
 NTs [t15] ∧ Q t15 M4
 ) (
 NTs [(.bool false)] ∧ Q (.bool false) M3
 )
theorem Am (h : rg x0 x1 M Q) : R F.B #[x0, x1] M Q := by
 refine ro Try.func33 ?_
 exact ru (N := 17) (ct := .no)
  [kE Try.f33 Q 1]
  [] [1]
  ⟨er,
  trivial⟩
  h
def d9 (x2 x3 x5 x6 : Value) (M : Store) (Q : KP) : Prop :=
 ∀ f : Nat → Value, f 2 = x2 → f 3 = x3 → f 5 = x5 → f 6 = x6 → An Try.f34 [1, 1, 0, 1, 0] 62 f M Q
def lR (x2 x3 x5 x6 : Value) (M : Store) (Q : KP) : Prop :=
 ∀ f : Nat → Value, f 2 = x2 → f 3 = x3 → f 5 = x5 → f 6 = x6 → An Try.f34 [1, 1, 0, 1, 0, 0, 1] 62 f M Q
def lS (x5 : Value) (M : Store) (Q : KP) : Prop :=
 ∀ f : Nat → Value, f 5 = x5 → An Try.f34 [1, 1, 1] 62 f M Q
def bu (x2 x3 x5 x6 x7 x8 x9 : Value) (M : Store) (Q : KP) : Prop :=
 ∀ f : Nat → Value, f 2 = x2 → f 3 = x3 → f 5 = x5 → f 6 = x6 → f 7 = x7 → f 8 = x8 → f 9 = x9 → An Try.f34 [1, 1, 0, 1, 0, 0, 1, 0, 0, 1, 1, 0, 1, 0] 62 f M Q
def lT (x2 x3 x5 x6 x7 x8 x9 : Value) (M : Store) (Q : KP) : Prop :=
 ∀ f : Nat → Value, f 2 = x2 → f 3 = x3 → f 5 = x5 → f 6 = x6 → f 7 = x7 → f 8 = x8 → f 9 = x9 → An Try.f34 [1, 1, 0, 1, 0, 0, 1, 0, 0, 1, 1, 0, 1, 0, 0, 1] 62 f M Q
def iC (x2 x3 x5 x6 x7 : Value) (M : Store) (Q : KP) : Prop :=
 ∀ f : Nat → Value, f 2 = x2 → f 3 = x3 → f 5 = x5 → f 6 = x6 → f 7 = x7 → An Try.f34 [1, 1, 0, 1, 0, 0, 1, 0, 0, 1, 1, 1] 62 f M Q
def iD (x2 x3 x5 x6 : Value) (M : Store) (Q : KP) : Prop :=
 ∀ f : Nat → Value, f 2 = x2 → f 3 = x3 → f 5 = x5 → f 6 = x6 → An Try.f34 [1, 1, 0, 1, 0, 0, 1, 1] 62 f M Q
def wI (x0 x1 : Value) (M : Store) (Q : KP) : Prop :=
 OP (aJ x0) fun c =>
 LT (.pointer (some ⟨M.n, 0, none⟩)) (M.push (some (.inl (c, Ty.d, true)))) fun t2 M1 =>
 OP (aJ x1) fun c_1 =>
 LT (.pointer (some ⟨M1.n, 0, none⟩)) (M1.push (some (.inl (c_1, Ty.e, true)))) fun t3 M2 =>
 d9 t2 t3 (.slice none 0 0) (.int .i64 0) M2 Q
theorem EA (h : wI x0 x1 M Q) : R F.Y #[x0, x1] M Q := by
 refine ro Try.func34 ?_
 exact ru (N := 62) (ct := (.two .no (.two .no (.two (.two .no (.two (.here 1000) .no)) (.here 1001)))))
  [⟨1002, fun a M => dfr a.defers (d9 (a.get 2) (a.get 3) (a.get 5) (a.get 6) M Q), Aa Try.f34 [1, 1, 0, 1, 0] Q⟩,
  ⟨1003, fF, Aa Try.f34 [1, 1, 1] Q⟩]
  [1000, 1001] []
  ⟨en fun f M h => h f rfl rfl rfl rfl,
  el,
  trivial⟩
  h
def mz (x2 x3 x5 x6 : Value) (M : Store) (Q : KP) : Prop :=
 OP (fad 0 x3) fun t12 =>
 OP (ld 1 false t12 M) fun t13 =>
 OP (lenV t13) fun t14 =>
 OP (ad .lss x6 t14) fun t15 =>
 BR t15 (
 lR x2 x3 x5 x6 M Q
 ) (
 lS x5 M Q
 )
theorem th (h : mz x2 x3 x5 x6 M Q) : d9 x2 x3 x5 x6 M Q := by
 rintro f rfl rfl rfl rfl
 refine lp ?_
 exact ru (N := 62) (ct := (.two .no (.here 1000)))
  [⟨1002, fun a M => dfr a.defers (lR (a.get 2) (a.get 3) (a.get 5) (a.get 6) M Q), Aa Try.f34 [1, 1, 0, 1, 0, 0, 1] Q⟩,
  ⟨2, fun a M => dfr a.defers (lS (a.get 5) M Q), Aa Try.f34 [1, 1, 1] Q⟩]
  [1000] [2]
  ⟨en fun f M h => h f rfl rfl rfl rfl,
  en fun f M h => h f rfl,
  trivial⟩
  h
def sB (x2 x3 x5 x6 : Value) (M : Store) (Q : KP) : Prop :=
 OP (fad 1 x3) fun t18 =>
 OP (ld 1 false t18 M) fun t19 =>
 OP (ixA 1 t19 x6) fun t21 =>
 OP (ld 1 false t21 M) fun t22 =>
 OP (ad .eql t22 (.int .i64 1)) fun t23 =>
 OP (ld 2 true x2 M) fun t24 =>
 OP (fad 0 x3) fun t25 =>
 OP (ld 1 false t25 M) fun t26 =>
 OP (ixA 1 t26 x6) fun t28 =>
 OP (ld 1 false t28 M) fun t29 =>
 R F.x #[t24, t29] M fun t30 M1 =>
 TDx [0, 0, 2, 0, 14, 30, 63, 127] [M.n, M.n, M.n, M.n, M.n, M.n, M.n] 6 M M1 ∧
 bu x2 x3 x5 x6 t23 t30 (.int .i64 0) M1 Q
theorem Bt (h : sB x2 x3 x5 x6 M Q) : lR x2 x3 x5 x6 M Q := by
 rintro f rfl rfl rfl rfl
 exact ru (N := 62) (ct := (.two (.two (.two .no (.two .no (.two (.two .no (.two (.here 1000) .no)) (.here 1001)))) .no) (.here 1002)))
  [⟨1002, fun a M => dfr a.defers (bu (a.get 2) (a.get 3) (a.get 5) (a.get 6) (a.get 7) (a.get 8) (a.get 9) M Q), Aa Try.f34 [1, 1, 0, 1, 0, 0, 1, 0, 0, 1, 1, 0, 1, 0] Q⟩,
  ⟨1003, fF, Aa Try.f34 [1, 1, 0, 1, 0, 0, 1, 0, 0, 1, 1, 1] Q⟩,
  ⟨1004, fF, Aa Try.f34 [1, 1, 0, 1, 0, 0, 1, 1] Q⟩]
  [1000, 1001, 1002] []
  ⟨en fun f M h => h f rfl rfl rfl rfl rfl rfl rfl,
  el,
  el,
  trivial⟩
  h
def sC (x5 : Value) (M : Store) (Q : KP) : Prop :=
 NTs [x5] ∧ Q x5 M
theorem Bu (h : sC x5 M Q) : lS x5 M Q := by
 rintro f rfl
 exact ru (N := 62) (ct := .no)
  [kE Try.f34 Q 1]
  [] [1]
  ⟨er,
  trivial⟩
  h
def mA (x2 x3 x5 x6 x7 x8 x9 : Value) (M : Store) (Q : KP) : Prop :=
 OP (lenV x8) fun t33 =>
 OP (ad .lss x9 t33) fun t34 =>
 BR t34 (
 lT x2 x3 x5 x6 x7 x8 x9 M Q
 ) (
 iC x2 x3 x5 x6 x7 M Q
 )
theorem ti (h : mA x2 x3 x5 x6 x7 x8 x9 M Q) : bu x2 x3 x5 x6 x7 x8 x9 M Q := by
 rintro f rfl rfl rfl rfl rfl rfl rfl
 refine lp ?_
 exact ru (N := 62) (ct := (.two .no (.here 1000)))
  [⟨1002, fun a M => dfr a.defers (lT (a.get 2) (a.get 3) (a.get 5) (a.get 6) (a.get 7) (a.get 8) (a.get 9) M Q), Aa Try.f34 [1, 1, 0, 1, 0, 0, 1, 0, 0, 1, 1, 0, 1, 0, 0, 1] Q⟩,
  ⟨4, fun a M => dfr a.defers (iC (a.get 2) (a.get 3) (a.get 5) (a.get 6) (a.get 7) M Q), Aa Try.f34 [1, 1, 0, 1, 0, 0, 1, 0, 0, 1, 1, 1] Q⟩]
  [1000] [4]
  ⟨en fun f M h => h f rfl rfl rfl rfl rfl rfl rfl,
  en fun f M h => h f rfl rfl rfl rfl rfl,
  trivial⟩
  h
def sD (x2 x3 x5 x6 x7 x8 x9 : Value) (M : Store) (Q : KP) : Prop :=
 OP (ld 2 true x3 M) fun t37 =>
 OP (ixA 1 x8 x9) fun t40 =>
 OP (ld 1 false t40 M) fun t41 =>
 R F.c1 #[t37, t41] M fun t42 M1 =>
 TDx [0, 0, 0, 6, 14, 31, 63] [M.n, M.n, M.n, M.n, M.n, M.n] 5 M M1 ∧
 BR x7 (
 OP (ad .eql t42 (.int .i64 0)) fun t46 =>
 BR3 t46 (
 OP (ad .add x9 (.int .i64 1)) fun t36 =>
 bu x2 x3 x5 x6 (.bool true) x8 t36 M1 Q
 ) (
 OP (ad .eql t42 (.int .i64 2)) fun t49 =>
 OP (ad .add x9 (.int .i64 1)) fun t36_1 =>
 bu x2 x3 x5 x6 t49 x8 t36_1 M1 Q
 ) (
 BR t46 (
 OP (ad .add x9 (.int .i64 1)) fun t36_2 =>
 bu x2 x3 x5 x6 (.bool true) x8 t36_2 M1 Q
 ) (
 OP (ad .add x9 (.int .i64 1)) fun t36_3 =>
 bu x2 x3 x5 x6 undef x8 t36_3 M1 Q
 )
 )
 ) (
 OP (ad .add x9 (.int .i64 1)) fun t36_4 =>
 bu x2 x3 x5 x6 (.bool false) x8 t36_4 M1 Q
 )
theorem Bv (h : sD x2 x3 x5 x6 x7 x8 x9 M Q) : lT x2 x3 x5 x6 x7 x8 x9 M Q := by
 rintro f rfl rfl rfl rfl rfl rfl rfl
 exact ru (N := 62) (ct := .no)
  [⟨0, fun a M => dfr a.defers (bu (a.get 2) (a.get 3) (a.get 5) (a.get 6) (a.get 7) (a.get 8) (a.get 9) M Q), Aa Try.f34 [1, 1, 0, 1, 0, 0, 1, 0, 0, 1, 1, 0, 1, 0] Q⟩]
  [] [0]
  ⟨en fun f M h => h f rfl rfl rfl rfl rfl rfl rfl,
  trivial⟩
  h
def sE (x2 x3 x5 x6 x7 : Value) (M : Store) (Q : KP) : Prop :=
 BR x7 (
 OP (fad 0 x3) fun t54 =>
 OP (ld 1 false t54 M) fun t55 =>
 OP (ixA 1 t55 x6) fun t57 =>
 OP (ld 1 false t57 M) fun t58 =>
 OP (al (.int .i64 0) 1 1 [(0, t58)]) fun c =>
 LT (.slice (some ⟨M.n, 0, none⟩) 1 1) (M.push (some (.inl (c, Ty.b, true)))) fun t59 M1 =>
 OP2 (appV 1 Ty.b x5 t59 M1) fun t60 M2 =>
 iD x2 x3 t60 x6 M2 Q
 ) (
 iD x2 x3 x5 x6 M Q
 )
theorem Bw (h : sE x2 x3 x5 x6 x7 M Q) : iC x2 x3 x5 x6 x7 M Q := by
 rintro f rfl rfl rfl rfl rfl
 exact ru (N := 62) (ct := .no)
  [⟨0, fun a M => dfr a.defers (iD (a.get 2) (a.get 3) (a.get 5) (a.get 6) M Q), Aa Try.f34 [1, 1, 0, 1, 0, 0, 1, 1] Q⟩]
  [] [0]
  ⟨en fun f M h => h f rfl rfl rfl rfl,
  trivial⟩
  h
def mB (x2 x3 x5 x6 : Value) (M : Store) (Q : KP) : Prop :=
 OP (ad .add x6 (.int .i64 1)) fun t17 =>
 d9 x2 x3 x5 t17 M Q
theorem tj (h : mB x2 x3 x5 x6 M Q) : iD x2 x3 x5 x6 M Q := by
 rintro f rfl rfl rfl rfl
 exact ru (N := 62) (ct := .no)
  [⟨0, fun a M => dfr a.defers (d9 (a.get 2) (a.get 3) (a.get 5) (a.get 6) M Q), Aa Try.f34 [1, 1, 0, 1, 0] Q⟩]
  [] [0]
  ⟨en fun f M h => h f rfl rfl rfl rfl,
  trivial⟩
  h
def fa (x0 x1 x7 x8 : Value) (M : Store) (Q : KP) : Prop :=
 ∀ f : Nat → Value, f 0 = x0 → f 1 = x1 → f 7 = x7 → f 8 = x8 → An Try.f53 [1, 0, 1, 0] 19 f M Q
def oG (M : Store) (Q : KP) : Prop :=
 ∀ f : Nat → Value, An Try.f53 [1, 1] 19 f M Q
def zr (x0 x1 : Value) (M : Store) (Q : KP) : Prop :=
 OP (lenV x0) fun t7 =>
 fa x0 x1 t7 (.int .i64 0) M Q
theorem Gq (h : zr x0 x1 M Q) : R F.G #[x0, x1] M Q := by
 refine ro Try.func53 ?_
 exact ru (N := 19) (ct := (.two .no (.two (.two .no (.two (.here 1000) .no)) (.here 1001))))
  [⟨1002, fun a M => dfr a.defers (fa (a.get 0) (a.get 1) (a.get 7) (a.get 8) M Q), Aa Try.f53 [1, 0, 1, 0] Q⟩,
  ⟨1003, fF, Aa Try.f53 [1, 1] Q⟩]
  [1000, 1001] []
  ⟨en fun f M h => h f rfl rfl rfl rfl,
  el,
  trivial⟩
  h
def oN (x0 x1 x7 x8 : Value) (M : Store) (Q : KP) : Prop :=
 OP (ad .lss x8 x7) fun t9 =>
 BR t9 (
 OP (ixA 1 x0 x8) fun t14 =>
 OP (ld 1 false t14 M) fun t15 =>
 OP (ad .eql x1 t15) fun t16 =>
 BR t16 (
 NTs [x8] ∧ Q x8 M
 ) (
 OP (ad .add x8 (.int .i64 1)) fun t18 =>
 fa x0 x1 x7 t18 M Q
 )
 ) (
 oG M Q
 )
theorem vr (h : oN x0 x1 x7 x8 M Q) : fa x0 x1 x7 x8 M Q := by
 rintro f rfl rfl rfl rfl
 refine lp ?_
 exact ru (N := 19) (ct := .no)
  [⟨0, fun a M => dfr a.defers (fa (a.get 0) (a.get 1) (a.get 7) (a.get 8) M Q), Aa Try.f53 [1, 0, 1, 0] Q⟩,
  kE Try.f53 Q 1,
  ⟨2, fun a M => dfr a.defers (oG M Q), Aa Try.f53 [1, 1] Q⟩]
  [] [0, 1, 2]
  ⟨en fun f M h => h f rfl rfl rfl rfl,
  er,
  en fun f M h => h f,
  trivial⟩
  h
def vj (M : Store) (Q : KP) : Prop :=
 NTs [(.int .i64 (-1))] ∧ Q (.int .i64 (-1)) M
theorem Da (h : vj M Q) : oG M Q := by
 intro f 
 exact ru (N := 19) (ct := .no)
  [kE Try.f53 Q 1]
  [] [1]
  ⟨er,
  trivial⟩
  h
def bq (x2 x3 x5 x10 x11 x12 : Value) (M : Store) (Q : KP) : Prop :=
 ∀ f : Nat → Value, f 2 = x2 → f 3 = x3 → f 5 = x5 → f 10 = x10 → f 11 = x11 → f 12 = x12 → An Try.f54 [1, 1, 0, 1, 0] 35 f M Q
def ju (x2 x3 x5 x10 x11 x12 : Value) (M : Store) (Q : KP) : Prop :=
 ∀ f : Nat → Value, f 2 = x2 → f 3 = x3 → f 5 = x5 → f 10 = x10 → f 11 = x11 → f 12 = x12 → An Try.f54 [1, 1, 0, 1, 0, 0, 1, 1] 35 f M Q
def jx (x5 : Value) (M : Store) (Q : KP) : Prop :=
 ∀ f : Nat → Value, f 5 = x5 → An Try.f54 [1, 1, 1] 35 f M Q
def rX (x0 x1 : Value) (M : Store) (Q : KP) : Prop :=
 OP (aJ x0) fun c =>
 LT (.pointer (some ⟨M.n, 0, none⟩)) (M.push (some (.inl (c, Ty.d, true)))) fun t2 M1 =>
 OP (aJ x1) fun c_1 =>
 LT (.pointer (some ⟨M1.n, 0, none⟩)) (M1.push (some (.inl (c_1, Ty.e, true)))) fun t3 M2 =>
 OP (fad 0 t3) fun t9 =>
 OP (ld 1 false t9 M2) fun t10 =>
 OP (lenV t10) fun t11 =>
 bq t2 t3 (.bool false) t10 t11 (.int .i64 0) M2 Q
theorem Bc (h : rX x0 x1 M Q) : R F.e1 #[x0, x1] M Q := by
 refine ro Try.func54 ?_
 exact ru (N := 35) (ct := (.two .no (.two .no (.two (.two .no (.two (.here 1000) .no)) (.here 1001)))))
  [⟨1002, fun a M => dfr a.defers (bq (a.get 2) (a.get 3) (a.get 5) (a.get 10) (a.get 11) (a.get 12) M Q), Aa Try.f54 [1, 1, 0, 1, 0] Q⟩,
  ⟨1003, fF, Aa Try.f54 [1, 1, 1] Q⟩]
  [1000, 1001] []
  ⟨en fun f M h => h f rfl rfl rfl rfl rfl rfl,
  el,
  trivial⟩
  h
def jE (x2 x3 x5 x10 x11 x12 : Value) (M : Store) (Q : KP) : Prop :=
 OP (ad .lss x12 x11) fun t13 =>
 BR t13 (
 ju x2 x3 x5 x10 x11 x12 M Q
 ) (
 jx x5 M Q
 )
theorem pI (h : jE x2 x3 x5 x10 x11 x12 M Q) : bq x2 x3 x5 x10 x11 x12 M Q := by
 rintro f rfl rfl rfl rfl rfl rfl
 refine lp ?_
 exact ru (N := 35) (ct := (.two .no (.two .no (.here 1000))))
  [⟨1002, fun a M => dfr a.defers (ju (a.get 2) (a.get 3) (a.get 5) (a.get 10) (a.get 11) (a.get 12) M Q), Aa Try.f54 [1, 1, 0, 1, 0, 0, 1, 1] Q⟩,
  ⟨2, fun a M => dfr a.defers (jx (a.get 5) M Q), Aa Try.f54 [1, 1, 1] Q⟩]
  [1000] [2]
  ⟨en fun f M h => h f rfl rfl rfl rfl rfl rfl,
  en fun f M h => h f rfl,
  trivial⟩
  h
def pq (x2 x3 x5 x10 x11 x12 : Value) (M : Store) (Q : KP) : Prop :=
 OP (ixA 1 x10 x12) fun t15 =>
 OP (ld 1 false t15 M) fun t16 =>
 OP (ld 2 true x3 M) fun t17 =>
 R F.n #[t17, t16] M fun t19 M1 =>
 OP (ad .eql t19 (.int .i64 1)) fun t20 =>
 BR t20 (
 OP (ld 2 true x2 M1) fun t22 =>
 OP (ld 2 true x3 M1) fun t23 =>
 R F.s #[t22, t23, t16] M1 fun t25 M2 =>
 R F.h #[t25, (.func (.func F.m) #[] #[])] M2 fun t27 M3 =>
 BR t27 (
 OP (fad 1 x3) fun t29 =>
 OP (ld 1 false t29 M3) fun t30 =>
 OP (ixA 1 t30 x12) fun t32 =>
 OP (st 1 t32 (.int .i64 4) M3) fun M4 =>
 OP (ad .add x12 (.int .i64 1)) fun t33 =>
 bq x2 x3 (.bool true) x10 x11 t33 M4 Q
 ) (
 OP (ad .add x12 (.int .i64 1)) fun t33_1 =>
 bq x2 x3 x5 x10 x11 t33_1 M3 Q
 )
 ) (
 OP (ad .add x12 (.int .i64 1)) fun t33_2 =>
 bq x2 x3 x5 x10 x11 t33_2 M1 Q
 )
theorem yK (h : pq x2 x3 x5 x10 x11 x12 M Q) : ju x2 x3 x5 x10 x11 x12 M Q := by
 rintro f rfl rfl rfl rfl rfl rfl
 exact ru (N := 35) (ct := .no)
  [⟨0, fun a M => dfr a.defers (bq (a.get 2) (a.get 3) (a.get 5) (a.get 10) (a.get 11) (a.get 12) M Q), Aa Try.f54 [1, 1, 0, 1, 0] Q⟩]
  [] [0]
  ⟨en fun f M h => h f rfl rfl rfl rfl rfl rfl,
  trivial⟩
  h
def pr (x5 : Value) (M : Store) (Q : KP) : Prop :=
 NTs [x5] ∧ Q x5 M
theorem yL (h : pr x5 M Q) : jx x5 M Q := by
 rintro f rfl
 exact ru (N := 35) (ct := .no)
  [kE Try.f54 Q 1]
  [] [1]
  ⟨er,
  trivial⟩
  h
def nC (x0 : Value) (M : Store) (Q : KP) : Prop :=
 OP (ad .neq x0 (.int .i64 0)) fun t4 =>
 BR t4 (
 OP (ad .neq x0 (.int .i64 2)) fun t7 =>
 NTs [t7] ∧ Q t7 M
 ) (
 NTs [(.bool false)] ∧ Q (.bool false) M
 )
theorem xr (h : nC x0 M Q) : R F.l #[x0] M Q := by
 refine ro Try.func55 ?_
 exact ru (N := 9) (ct := .no)
  [kE Try.f55 Q 1]
  [] [1]
  ⟨er,
  trivial⟩
  h
def rY (x0 x1 : Value) (M : Store) (Q : KP) : Prop :=
 OP (aJ x0) fun c =>
 LT (.pointer (some ⟨M.n, 0, none⟩)) (M.push (some (.inl (c, Ty.e, true)))) fun t2 M1 =>
 OP (fad 0 t2) fun t6 =>
 OP (ld 1 false t6 M1) fun t7 =>
 R F.G #[t7, x1] M1 fun t9 M2 =>
 OP (ad .lss t9 (.int .i64 0)) fun t11 =>
 BR t11 (
 NTs [(.int .i64 0)] ∧ Q (.int .i64 0) M2
 ) (
 OP (fad 1 t2) fun t14 =>
 OP (ld 1 false t14 M2) fun t15 =>
 OP (lenV t15) fun t16 =>
 OP (ad .geq t9 t16) fun t17 =>
 BR t17 (
 NTs [(.int .i64 0)] ∧ Q (.int .i64 0) M2
 ) (
 OP (fad 1 t2) fun t19 =>
 OP (ld 1 false t19 M2) fun t20 =>
 OP (ixA 1 t20 t9) fun t22 =>
 OP (ld 1 false t22 M2) fun t23 =>
 NTs [t23] ∧ Q t23 M2
 )
 )
theorem Bd (h : rY x0 x1 M Q) : R F.n #[x0, x1] M Q := by
 refine ro Try.func56 ?_
 exact ru (N := 24) (ct := .no)
  [kE Try.f56 Q 1]
  [] [1]
  ⟨er,
  trivial⟩
  h
def cK (x3 x4 x7 x34 x35 x36 : Value) (M : Store) (Q : KP) : Prop :=
 ∀ f : Nat → Value, f 3 = x3 → f 4 = x4 → f 7 = x7 → f 34 = x34 → f 35 = x35 → f 36 = x36 → An Try.f58 [1, 1, 1, 0, 1, 0] 61 f M Q
def ip (x3 x4 x7 x34 x35 x36 : Value) (M : Store) (Q : KP) : Prop :=
 ∀ f : Nat → Value, f 3 = x3 → f 4 = x4 → f 7 = x7 → f 34 = x34 → f 35 = x35 → f 36 = x36 → An Try.f58 [1, 1, 1, 0, 1, 0, 0, 1, 1] 61 f M Q
def iq (x7 : Value) (M : Store) (Q : KP) : Prop :=
 ∀ f : Nat → Value, f 7 = x7 → An Try.f58 [1, 1, 1, 1] 61 f M Q
def bO (x3 x4 x7 x9 x34 x35 x36 x41 x42 x43 : Value) (M : Store) (Q : KP) : Prop :=
 ∀ f : Nat → Value, f 3 = x3 → f 4 = x4 → f 7 = x7 → f 9 = x9 → f 34 = x34 → f 35 = x35 → f 36 = x36 → f 41 = x41 → f 42 = x42 → f 43 = x43 → An Try.f58 [1, 1, 1, 0, 1, 0, 0, 1, 1, 0, 0, 1, 1, 0] 61 f M Q
def ir (x3 x4 x7 x9 x34 x35 x36 x41 x42 x43 : Value) (M : Store) (Q : KP) : Prop :=
 ∀ f : Nat → Value, f 3 = x3 → f 4 = x4 → f 7 = x7 → f 9 = x9 → f 34 = x34 → f 35 = x35 → f 36 = x36 → f 41 = x41 → f 42 = x42 → f 43 = x43 → An Try.f58 [1, 1, 1, 0, 1, 0, 0, 1, 1, 0, 0, 1, 1, 0, 0, 1, 1] 61 f M Q
def ft (x3 x4 x7 x34 x35 x36 : Value) (M : Store) (Q : KP) : Prop :=
 ∀ f : Nat → Value, f 3 = x3 → f 4 = x4 → f 7 = x7 → f 34 = x34 → f 35 = x35 → f 36 = x36 → An Try.f58 [1, 1, 1, 0, 1, 0, 0, 1, 1, 1] 61 f M Q
def q6 (x0 x1 x2 : Value) (M : Store) (Q : KP) : Prop :=
 OP (aJ x0) fun c =>
 LT (.pointer (some ⟨M.n, 0, none⟩)) (M.push (some (.inl (c, Ty.d, true)))) fun t3 M1 =>
 OP (aJ x1) fun c_1 =>
 LT (.pointer (some ⟨M1.n, 0, none⟩)) (M1.push (some (.inl (c_1, Ty.e, true)))) fun t4 M2 =>
 OP (ad .lss x2 (.int .i64 0)) fun t13 =>
 BR t13 (
 NTs [(.slice none 0 0)] ∧ Q (.slice none 0 0) M2
 ) (
 OP (fad 0 t3) fun t16 =>
 OP (ld 1 false t16 M2) fun t17 =>
 OP (lenV t17) fun t18 =>
 OP (ad .geq x2 t18) fun t19 =>
 BR t19 (
 NTs [(.slice none 0 0)] ∧ Q (.slice none 0 0) M2
 ) (
 OP (fad 0 t3) fun t21 =>
 OP (ld 1 false t21 M2) fun t22 =>
 OP (ixA 5 t22 x2) fun t24 =>
 OP (fad 1 t24) fun t25 =>
 OP (ld 1 false t25 M2) fun t26 =>
 OP (fad 0 t3) fun t27 =>
 OP (ld 1 false t27 M2) fun t28 =>
 OP (ixA 5 t28 x2) fun t30 =>
 OP (fad 2 t30) fun t31 =>
 OP (ld 1 false t31 M2) fun t32 =>
 OP (al (.slice none 0 0) 1 2 [(0, t26), (1, t32)]) fun c_2 =>
 LT (.slice (some ⟨M2.n, 0, none⟩) 2 2) (M2.push (some (.inl (c_2, Ty.n, true)))) fun t33 M3 =>
 R F.L #[t33] M3 fun t34 M4 =>
 TDx [0, 1, 0, 7, 15, 31, 0, 64, 0, 448, 960, 1984, 4095, 8191, 16383, 0] [M2.n, M2.n, M2.n, M2.n, M2.n, M2.n, M2.n, M2.n, M2.n, M2.n, M2.n, M2.n, M2.n, M3.n] 13 M3 M4 ∧
 OP (lenV t34) fun t35 =>
 cK t3 t4 (.slice none 0 0) t34 t35 (.int .i64 0) M4 Q
 )
 )
theorem Af (h : q6 x0 x1 x2 M Q) : R F.s #[x0, x1, x2] M Q := by
 refine ro Try.func58 ?_
 exact ru (N := 61) (ct := (.two .no (.two .no (.two .no (.two (.two .no (.two (.here 1000) .no)) (.here 1001))))))
  [⟨1002, fun a M => dfr a.defers (cK (a.get 3) (a.get 4) (a.get 7) (a.get 34) (a.get 35) (a.get 36) M Q), Aa Try.f58 [1, 1, 1, 0, 1, 0] Q⟩,
  ⟨1003, fF, Aa Try.f58 [1, 1, 1, 1] Q⟩,
  kE Try.f58 Q 1]
  [1000, 1001] [1]
  ⟨en fun f M h => h f rfl rfl rfl rfl rfl rfl,
  el,
  er,
  trivial⟩
  h
def iO (x3 x4 x7 x34 x35 x36 : Value) (M : Store) (Q : KP) : Prop :=
 OP (ad .lss x36 x35) fun t37 =>
 BR t37 (
 ip x3 x4 x7 x34 x35 x36 M Q
 ) (
 iq x7 M Q
 )
theorem nR (h : iO x3 x4 x7 x34 x35 x36 M Q) : cK x3 x4 x7 x34 x35 x36 M Q := by
 rintro f rfl rfl rfl rfl rfl rfl
 refine lp ?_
 exact ru (N := 61) (ct := (.two .no (.two .no (.here 1000))))
  [⟨1002, fun a M => dfr a.defers (ip (a.get 3) (a.get 4) (a.get 7) (a.get 34) (a.get 35) (a.get 36) M Q), Aa Try.f58 [1, 1, 1, 0, 1, 0, 0, 1, 1] Q⟩,
  ⟨2, fun a M => dfr a.defers (iq (a.get 7) M Q), Aa Try.f58 [1, 1, 1, 1] Q⟩]
  [1000] [2]
  ⟨en fun f M h => h f rfl rfl rfl rfl rfl rfl,
  en fun f M h => h f rfl,
  trivial⟩
  h
def nF (x3 x4 x7 x34 x35 x36 : Value) (M : Store) (Q : KP) : Prop :=
 OP (ixA 1 x34 x36) fun t38 =>
 OP (ld 1 false t38 M) fun t39 =>
 OP (fad 0 x4) fun t40 =>
 OP (ld 1 false t40 M) fun t41 =>
 OP (lenV t41) fun t42 =>
 bO x3 x4 x7 t39 x34 x35 x36 t41 t42 (.int .i64 0) M Q
theorem xv (h : nF x3 x4 x7 x34 x35 x36 M Q) : ip x3 x4 x7 x34 x35 x36 M Q := by
 rintro f rfl rfl rfl rfl rfl rfl
 exact ru (N := 61) (ct := (.two (.two (.two .no (.two .no (.two (.here 1000) .no))) .no) (.here 1001)))
  [⟨1002, fun a M => dfr a.defers (bO (a.get 3) (a.get 4) (a.get 7) (a.get 9) (a.get 34) (a.get 35) (a.get 36) (a.get 41) (a.get 42) (a.get 43) M Q), Aa Try.f58 [1, 1, 1, 0, 1, 0, 0, 1, 1, 0, 0, 1, 1, 0] Q⟩,
  ⟨1003, fF, Aa Try.f58 [1, 1, 1, 0, 1, 0, 0, 1, 1, 1] Q⟩]
  [1000, 1001] []
  ⟨en fun f M h => h f rfl rfl rfl rfl rfl rfl rfl rfl rfl rfl,
  el,
  trivial⟩
  h
def nG (x7 : Value) (M : Store) (Q : KP) : Prop :=
 NTs [x7] ∧ Q x7 M
theorem xw (h : nG x7 M Q) : iq x7 M Q := by
 rintro f rfl
 exact ru (N := 61) (ct := .no)
  [kE Try.f58 Q 1]
  [] [1]
  ⟨er,
  trivial⟩
  h
def iP (x3 x4 x7 x9 x34 x35 x36 x41 x42 x43 : Value) (M : Store) (Q : KP) : Prop :=
 OP (ad .lss x43 x42) fun t44 =>
 BR t44 (
 ir x3 x4 x7 x9 x34 x35 x36 x41 x42 x43 M Q
 ) (
 ft x3 x4 x7 x34 x35 x36 M Q
 )
theorem nS (h : iP x3 x4 x7 x9 x34 x35 x36 x41 x42 x43 M Q) : bO x3 x4 x7 x9 x34 x35 x36 x41 x42 x43 M Q := by
 rintro f rfl rfl rfl rfl rfl rfl rfl rfl rfl rfl
 refine lp ?_
 exact ru (N := 61) (ct := (.two .no (.two .no (.here 1000))))
  [⟨1002, fun a M => dfr a.defers (ir (a.get 3) (a.get 4) (a.get 7) (a.get 9) (a.get 34) (a.get 35) (a.get 36) (a.get 41) (a.get 42) (a.get 43) M Q), Aa Try.f58 [1, 1, 1, 0, 1, 0, 0, 1, 1, 0, 0, 1, 1, 0, 0, 1, 1] Q⟩,
  ⟨4, fun a M => dfr a.defers (ft (a.get 3) (a.get 4) (a.get 7) (a.get 34) (a.get 35) (a.get 36) M Q), Aa Try.f58 [1, 1, 1, 0, 1, 0, 0, 1, 1, 1] Q⟩]
  [1000] [4]
  ⟨en fun f M h => h f rfl rfl rfl rfl rfl rfl rfl rfl rfl rfl,
  en fun f M h => h f rfl rfl rfl rfl rfl rfl,
  trivial⟩
  h
def nH (x3 x4 x7 x9 x34 x35 x36 x41 x42 x43 : Value) (M : Store) (Q : KP) : Prop :=
 OP (ixA 1 x41 x43) fun t45 =>
 OP (ld 1 false t45 M) fun t46 =>
 OP (ld 2 true x3 M) fun t47 =>
 R F.O #[t47, t46] M fun t49 M1 =>
 R F.w #[t49, x9] M1 fun t51 M2 =>
 BR t51 (
 OP (ld 2 true x4 M2) fun t53 =>
 R F.n #[t53, t46] M2 fun t55 M3 =>
 OP (al (.int .i64 0) 1 1 [(0, t55)]) fun c =>
 LT (.slice (some ⟨M3.n, 0, none⟩) 1 1) (M3.push (some (.inl (c, Ty.b, true)))) fun t56 M4 =>
 OP2 (appV 1 Ty.b x7 t56 M4) fun t57 M5 =>
 OP (ad .add x43 (.int .i64 1)) fun t58 =>
 bO x3 x4 t57 x9 x34 x35 x36 x41 x42 t58 M5 Q
 ) (
 OP (ad .add x43 (.int .i64 1)) fun t58_1 =>
 bO x3 x4 x7 x9 x34 x35 x36 x41 x42 t58_1 M2 Q
 )
theorem xx (h : nH x3 x4 x7 x9 x34 x35 x36 x41 x42 x43 M Q) : ir x3 x4 x7 x9 x34 x35 x36 x41 x42 x43 M Q := by
 rintro f rfl rfl rfl rfl rfl rfl rfl rfl rfl rfl
 exact ru (N := 61) (ct := .no)
  [⟨0, fun a M => dfr a.defers (bO (a.get 3) (a.get 4) (a.get 7) (a.get 9) (a.get 34) (a.get 35) (a.get 36) (a.get 41) (a.get 42) (a.get 43) M Q), Aa Try.f58 [1, 1, 1, 0, 1, 0, 0, 1, 1, 0, 0, 1, 1, 0] Q⟩]
  [] [0]
  ⟨en fun f M h => h f rfl rfl rfl rfl rfl rfl rfl rfl rfl rfl,
  trivial⟩
  h
def nI (x3 x4 x7 x34 x35 x36 : Value) (M : Store) (Q : KP) : Prop :=
 OP (ad .add x36 (.int .i64 1)) fun t59 =>
 cK x3 x4 x7 x34 x35 t59 M Q
theorem xy (h : nI x3 x4 x7 x34 x35 x36 M Q) : ft x3 x4 x7 x34 x35 x36 M Q := by
 rintro f rfl rfl rfl rfl rfl rfl
 exact ru (N := 61) (ct := .no)
  [⟨0, fun a M => dfr a.defers (cK (a.get 3) (a.get 4) (a.get 7) (a.get 34) (a.get 35) (a.get 36) M Q), Aa Try.f58 [1, 1, 1, 0, 1, 0] Q⟩]
  [] [0]
  ⟨en fun f M h => h f rfl rfl rfl rfl rfl rfl,
  trivial⟩
  h
def eo (x1 x2 x5 : Value) (M : Store) (Q : KP) : Prop :=
 ∀ f : Nat → Value, f 1 = x1 → f 2 = x2 → f 5 = x5 → An Try.f59 [1, 0, 1, 0] 32 f M Q
def ma (x1 x2 x5 : Value) (M : Store) (Q : KP) : Prop :=
 ∀ f : Nat → Value, f 1 = x1 → f 2 = x2 → f 5 = x5 → An Try.f59 [1, 0, 1, 0, 0, 1] 32 f M Q
def mc (M : Store) (Q : KP) : Prop :=
 ∀ f : Nat → Value, An Try.f59 [1, 1] 32 f M Q
def wX (x0 x1 : Value) (M : Store) (Q : KP) : Prop :=
 OP (aJ x0) fun c =>
 LT (.pointer (some ⟨M.n, 0, none⟩)) (M.push (some (.inl (c, Ty.e, true)))) fun t2 M1 =>
 eo x1 t2 (.int .i64 0) M1 Q
theorem EO (h : wX x0 x1 M Q) : R F.c1 #[x0, x1] M Q := by
 refine ro Try.func59 ?_
 exact ru (N := 32) (ct := (.two .no (.two (.two .no (.two (.here 1000) .no)) (.here 1001))))
  [⟨1002, fun a M => dfr a.defers (eo (a.get 1) (a.get 2) (a.get 5) M Q), Aa Try.f59 [1, 0, 1, 0] Q⟩,
  ⟨1003, fF, Aa Try.f59 [1, 1] Q⟩]
  [1000, 1001] []
  ⟨en fun f M h => h f rfl rfl rfl,
  el,
  trivial⟩
  h
def mJ (x1 x2 x5 : Value) (M : Store) (Q : KP) : Prop :=
 OP (fad 0 x2) fun t7 =>
 OP (ld 1 false t7 M) fun t8 =>
 OP (lenV t8) fun t9 =>
 OP (ad .lss x5 t9) fun t10 =>
 BR t10 (
 OP (fad 1 x2) fun t13 =>
 OP (ld 1 false t13 M) fun t14 =>
 OP (lenV t14) fun t15 =>
 OP (ad .lss x5 t15) fun t16 =>
 BR t16 (
 ma x1 x2 x5 M Q
 ) (
 mc M Q
 )
 ) (
 mc M Q
 )
theorem tx (h : mJ x1 x2 x5 M Q) : eo x1 x2 x5 M Q := by
 rintro f rfl rfl rfl
 refine lp ?_
 exact ru (N := 32) (ct := (.two .no (.here 1000)))
  [⟨1002, fun a M => dfr a.defers (ma (a.get 1) (a.get 2) (a.get 5) M Q), Aa Try.f59 [1, 0, 1, 0, 0, 1] Q⟩,
  ⟨2, fun a M => dfr a.defers (mc M Q), Aa Try.f59 [1, 1] Q⟩]
  [1000] [2]
  ⟨en fun f M h => h f rfl rfl rfl,
  en fun f M h => h f,
  trivial⟩
  h
def mK (x1 x2 x5 : Value) (M : Store) (Q : KP) : Prop :=
 OP (fad 0 x2) fun t20 =>
 OP (ld 1 false t20 M) fun t21 =>
 OP (ixA 1 t21 x5) fun t23 =>
 OP (ld 1 false t23 M) fun t24 =>
 OP (ad .eql t24 x1) fun t26 =>
 BR t26 (
 OP (fad 1 x2) fun t27 =>
 OP (ld 1 false t27 M) fun t28 =>
 OP (ixA 1 t28 x5) fun t30 =>
 OP (ld 1 false t30 M) fun t31 =>
 NTs [t31] ∧ Q t31 M
 ) (
 OP (ad .add x5 (.int .i64 1)) fun t19 =>
 eo x1 x2 t19 M Q
 )
theorem tz (h : mK x1 x2 x5 M Q) : ma x1 x2 x5 M Q := by
 rintro f rfl rfl rfl
 exact ru (N := 32) (ct := .no)
  [⟨0, fun a M => dfr a.defers (eo (a.get 1) (a.get 2) (a.get 5) M Q), Aa Try.f59 [1, 0, 1, 0] Q⟩,
  kE Try.f59 Q 1]
  [] [0, 1]
  ⟨en fun f M h => h f rfl rfl rfl,
  er,
  trivial⟩
  h
def nD (x0 : Value) (M : Store) (Q : KP) : Prop :=
 OP (ad .eql x0 (.int .i64 3)) fun t4 =>
 BR t4 (
 NTs [(.bool true)] ∧ Q (.bool true) M
 ) (
 OP (ad .eql x0 (.int .i64 4)) fun t7 =>
 NTs [t7] ∧ Q t7 M
 )
theorem xu (h : nD x0 M Q) : R F.m #[x0] M Q := by
 refine ro Try.func75 ?_
 exact ru (N := 9) (ct := .no)
  [kE Try.f75 Q 1]
  [] [1]
  ⟨er,
  trivial⟩
  h
def uO (x0 x1 : Value) (M : Store) (Q : KP) : Prop :=
 OP (aJ x0) fun c =>
 LT (.pointer (some ⟨M.n, 0, none⟩)) (M.push (some (.inl (c, Ty.d, true)))) fun t2 M1 =>
 OP (ad .lss x1 (.int .i64 0)) fun t6 =>
 BR t6 (
 NTs [(.slice none 0 0)] ∧ Q (.slice none 0 0) M1
 ) (
 OP (fad 0 t2) fun t9 =>
 OP (ld 1 false t9 M1) fun t10 =>
 OP (lenV t10) fun t11 =>
 OP (ad .geq x1 t11) fun t12 =>
 BR t12 (
 NTs [(.slice none 0 0)] ∧ Q (.slice none 0 0) M1
 ) (
 OP (fad 0 t2) fun t14 =>
 OP (ld 1 false t14 M1) fun t15 =>
 OP (ixA 5 t15 x1) fun t17 =>
 OP (fad 0 t17) fun t18 =>
 OP (ld 1 false t18 M1) fun t19 =>
 NTs [t19] ∧ Q t19 M1
 )
 )
theorem CP (h : uO x0 x1 M Q) : R F.O #[x0, x1] M Q := by
 refine ro Try.func77 ?_
 exact ru (N := 20) (ct := .no)
  [kE Try.f77 Q 1]
  [] [1]
  ⟨er,
  trivial⟩
  h
end Go.G
