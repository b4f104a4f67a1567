/-  -/
import Derived.Test.YtnonfejhkbaikaaPGN
open Go.RowKit
namespace Go.G
open Go.Ab Go.Proofs
set_option linter.unusedVariables false
set_option maxRecDepth 100000
variable {x0 x1 x2 x3 x4 x5 x7 x8 x9 x10 x11 x12 x13 x34 x35 x36 x41 x42 x43 : Value} {M : Store} {Q : KP}
def dS (x4 x5 x12 x13 : Value) (M : Store) (Q : KP) : Prop :=
 ∀ f : Nat → Value, f 4 = x4 → f 5 = x5 → f 12 = x12 → f 13 = x13 → An Try.f29 [1, 1, 0, 1, 0] 22 f M Q
def k8 (x4 x5 x12 x13 : Value) (M : Store) (Q : KP) : Prop :=
 ∀ f : Nat → Value, f 4 = x4 → f 5 = x5 → f 12 = x12 → f 13 = x13 → An Try.f29 [1, 1, 0, 1, 0, 0, 1, 1] 22 f M Q
def k9 (x4 x5 : Value) (M : Store) (Q : KP) : Prop :=
 ∀ f : Nat → Value, f 4 = x4 → f 5 = x5 → An Try.f29 [1, 1, 1] 22 f M Q
def vf (x0 x1 : Value) (M : Store) (Q : KP) : Prop :=
 OP (aX x0) fun c =>
 LT (.pointer (some ⟨M.n, 0, none⟩)) (M.push (some (.inl (c, Ty.d, true)))) fun t2 M1 =>
 LT (.pointer (some ⟨M1.n, 0, none⟩)) (M1.push (some (.inl ([(.slice none 0 0), (.slice none 0 0)], Ty.n, true)))) fun t4 M2 =>
 OP (ld 2 true t2 M2) fun t6 =>
 R F.w #[t6, x1] M2 fun t8 M3 =>
 OP (bB #[(.slice none 0 0), (.slice none 0 0)] [(0, 1), (1, 1)] [(0, t8)]) fun t9 =>
 LT (.pointer (some ⟨M3.n, 0, none⟩)) (M3.push (some (.inl ([(.slice none 0 0), (.slice none 0 0)], Ty.n, true)))) fun t5 M4 =>
 OP (st 2 t5 t9 M4) fun M5 =>
 OP (fad 0 t5) fun t10 =>
 OP (ld 1 false t10 M5) fun t11 =>
 OP (lenV t11) fun t12 =>
 dS t4 t5 t12 (.int .i64 0) M5 Q
theorem CK (h : vf x0 x1 M Q) : R F.R #[x0, x1] M Q := by
 refine ro Try.func29 ?_
 exact ru (N := 22) (ct := (.two .no (.two .no (.two (.two .no (.two (.here 1000) .no)) (.here 1001)))))
  [⟨1002, fun a M => dfr a.defers (dS (a.get 4) (a.get 5) (a.get 12) (a.get 13) M Q), Aa Try.f29 [1, 1, 0, 1, 0] Q⟩,
  ⟨1003, fF, Aa Try.f29 [1, 1, 1] Q⟩]
  [1000, 1001] []
  ⟨en fun f M h => h f rfl rfl rfl rfl,
  el,
  trivial⟩
  h
def lH (x4 x5 x12 x13 : Value) (M : Store) (Q : KP) : Prop :=
 OP (ad .lss x13 x12) fun t14 =>
 BR t14 (
 k8 x4 x5 x12 x13 M Q
 ) (
 k9 x4 x5 M Q
 )
theorem rM (h : lH x4 x5 x12 x13 M Q) : dS x4 x5 x12 x13 M Q := by
 rintro f rfl rfl rfl rfl
 refine lp ?_
 exact ru (N := 22) (ct := (.two .no (.two .no (.here 1000))))
  [⟨1002, fun a M => dfr a.defers (k8 (a.get 4) (a.get 5) (a.get 12) (a.get 13) M Q), Aa Try.f29 [1, 1, 0, 1, 0, 0, 1, 1] Q⟩,
  ⟨2, fun a M => dfr a.defers (k9 (a.get 4) (a.get 5) M Q), Aa Try.f29 [1, 1, 1] Q⟩]
  [1000] [2]
  ⟨en fun f M h => h f rfl rfl rfl rfl,
  en fun f M h => h f rfl rfl,
  trivial⟩
  h
def qL (x4 x5 x12 x13 : Value) (M : Store) (Q : KP) : Prop :=
 OP (fad 1 x5) fun t15 =>
 OP (ld 1 false t15 M) fun t16 =>
 OP (al (.int .i64 0) 1 1 [(0, (.int .i64 1))]) fun c =>
 LT (.slice (some ⟨M.n, 0, none⟩) 1 1) (M.push (some (.inl (c, Ty.b, true)))) fun t17 M1 =>
 OP2 (appV 1 Ty.b t16 t17 M1) fun t18 M2 =>
 OP (fad 1 x5) fun t19 =>
 OP (st 1 t19 t18 M2) fun M3 =>
 OP (ad .add x13 (.int .i64 1)) fun t20 =>
 dS x4 x5 x12 t20 M3 Q
theorem zy (h : qL x4 x5 x12 x13 M Q) : k8 x4 x5 x12 x13 M Q := by
 rintro f rfl rfl rfl rfl
 exact ru (N := 22) (ct := .no)
  [⟨0, fun a M => dfr a.defers (dS (a.get 4) (a.get 5) (a.get 12) (a.get 13) M Q), Aa Try.f29 [1, 1, 0, 1, 0] Q⟩]
  [] [0]
  ⟨en fun f M h => h f rfl rfl rfl rfl,
  trivial⟩
  h
def qM (x4 x5 : Value) (M : Store) (Q : KP) : Prop :=
 OP (ld 2 true x5 M) fun t21 =>
 OP (st 2 x4 t21 M) fun M1 =>
 OP (ld 2 true x4 M1) fun r4 =>
 NTs [r4] ∧ Q r4 M1
theorem zz (h : qM x4 x5 M Q) : k9 x4 x5 M Q := by
 rintro f rfl rfl
 exact ru (N := 22) (ct := .no)
  [kE Try.f29 Q 1]
  [] [1]
  ⟨er,
  trivial⟩
  h
def dT (x3 x4 x5 x8 : Value) (M : Store) (Q : KP) : Prop :=
 ∀ f : Nat → Value, f 3 = x3 → f 4 = x4 → f 5 = x5 → f 8 = x8 → An Try.f31 [1, 1, 1, 1, 1, 0, 0] 44 f M Q
def fq (x5 x8 : Value) (M : Store) (Q : KP) : Prop :=
 ∀ f : Nat → Value, f 5 = x5 → f 8 = x8 → An Try.f31 [1, 1, 1, 1, 1, 1] 44 f M Q
def vg (x0 x1 x2 x3 : Value) (M : Store) (Q : KP) : Prop :=
 OP (aX x0) fun c =>
 LT (.pointer (some ⟨M.n, 0, none⟩)) (M.push (some (.inl (c, Ty.d, true)))) fun t4 M1 =>
 OP (aX x1) fun c_1 =>
 LT (.pointer (some ⟨M1.n, 0, none⟩)) (M1.push (some (.inl (c_1, Ty.n, true)))) fun t5 M2 =>
 LT (.pointer (some ⟨M2.n, 0, none⟩)) (M2.push (some (.inl ([(.slice none 0 0), (.slice none 0 0)], Ty.n, true)))) fun t8 M3 =>
 OP (fad 0 t5) fun t10 =>
 OP (ld 1 false t10 M3) fun t11 =>
 R F.B #[t11] M3 fun t12 M4 =>
 TDj [0, 1] [M3.n, M3.n, M3.n] M3 M4 ∧
 OP (fad 1 t5) fun t13 =>
 OP (ld 1 false t13 M4) fun t14 =>
 R F.B #[t14] M4 fun t15 M5 =>
 TDx [0, 1, 3, 0, 8, 31, 63, 127] [M3.n, M3.n, M3.n, M4.n, M4.n, M4.n] 5 M4 M5 ∧
 OP (bB #[(.slice none 0 0), (.slice none 0 0)] [(0, 1), (1, 1)] [(0, t12), (1, t15)]) fun t16 =>
 OP (st 2 t5 t16 M5) fun M6 =>
 TDx [0, 1, 3, 0, 8, 31, 63, 127] [M3.n, M3.n, M3.n, M4.n, M4.n, M4.n, M5.n, M5.n] 7 M5 M6 ∧
 OP (fad 0 t5) fun t17 =>
 OP (ld 1 false t17 M6) fun t18 =>
 R F.C #[t18, x2] M6 fun t20 M7 =>
 OP (ad .lss t20 (.int .i64 0)) fun t22 =>
 BR t22 (
 OP (ld 2 true t5 M7) fun t30 =>
 OP (st 2 t8 t30 M7) fun M8 =>
 OP (ld 2 true t8 M8) fun r8 =>
 NTs [r8] ∧ Q r8 M8
 ) (
 OP (fad 1 t5) fun t25 =>
 OP (ld 1 false t25 M7) fun t26 =>
 OP (lenV t26) fun t27 =>
 OP (ad .geq t20 t27) fun t28 =>
 BR t28 (
 OP (ld 2 true t5 M7) fun t30_1 =>
 OP (st 2 t8 t30_1 M7) fun M9 =>
 OP (ld 2 true t8 M9) fun r8_1 =>
 NTs [r8_1] ∧ Q r8_1 M9
 ) (
 OP (fad 1 t5) fun t31 =>
 OP (ld 1 false t31 M7) fun t32 =>
 OP (ixA 1 t32 t20) fun t35 =>
 OP (st 1 t35 x3 M7) fun M10 =>
 dT x3 t4 t5 t8 M10 Q
 )
 )
theorem CL (h : vg x0 x1 x2 x3 M Q) : R F.S #[x0, x1, x2, x3] M Q := by
 refine ro Try.func31 ?_
 exact ru (N := 44) (ct := (.two .no (.two .no (.two .no (.two .no (.two .no (.two (.two (.here 1000) .no) (.here 1001))))))))
  [⟨1002, fun a M => dfr a.defers (dT (a.get 3) (a.get 4) (a.get 5) (a.get 8) M Q), Aa Try.f31 [1, 1, 1, 1, 1, 0, 0] Q⟩,
  ⟨1003, fF, Aa Try.f31 [1, 1, 1, 1, 1, 1] Q⟩,
  kE Try.f31 Q 1]
  [1000, 1001] [1]
  ⟨en fun f M h => h f rfl rfl rfl rfl,
  el,
  er,
  trivial⟩
  h
def lI (x3 x4 x5 x8 : Value) (M : Store) (Q : KP) : Prop :=
 OP (ad .eql x3 (.int .i64 3)) fun t37 =>
 BR t37 (
 OP (ld 2 true x4 M) fun t39 =>
 OP (ld 2 true x5 M) fun t40 =>
 R F.Z #[t39, t40] M fun t41 M1 =>
 BR t41 (
 dT x3 x4 x5 x8 M1 Q
 ) (
 fq x5 x8 M1 Q
 )
 ) (
 fq x5 x8 M Q
 )
theorem rN (h : lI x3 x4 x5 x8 M Q) : dT x3 x4 x5 x8 M Q := by
 rintro f rfl rfl rfl rfl
 refine lp ?_
 exact ru (N := 44) (ct := .no)
  [⟨0, fun a M => dfr a.defers (dT (a.get 3) (a.get 4) (a.get 5) (a.get 8) M Q), Aa Try.f31 [1, 1, 1, 1, 1, 0, 0] Q⟩,
  ⟨2, fun a M => dfr a.defers (fq (a.get 5) (a.get 8) M Q), Aa Try.f31 [1, 1, 1, 1, 1, 1] Q⟩]
  [] [0, 2]
  ⟨en fun f M h => h f rfl rfl rfl rfl,
  en fun f M h => h f rfl rfl,
  trivial⟩
  h
def lJ (x5 x8 : Value) (M : Store) (Q : KP) : Prop :=
 OP (ld 2 true x5 M) fun t43 =>
 OP (st 2 x8 t43 M) fun M1 =>
 OP (ld 2 true x8 M1) fun r8 =>
 NTs [r8] ∧ Q r8 M1
theorem rO (h : lJ x5 x8 M Q) : fq x5 x8 M Q := by
 rintro f rfl rfl
 exact ru (N := 44) (ct := .no)
  [kE Try.f31 Q 1]
  [] [1]
  ⟨er,
  trivial⟩
  h
def bi (x2 x3 x5 x10 x11 x12 : Value) (M : Store) (Q : KP) : Prop :=
 ∀ f : Nat → Value, f 2 = x2 → f 3 = x3 → f 5 = x5 → f 10 = x10 → f 11 = x11 → f 12 = x12 → An Try.f32 [1, 1, 0, 1, 0] 35 f M Q
def iX (x2 x3 x5 x10 x11 x12 : Value) (M : Store) (Q : KP) : Prop :=
 ∀ f : Nat → Value, f 2 = x2 → f 3 = x3 → f 5 = x5 → f 10 = x10 → f 11 = x11 → f 12 = x12 → An Try.f32 [1, 1, 0, 1, 0, 0, 1, 1] 35 f M Q
def iY (x5 : Value) (M : Store) (Q : KP) : Prop :=
 ∀ f : Nat → Value, f 5 = x5 → An Try.f32 [1, 1, 1] 35 f M Q
def qN (x0 x1 : Value) (M : Store) (Q : KP) : Prop :=
 OP (aX x0) fun c =>
 LT (.pointer (some ⟨M.n, 0, none⟩)) (M.push (some (.inl (c, Ty.d, true)))) fun t2 M1 =>
 OP (aX x1) fun c_1 =>
 LT (.pointer (some ⟨M1.n, 0, none⟩)) (M1.push (some (.inl (c_1, Ty.n, true)))) fun t3 M2 =>
 OP (fad 0 t3) fun t9 =>
 OP (ld 1 false t9 M2) fun t10 =>
 OP (lenV t10) fun t11 =>
 bi t2 t3 (.slice none 0 0) t10 t11 (.int .i64 0) M2 Q
theorem zA (h : qN x0 x1 M Q) : R F.F #[x0, x1] M Q := by
 refine ro Try.func32 ?_
 exact ru (N := 35) (ct := (.two .no (.two .no (.two (.two .no (.two (.here 1000) .no)) (.here 1001)))))
  [⟨1002, fun a M => dfr a.defers (bi (a.get 2) (a.get 3) (a.get 5) (a.get 10) (a.get 11) (a.get 12) M Q), Aa Try.f32 [1, 1, 0, 1, 0] Q⟩,
  ⟨1003, fF, Aa Try.f32 [1, 1, 1] Q⟩]
  [1000, 1001] []
  ⟨en fun f M h => h f rfl rfl rfl rfl rfl rfl,
  el,
  trivial⟩
  h
def i4 (x2 x3 x5 x10 x11 x12 : Value) (M : Store) (Q : KP) : Prop :=
 OP (ad .lss x12 x11) fun t13 =>
 BR t13 (
 iX x2 x3 x5 x10 x11 x12 M Q
 ) (
 iY x5 M Q
 )
theorem oD (h : i4 x2 x3 x5 x10 x11 x12 M Q) : bi x2 x3 x5 x10 x11 x12 M Q := by
 rintro f rfl rfl rfl rfl rfl rfl
 refine lp ?_
 exact ru (N := 35) (ct := (.two .no (.two .no (.here 1000))))
  [⟨1002, fun a M => dfr a.defers (iX (a.get 2) (a.get 3) (a.get 5) (a.get 10) (a.get 11) (a.get 12) M Q), Aa Try.f32 [1, 1, 0, 1, 0, 0, 1, 1] Q⟩,
  ⟨2, fun a M => dfr a.defers (iY (a.get 5) M Q), Aa Try.f32 [1, 1, 1] Q⟩]
  [1000] [2]
  ⟨en fun f M h => h f rfl rfl rfl rfl rfl rfl,
  en fun f M h => h f rfl,
  trivial⟩
  h
def ol (x2 x3 x5 x10 x11 x12 : Value) (M : Store) (Q : KP) : Prop :=
 OP (ixA 1 x10 x12) fun t14 =>
 OP (ld 1 false t14 M) fun t15 =>
 OP (ld 2 true x3 M) fun t16 =>
 R F.n #[t16, t15] M fun t18 M1 =>
 OP (ad .eql t18 (.int .i64 1)) fun t19 =>
 BR t19 (
 OP (ld 2 true x2 M1) fun t21 =>
 OP (ld 2 true x3 M1) fun t22 =>
 R F.s #[t21, t22, t15] M1 fun t24 M2 =>
 R F.h #[t24, (.func (.func F.k) #[] #[])] M2 fun t26 M3 =>
 OP (aun .not t26) fun t27 =>
 BR t27 (
 OP (al (.int .i64 0) 1 1 [(0, t15)]) fun c =>
 LT (.slice (some ⟨M3.n, 0, none⟩) 1 1) (M3.push (some (.inl (c, Ty.b, true)))) fun t31 M4 =>
 OP2 (appV 1 Ty.b x5 t31 M4) fun t32 M5 =>
 OP (ad .add x12 (.int .i64 1)) fun t33 =>
 bi x2 x3 t32 x10 x11 t33 M5 Q
 ) (
 OP (ad .add x12 (.int .i64 1)) fun t33_1 =>
 bi x2 x3 x5 x10 x11 t33_1 M3 Q
 )
 ) (
 OP (ad .add x12 (.int .i64 1)) fun t33_2 =>
 bi x2 x3 x5 x10 x11 t33_2 M1 Q
 )
theorem xg (h : ol x2 x3 x5 x10 x11 x12 M Q) : iX x2 x3 x5 x10 x11 x12 M Q := by
 rintro f rfl rfl rfl rfl rfl rfl
 exact ru (N := 35) (ct := .no)
  [⟨0, fun a M => dfr a.defers (bi (a.get 2) (a.get 3) (a.get 5) (a.get 10) (a.get 11) (a.get 12) M Q), Aa Try.f32 [1, 1, 0, 1, 0] Q⟩]
  [] [0]
  ⟨en fun f M h => h f rfl rfl rfl rfl rfl rfl,
  trivial⟩
  h
def om (x5 : Value) (M : Store) (Q : KP) : Prop :=
 NTs [x5] ∧ Q x5 M
theorem xh (h : om x5 M Q) : iY x5 M Q := by
 rintro f rfl
 exact ru (N := 35) (ct := .no)
  [kE Try.f32 Q 1]
  [] [1]
  ⟨er,
  trivial⟩
  h
def eQ (x0 x1 x7 x8 : Value) (M : Store) (Q : KP) : Prop :=
 ∀ f : Nat → Value, f 0 = x0 → f 1 = x1 → f 7 = x7 → f 8 = x8 → An Try.f53 [1, 0, 1, 0] 19 f M Q
def nG (M : Store) (Q : KP) : Prop :=
 ∀ f : Nat → Value, An Try.f53 [1, 1] 19 f M Q
def xV (x0 x1 : Value) (M : Store) (Q : KP) : Prop :=
 OP (lenV x0) fun t7 =>
 eQ x0 x1 t7 (.int .i64 0) M Q
theorem EF (h : xV x0 x1 M Q) : R F.C #[x0, x1] M Q := by
 refine ro Try.func53 ?_
 exact ru (N := 19) (ct := (.two .no (.two (.two .no (.two (.here 1000) .no)) (.here 1001))))
  [⟨1002, fun a M => dfr a.defers (eQ (a.get 0) (a.get 1) (a.get 7) (a.get 8) M Q), Aa Try.f53 [1, 0, 1, 0] Q⟩,
  ⟨1003, fF, Aa Try.f53 [1, 1] Q⟩]
  [1000, 1001] []
  ⟨en fun f M h => h f rfl rfl rfl rfl,
  el,
  trivial⟩
  h
def nM (x0 x1 x7 x8 : Value) (M : Store) (Q : KP) : Prop :=
 OP (ad .lss x8 x7) fun t9 =>
 BR t9 (
 OP (ixA 1 x0 x8) fun t14 =>
 OP (ld 1 false t14 M) fun t15 =>
 OP (ad .eql x1 t15) fun t16 =>
 BR t16 (
 NTs [x8] ∧ Q x8 M
 ) (
 OP (ad .add x8 (.int .i64 1)) fun t18 =>
 eQ x0 x1 x7 t18 M Q
 )
 ) (
 nG M Q
 )
theorem tW (h : nM x0 x1 x7 x8 M Q) : eQ x0 x1 x7 x8 M Q := by
 rintro f rfl rfl rfl rfl
 refine lp ?_
 exact ru (N := 19) (ct := .no)
  [⟨0, fun a M => dfr a.defers (eQ (a.get 0) (a.get 1) (a.get 7) (a.get 8) M Q), Aa Try.f53 [1, 0, 1, 0] Q⟩,
  kE Try.f53 Q 1,
  ⟨2, fun a M => dfr a.defers (nG M Q), Aa Try.f53 [1, 1] Q⟩]
  [] [0, 1, 2]
  ⟨en fun f M h => h f rfl rfl rfl rfl,
  er,
  en fun f M h => h f,
  trivial⟩
  h
def tQ (M : Store) (Q : KP) : Prop :=
 NTs [(.int .i64 (-1))] ∧ Q (.int .i64 (-1)) M
theorem Bv (h : tQ M Q) : nG M Q := by
 intro f 
 exact ru (N := 19) (ct := .no)
  [kE Try.f53 Q 1]
  [] [1]
  ⟨er,
  trivial⟩
  h
def bj (x2 x3 x5 x10 x11 x12 : Value) (M : Store) (Q : KP) : Prop :=
 ∀ f : Nat → Value, f 2 = x2 → f 3 = x3 → f 5 = x5 → f 10 = x10 → f 11 = x11 → f 12 = x12 → An Try.f54 [1, 1, 0, 1, 0] 35 f M Q
def iZ (x2 x3 x5 x10 x11 x12 : Value) (M : Store) (Q : KP) : Prop :=
 ∀ f : Nat → Value, f 2 = x2 → f 3 = x3 → f 5 = x5 → f 10 = x10 → f 11 = x11 → f 12 = x12 → An Try.f54 [1, 1, 0, 1, 0, 0, 1, 1] 35 f M Q
def i1 (x5 : Value) (M : Store) (Q : KP) : Prop :=
 ∀ f : Nat → Value, f 5 = x5 → An Try.f54 [1, 1, 1] 35 f M Q
def qO (x0 x1 : Value) (M : Store) (Q : KP) : Prop :=
 OP (aX x0) fun c =>
 LT (.pointer (some ⟨M.n, 0, none⟩)) (M.push (some (.inl (c, Ty.d, true)))) fun t2 M1 =>
 OP (aX x1) fun c_1 =>
 LT (.pointer (some ⟨M1.n, 0, none⟩)) (M1.push (some (.inl (c_1, Ty.n, true)))) fun t3 M2 =>
 OP (fad 0 t3) fun t9 =>
 OP (ld 1 false t9 M2) fun t10 =>
 OP (lenV t10) fun t11 =>
 bj t2 t3 (.bool false) t10 t11 (.int .i64 0) M2 Q
theorem zB (h : qO x0 x1 M Q) : R F.Z #[x0, x1] M Q := by
 refine ro Try.func54 ?_
 exact ru (N := 35) (ct := (.two .no (.two .no (.two (.two .no (.two (.here 1000) .no)) (.here 1001)))))
  [⟨1002, fun a M => dfr a.defers (bj (a.get 2) (a.get 3) (a.get 5) (a.get 10) (a.get 11) (a.get 12) M Q), Aa Try.f54 [1, 1, 0, 1, 0] Q⟩,
  ⟨1003, fF, Aa Try.f54 [1, 1, 1] Q⟩]
  [1000, 1001] []
  ⟨en fun f M h => h f rfl rfl rfl rfl rfl rfl,
  el,
  trivial⟩
  h
def i5 (x2 x3 x5 x10 x11 x12 : Value) (M : Store) (Q : KP) : Prop :=
 OP (ad .lss x12 x11) fun t13 =>
 BR t13 (
 iZ x2 x3 x5 x10 x11 x12 M Q
 ) (
 i1 x5 M Q
 )
theorem oE (h : i5 x2 x3 x5 x10 x11 x12 M Q) : bj x2 x3 x5 x10 x11 x12 M Q := by
 rintro f rfl rfl rfl rfl rfl rfl
 refine lp ?_
 exact ru (N := 35) (ct := (.two .no (.two .no (.here 1000))))
  [⟨1002, fun a M => dfr a.defers (iZ (a.get 2) (a.get 3) (a.get 5) (a.get 10) (a.get 11) (a.get 12) M Q), Aa Try.f54 [1, 1, 0, 1, 0, 0, 1, 1] Q⟩,
  ⟨2, fun a M => dfr a.defers (i1 (a.get 5) M Q), Aa Try.f54 [1, 1, 1] Q⟩]
  [1000] [2]
  ⟨en fun f M h => h f rfl rfl rfl rfl rfl rfl,
  en fun f M h => h f rfl,
  trivial⟩
  h
def oo (x2 x3 x5 x10 x11 x12 : Value) (M : Store) (Q : KP) : Prop :=
 OP (ixA 1 x10 x12) fun t15 =>
 OP (ld 1 false t15 M) fun t16 =>
 OP (ld 2 true x3 M) fun t17 =>
 R F.n #[t17, t16] M fun t19 M1 =>
 OP (ad .eql t19 (.int .i64 1)) fun t20 =>
 BR t20 (
 OP (ld 2 true x2 M1) fun t22 =>
 OP (ld 2 true x3 M1) fun t23 =>
 R F.s #[t22, t23, t16] M1 fun t25 M2 =>
 R F.h #[t25, (.func (.func F.l) #[] #[])] M2 fun t27 M3 =>
 BR t27 (
 OP (fad 1 x3) fun t29 =>
 OP (ld 1 false t29 M3) fun t30 =>
 OP (ixA 1 t30 x12) fun t32 =>
 OP (st 1 t32 (.int .i64 4) M3) fun M4 =>
 OP (ad .add x12 (.int .i64 1)) fun t33 =>
 bj x2 x3 (.bool true) x10 x11 t33 M4 Q
 ) (
 OP (ad .add x12 (.int .i64 1)) fun t33_1 =>
 bj x2 x3 x5 x10 x11 t33_1 M3 Q
 )
 ) (
 OP (ad .add x12 (.int .i64 1)) fun t33_2 =>
 bj x2 x3 x5 x10 x11 t33_2 M1 Q
 )
theorem xi (h : oo x2 x3 x5 x10 x11 x12 M Q) : iZ x2 x3 x5 x10 x11 x12 M Q := by
 rintro f rfl rfl rfl rfl rfl rfl
 exact ru (N := 35) (ct := .no)
  [⟨0, fun a M => dfr a.defers (bj (a.get 2) (a.get 3) (a.get 5) (a.get 10) (a.get 11) (a.get 12) M Q), Aa Try.f54 [1, 1, 0, 1, 0] Q⟩]
  [] [0]
  ⟨en fun f M h => h f rfl rfl rfl rfl rfl rfl,
  trivial⟩
  h
def oq (x5 : Value) (M : Store) (Q : KP) : Prop :=
 NTs [x5] ∧ Q x5 M
theorem xj (h : oq x5 M Q) : i1 x5 M Q := by
 rintro f rfl
 exact ru (N := 35) (ct := .no)
  [kE Try.f54 Q 1]
  [] [1]
  ⟨er,
  trivial⟩
  h
def mL (x0 : Value) (M : Store) (Q : KP) : Prop :=
 OP (ad .neq x0 (.int .i64 0)) fun t4 =>
 BR t4 (
 OP (ad .neq x0 (.int .i64 2)) fun t7 =>
 NTs [t7] ∧ Q t7 M
 ) (
 NTs [(.bool false)] ∧ Q (.bool false) M
 )
theorem vU (h : mL x0 M Q) : R F.k #[x0] M Q := by
 refine ro Try.func55 ?_
 exact ru (N := 9) (ct := .no)
  [kE Try.f55 Q 1]
  [] [1]
  ⟨er,
  trivial⟩
  h
def qP (x0 x1 : Value) (M : Store) (Q : KP) : Prop :=
 OP (aX x0) fun c =>
 LT (.pointer (some ⟨M.n, 0, none⟩)) (M.push (some (.inl (c, Ty.n, true)))) fun t2 M1 =>
 OP (fad 0 t2) fun t6 =>
 OP (ld 1 false t6 M1) fun t7 =>
 R F.C #[t7, x1] M1 fun t9 M2 =>
 OP (ad .lss t9 (.int .i64 0)) fun t11 =>
 BR t11 (
 NTs [(.int .i64 0)] ∧ Q (.int .i64 0) M2
 ) (
 OP (fad 1 t2) fun t14 =>
 OP (ld 1 false t14 M2) fun t15 =>
 OP (lenV t15) fun t16 =>
 OP (ad .geq t9 t16) fun t17 =>
 BR t17 (
 NTs [(.int .i64 0)] ∧ Q (.int .i64 0) M2
 ) (
 OP (fad 1 t2) fun t19 =>
 OP (ld 1 false t19 M2) fun t20 =>
 OP (ixA 1 t20 t9) fun t22 =>
 OP (ld 1 false t22 M2) fun t23 =>
 NTs [t23] ∧ Q t23 M2
 )
 )
theorem zC (h : qP x0 x1 M Q) : R F.n #[x0, x1] M Q := by
 refine ro Try.func56 ?_
 exact ru (N := 24) (ct := .no)
  [kE Try.f56 Q 1]
  [] [1]
  ⟨er,
  trivial⟩
  h
def cH (x3 x4 x7 x34 x35 x36 : Value) (M : Store) (Q : KP) : Prop :=
 ∀ f : Nat → Value, f 3 = x3 → f 4 = x4 → f 7 = x7 → f 34 = x34 → f 35 = x35 → f 36 = x36 → An Try.f58 [1, 1, 1, 0, 1, 0] 61 f M Q
def g9 (x3 x4 x7 x34 x35 x36 : Value) (M : Store) (Q : KP) : Prop :=
 ∀ f : Nat → Value, f 3 = x3 → f 4 = x4 → f 7 = x7 → f 34 = x34 → f 35 = x35 → f 36 = x36 → An Try.f58 [1, 1, 1, 0, 1, 0, 0, 1, 1] 61 f M Q
def hH (x7 : Value) (M : Store) (Q : KP) : Prop :=
 ∀ f : Nat → Value, f 7 = x7 → An Try.f58 [1, 1, 1, 1] 61 f M Q
def bO (x3 x4 x7 x9 x34 x35 x36 x41 x42 x43 : Value) (M : Store) (Q : KP) : Prop :=
 ∀ f : Nat → Value, f 3 = x3 → f 4 = x4 → f 7 = x7 → f 9 = x9 → f 34 = x34 → f 35 = x35 → f 36 = x36 → f 41 = x41 → f 42 = x42 → f 43 = x43 → An Try.f58 [1, 1, 1, 0, 1, 0, 0, 1, 1, 0, 0, 1, 1, 0] 61 f M Q
def hU (x3 x4 x7 x9 x34 x35 x36 x41 x42 x43 : Value) (M : Store) (Q : KP) : Prop :=
 ∀ f : Nat → Value, f 3 = x3 → f 4 = x4 → f 7 = x7 → f 9 = x9 → f 34 = x34 → f 35 = x35 → f 36 = x36 → f 41 = x41 → f 42 = x42 → f 43 = x43 → An Try.f58 [1, 1, 1, 0, 1, 0, 0, 1, 1, 0, 0, 1, 1, 0, 0, 1, 1] 61 f M Q
def fb (x3 x4 x7 x34 x35 x36 : Value) (M : Store) (Q : KP) : Prop :=
 ∀ f : Nat → Value, f 3 = x3 → f 4 = x4 → f 7 = x7 → f 34 = x34 → f 35 = x35 → f 36 = x36 → An Try.f58 [1, 1, 1, 0, 1, 0, 0, 1, 1, 1] 61 f M Q
def qb (x0 x1 x2 : Value) (M : Store) (Q : KP) : Prop :=
 OP (aX x0) fun c =>
 LT (.pointer (some ⟨M.n, 0, none⟩)) (M.push (some (.inl (c, Ty.d, true)))) fun t3 M1 =>
 OP (aX x1) fun c_1 =>
 LT (.pointer (some ⟨M1.n, 0, none⟩)) (M1.push (some (.inl (c_1, Ty.n, true)))) fun t4 M2 =>
 OP (ad .lss x2 (.int .i64 0)) fun t13 =>
 BR t13 (
 NTs [(.slice none 0 0)] ∧ Q (.slice none 0 0) M2
 ) (
 OP (fad 0 t3) fun t16 =>
 OP (ld 1 false t16 M2) fun t17 =>
 OP (lenV t17) fun t18 =>
 OP (ad .geq x2 t18) fun t19 =>
 BR t19 (
 NTs [(.slice none 0 0)] ∧ Q (.slice none 0 0) M2
 ) (
 OP (fad 0 t3) fun t21 =>
 OP (ld 1 false t21 M2) fun t22 =>
 OP (ixA 5 t22 x2) fun t24 =>
 OP (fad 1 t24) fun t25 =>
 OP (ld 1 false t25 M2) fun t26 =>
 OP (fad 0 t3) fun t27 =>
 OP (ld 1 false t27 M2) fun t28 =>
 OP (ixA 5 t28 x2) fun t30 =>
 OP (fad 2 t30) fun t31 =>
 OP (ld 1 false t31 M2) fun t32 =>
 OP (al (.slice none 0 0) 1 2 [(0, t26), (1, t32)]) fun c_2 =>
 LT (.slice (some ⟨M2.n, 0, none⟩) 2 2) (M2.push (some (.inl (c_2, Ty.m, true)))) fun t33 M3 =>
 R F.I #[t33] M3 fun t34 M4 =>
 TDx [0, 1, 0, 7, 15, 31, 0, 64, 0, 448, 960, 1984, 4095, 8191, 16383, 0] [M2.n, M2.n, M2.n, M2.n, M2.n, M2.n, M2.n, M2.n, M2.n, M2.n, M2.n, M2.n, M2.n, M3.n] 13 M3 M4 ∧
 OP (lenV t34) fun t35 =>
 cH t3 t4 (.slice none 0 0) t34 t35 (.int .i64 0) M4 Q
 )
 )
theorem yO (h : qb x0 x1 x2 M Q) : R F.s #[x0, x1, x2] M Q := by
 refine ro Try.func58 ?_
 exact ru (N := 61) (ct := (.two .no (.two .no (.two .no (.two (.two .no (.two (.here 1000) .no)) (.here 1001))))))
  [⟨1002, fun a M => dfr a.defers (cH (a.get 3) (a.get 4) (a.get 7) (a.get 34) (a.get 35) (a.get 36) M Q), Aa Try.f58 [1, 1, 1, 0, 1, 0] Q⟩,
  ⟨1003, fF, Aa Try.f58 [1, 1, 1, 1] Q⟩,
  kE Try.f58 Q 1]
  [1000, 1001] [1]
  ⟨en fun f M h => h f rfl rfl rfl rfl rfl rfl,
  el,
  er,
  trivial⟩
  h
def io (x3 x4 x7 x34 x35 x36 : Value) (M : Store) (Q : KP) : Prop :=
 OP (ad .lss x36 x35) fun t37 =>
 BR t37 (
 g9 x3 x4 x7 x34 x35 x36 M Q
 ) (
 hH x7 M Q
 )
theorem mV (h : io x3 x4 x7 x34 x35 x36 M Q) : cH x3 x4 x7 x34 x35 x36 M Q := by
 rintro f rfl rfl rfl rfl rfl rfl
 refine lp ?_
 exact ru (N := 61) (ct := (.two .no (.two .no (.here 1000))))
  [⟨1002, fun a M => dfr a.defers (g9 (a.get 3) (a.get 4) (a.get 7) (a.get 34) (a.get 35) (a.get 36) M Q), Aa Try.f58 [1, 1, 1, 0, 1, 0, 0, 1, 1] Q⟩,
  ⟨2, fun a M => dfr a.defers (hH (a.get 7) M Q), Aa Try.f58 [1, 1, 1, 1] Q⟩]
  [1000] [2]
  ⟨en fun f M h => h f rfl rfl rfl rfl rfl rfl,
  en fun f M h => h f rfl,
  trivial⟩
  h
def mN (x3 x4 x7 x34 x35 x36 : Value) (M : Store) (Q : KP) : Prop :=
 OP (ixA 1 x34 x36) fun t38 =>
 OP (ld 1 false t38 M) fun t39 =>
 OP (fad 0 x4) fun t40 =>
 OP (ld 1 false t40 M) fun t41 =>
 OP (lenV t41) fun t42 =>
 bO x3 x4 x7 t39 x34 x35 x36 t41 t42 (.int .i64 0) M Q
theorem vW (h : mN x3 x4 x7 x34 x35 x36 M Q) : g9 x3 x4 x7 x34 x35 x36 M Q := by
 rintro f rfl rfl rfl rfl rfl rfl
 exact ru (N := 61) (ct := (.two (.two (.two .no (.two .no (.two (.here 1000) .no))) .no) (.here 1001)))
  [⟨1002, fun a M => dfr a.defers (bO (a.get 3) (a.get 4) (a.get 7) (a.get 9) (a.get 34) (a.get 35) (a.get 36) (a.get 41) (a.get 42) (a.get 43) M Q), Aa Try.f58 [1, 1, 1, 0, 1, 0, 0, 1, 1, 0, 0, 1, 1, 0] Q⟩,
  ⟨1003, fF, Aa Try.f58 [1, 1, 1, 0, 1, 0, 0, 1, 1, 1] Q⟩]
  [1000, 1001] []
  ⟨en fun f M h => h f rfl rfl rfl rfl rfl rfl rfl rfl rfl rfl,
  el,
  trivial⟩
  h
def mO (x7 : Value) (M : Store) (Q : KP) : Prop :=
 NTs [x7] ∧ Q x7 M
theorem vX (h : mO x7 M Q) : hH x7 M Q := by
 rintro f rfl
 exact ru (N := 61) (ct := .no)
  [kE Try.f58 Q 1]
  [] [1]
  ⟨er,
  trivial⟩
  h
def ip (x3 x4 x7 x9 x34 x35 x36 x41 x42 x43 : Value) (M : Store) (Q : KP) : Prop :=
 OP (ad .lss x43 x42) fun t44 =>
 BR t44 (
 hU x3 x4 x7 x9 x34 x35 x36 x41 x42 x43 M Q
 ) (
 fb x3 x4 x7 x34 x35 x36 M Q
 )
theorem mW (h : ip x3 x4 x7 x9 x34 x35 x36 x41 x42 x43 M Q) : bO x3 x4 x7 x9 x34 x35 x36 x41 x42 x43 M Q := by
 rintro f rfl rfl rfl rfl rfl rfl rfl rfl rfl rfl
 refine lp ?_
 exact ru (N := 61) (ct := (.two .no (.two .no (.here 1000))))
  [⟨1002, fun a M => dfr a.defers (hU (a.get 3) (a.get 4) (a.get 7) (a.get 9) (a.get 34) (a.get 35) (a.get 36) (a.get 41) (a.get 42) (a.get 43) M Q), Aa Try.f58 [1, 1, 1, 0, 1, 0, 0, 1, 1, 0, 0, 1, 1, 0, 0, 1, 1] Q⟩,
  ⟨4, fun a M => dfr a.defers (fb (a.get 3) (a.get 4) (a.get 7) (a.get 34) (a.get 35) (a.get 36) M Q), Aa Try.f58 [1, 1, 1, 0, 1, 0, 0, 1, 1, 1] Q⟩]
  [1000] [4]
  ⟨en fun f M h => h f rfl rfl rfl rfl rfl rfl rfl rfl rfl rfl,
  en fun f M h => h f rfl rfl rfl rfl rfl rfl,
  trivial⟩
  h
def mP (x3 x4 x7 x9 x34 x35 x36 x41 x42 x43 : Value) (M : Store) (Q : KP) : Prop :=
 OP (ixA 1 x41 x43) fun t45 =>
 OP (ld 1 false t45 M) fun t46 =>
 OP (ld 2 true x3 M) fun t47 =>
 R F.M #[t47, t46] M fun t49 M1 =>
 R F.u #[t49, x9] M1 fun t51 M2 =>
 BR t51 (
 OP (ld 2 true x4 M2) fun t53 =>
 R F.n #[t53, t46] M2 fun t55 M3 =>
 OP (al (.int .i64 0) 1 1 [(0, t55)]) fun c =>
 LT (.slice (some ⟨M3.n, 0, none⟩) 1 1) (M3.push (some (.inl (c, Ty.b, true)))) fun t56 M4 =>
 OP2 (appV 1 Ty.b x7 t56 M4) fun t57 M5 =>
 OP (ad .add x43 (.int .i64 1)) fun t58 =>
 bO x3 x4 t57 x9 x34 x35 x36 x41 x42 t58 M5 Q
 ) (
 OP (ad .add x43 (.int .i64 1)) fun t58_1 =>
 bO x3 x4 x7 x9 x34 x35 x36 x41 x42 t58_1 M2 Q
 )
theorem vY (h : mP x3 x4 x7 x9 x34 x35 x36 x41 x42 x43 M Q) : hU x3 x4 x7 x9 x34 x35 x36 x41 x42 x43 M Q := by
 rintro f rfl rfl rfl rfl rfl rfl rfl rfl rfl rfl
 exact ru (N := 61) (ct := .no)
  [⟨0, fun a M => dfr a.defers (bO (a.get 3) (a.get 4) (a.get 7) (a.get 9) (a.get 34) (a.get 35) (a.get 36) (a.get 41) (a.get 42) (a.get 43) M Q), Aa Try.f58 [1, 1, 1, 0, 1, 0, 0, 1, 1, 0, 0, 1, 1, 0] Q⟩]
  [] [0]
  ⟨en fun f M h => h f rfl rfl rfl rfl rfl rfl rfl rfl rfl rfl,
  trivial⟩
  h
def mQ (x3 x4 x7 x34 x35 x36 : Value) (M : Store) (Q : KP) : Prop :=
 OP (ad .add x36 (.int .i64 1)) fun t59 =>
 cH x3 x4 x7 x34 x35 t59 M Q
theorem vZ (h : mQ x3 x4 x7 x34 x35 x36 M Q) : fb x3 x4 x7 x34 x35 x36 M Q := by
 rintro f rfl rfl rfl rfl rfl rfl
 exact ru (N := 61) (ct := .no)
  [⟨0, fun a M => dfr a.defers (cH (a.get 3) (a.get 4) (a.get 7) (a.get 34) (a.get 35) (a.get 36) M Q), Aa Try.f58 [1, 1, 1, 0, 1, 0] Q⟩]
  [] [0]
  ⟨en fun f M h => h f rfl rfl rfl rfl rfl rfl,
  trivial⟩
  h
def mM (x0 : Value) (M : Store) (Q : KP) : Prop :=
 OP (ad .eql x0 (.int .i64 3)) fun t4 =>
 BR t4 (
 NTs [(.bool true)] ∧ Q (.bool true) M
 ) (
 OP (ad .eql x0 (.int .i64 4)) fun t7 =>
 NTs [t7] ∧ Q t7 M
 )
theorem vV (h : mM x0 M Q) : R F.l #[x0] M Q := by
 refine ro Try.func75 ?_
 exact ru (N := 9) (ct := .no)
  [kE Try.f75 Q 1]
  [] [1]
  ⟨er,
  trivial⟩
  h
def tA (x0 x1 : Value) (M : Store) (Q : KP) : Prop :=
 OP (aX x0) fun c =>
 LT (.pointer (some ⟨M.n, 0, none⟩)) (M.push (some (.inl (c, Ty.d, true)))) fun t2 M1 =>
 OP (ad .lss x1 (.int .i64 0)) fun t6 =>
 BR t6 (
 NTs [(.slice none 0 0)] ∧ Q (.slice none 0 0) M1
 ) (
 OP (fad 0 t2) fun t9 =>
 OP (ld 1 false t9 M1) fun t10 =>
 OP (lenV t10) fun t11 =>
 OP (ad .geq x1 t11) fun t12 =>
 BR t12 (
 NTs [(.slice none 0 0)] ∧ Q (.slice none 0 0) M1
 ) (
 OP (fad 0 t2) fun t14 =>
 OP (ld 1 false t14 M1) fun t15 =>
 OP (ixA 5 t15 x1) fun t17 =>
 OP (fad 0 t17) fun t18 =>
 OP (ld 1 false t18 M1) fun t19 =>
 NTs [t19] ∧ Q t19 M1
 )
 )
theorem Bf (h : tA x0 x1 M Q) : R F.M #[x0, x1] M Q := by
 refine ro Try.func77 ?_
 exact ru (N := 20) (ct := .no)
  [kE Try.f77 Q 1]
  [] [1]
  ⟨er,
  trivial⟩
  h
end Go.G
