/-  -/
import Derived.Test.YtjchjhkhopcalaaGreatDoorPGN
open Go.RowKit
namespace Go.G
open Go.Ab Go.Proofs
set_option linter.unusedVariables false
set_option maxRecDepth 100000
variable {x0 x1 x2 x3 x9 x10 x11 : Value} {M : Store} {Q : KP}
def gh (x0 x1 : Value) (M : Store) (Q : KP) : Prop :=
 R F.P #[x0, x1, (.int .i64 0), (.int .i64 (-1))] M fun t7 M1 =>
 NTs [t7] ∧ Q t7 M1
theorem kT (h : gh x0 x1 M Q) : R F.K #[x0, x1] M Q := by
 refine ro Tryz.func69 ?_
 exact ru (N := 8) (ct := .no)
  [kE Tryz.f69 Q 1]
  [] [1]
  ⟨er,
  trivial⟩
  h
def gg (x0 x1 : Value) (M : Store) (Q : KP) : Prop :=
 R F.i #[x0, x1] M fun t7 M1 =>
 NTs [t7] ∧ Q t7 M1
theorem kS (h : gg x0 x1 M Q) : R F.A #[x0, x1] M Q := by
 refine ro Tryz.func78 ?_
 exact ru (N := 8) (ct := .no)
  [kE Tryz.f78 Q 1]
  [] [1]
  ⟨er,
  trivial⟩
  h
def bK (x0 x1 x2 x3 : Value) (M : Store) (Q : KP) : Prop :=
 ∀ f : Nat → Value, f 0 = x0 → f 1 = x1 → f 2 = x2 → f 3 = x3 → An Tryz.f104 [1, 1, 1, 1] 66 f M Q
def aT (x0 x1 x2 x3 x9 x10 : Value) (M : Store) (Q : KP) : Prop :=
 ∀ f : Nat → Value, f 0 = x0 → f 1 = x1 → f 2 = x2 → f 3 = x3 → f 9 = x9 → f 10 = x10 → An Tryz.f104 [1, 1, 1, 1, 1, 1, 1, 1, 0, 0] 66 f M Q
def cL (x0 x1 x2 x3 x9 x10 : Value) (M : Store) (Q : KP) : Prop :=
 ∀ f : Nat → Value, f 0 = x0 → f 1 = x1 → f 2 = x2 → f 3 = x3 → f 9 = x9 → f 10 = x10 → An Tryz.f104 [1, 1, 1, 1, 1, 1, 1, 1, 0, 0, 0, 1] 66 f M Q
def bj (x0 x9 x10 : Value) (M : Store) (Q : KP) : Prop :=
 ∀ f : Nat → Value, f 0 = x0 → f 9 = x9 → f 10 = x10 → An Tryz.f104 [1, 1, 1, 1, 1, 1, 1, 1, 1] 66 f M Q
def cM (x0 x1 x2 x3 x9 x10 x11 : Value) (M : Store) (Q : KP) : Prop :=
 ∀ f : Nat → Value, f 0 = x0 → f 1 = x1 → f 2 = x2 → f 3 = x3 → f 9 = x9 → f 10 = x10 → f 11 = x11 → An Tryz.f104 [1, 1, 1, 1, 1, 1, 1, 1, 0, 0, 0, 1, 0, 1, 1] 66 f M Q
def eV (x0 x1 x2 x3 : Value) (M : Store) (Q : KP) : Prop :=
 OP (ab .eql x3 (.int .i64 0)) fun t13 =>
 BR t13 (
 NTs [(.slice none 0 0)] ∧ Q (.slice none 0 0) M
 ) (
 OP (al .eql x1 (.string ⟨#[]⟩)) fun t15 =>
 BR t15 (
 R F.a1 #[x0, x3] M fun t18 M1 =>
 NTs [t18] ∧ Q t18 M1
 ) (
 OP (ab .lss x3 (.int .i64 0)) fun t20 =>
 BR t20 (
 R F.J #[x0, x1] M fun t23 M2 =>
 OP (ab .add t23 (.int .i64 1)) fun t24 =>
 bK x0 x1 x2 t24 M2 Q
 ) (
 bK x0 x1 x2 x3 M Q
 )
 )
 )
theorem jc (h : eV x0 x1 x2 x3 M Q) : R F.P #[x0, x1, x2, x3] M Q := by
 refine ro Tryz.func104 ?_
 exact ru (N := 66) (ct := (.two .no (.two .no (.two .no (.two .no (.here 1000))))))
  [⟨1002, fun a M => dfr a.defers (bK (a.get 0) (a.get 1) (a.get 2) (a.get 3) M Q), Aa Tryz.f104 [1, 1, 1, 1] Q⟩,
  kE Tryz.f104 Q 1]
  [1000] [1]
  ⟨en fun f M h => h f rfl rfl rfl rfl,
  er,
  trivial⟩
  h
def d5 (x0 x1 x2 x3 : Value) (M : Store) (Q : KP) : Prop :=
 OP (bG x0) fun t27 =>
 OP (ab .add t27 (.int .i64 1)) fun t28 =>
 OP (dE x3 t28) fun t29 =>
 OP2 (mkS (.string ⟨#[]⟩) 1 16 Ty.a t29 t29 M) fun t31 M1 =>
 OP (ab .sub t29 (.int .i64 1)) fun t33 =>
 aT x0 x1 x2 t33 t31 (.int .i64 0) M1 Q
theorem ik (h : d5 x0 x1 x2 x3 M Q) : bK x0 x1 x2 x3 M Q := by
 rintro f rfl rfl rfl rfl
 exact ru (N := 66) (ct := (.two .no (.two .no (.two .no (.two .no (.two (.two (.here 1000) .no) (.here 1001)))))))
  [⟨1002, fun a M => dfr a.defers (aT (a.get 0) (a.get 1) (a.get 2) (a.get 3) (a.get 9) (a.get 10) M Q), Aa Tryz.f104 [1, 1, 1, 1, 1, 1, 1, 1, 0, 0] Q⟩,
  ⟨1003, fF, Aa Tryz.f104 [1, 1, 1, 1, 1, 1, 1, 1, 1] Q⟩]
  [1000, 1001] []
  ⟨en fun f M h => h f rfl rfl rfl rfl rfl rfl,
  el,
  trivial⟩
  h
def cN (x0 x1 x2 x3 x9 x10 : Value) (M : Store) (Q : KP) : Prop :=
 OP (ab .lss x10 x3) fun t36 =>
 BR t36 (
 cL x0 x1 x2 x3 x9 x10 M Q
 ) (
 bj x0 x9 x10 M Q
 )
theorem d9 (h : cN x0 x1 x2 x3 x9 x10 M Q) : aT x0 x1 x2 x3 x9 x10 M Q := by
 rintro f rfl rfl rfl rfl rfl rfl
 refine lp ?_
 exact ru (N := 66) (ct := (.two .no (.here 1000)))
  [⟨1002, fun a M => dfr a.defers (cL (a.get 0) (a.get 1) (a.get 2) (a.get 3) (a.get 9) (a.get 10) M Q), Aa Tryz.f104 [1, 1, 1, 1, 1, 1, 1, 1, 0, 0, 0, 1] Q⟩,
  ⟨2, fun a M => dfr a.defers (bj (a.get 0) (a.get 9) (a.get 10) M Q), Aa Tryz.f104 [1, 1, 1, 1, 1, 1, 1, 1, 1] Q⟩]
  [1000] [2]
  ⟨en fun f M h => h f rfl rfl rfl rfl rfl rfl,
  en fun f M h => h f rfl rfl rfl,
  trivial⟩
  h
def d6 (x0 x1 x2 x3 x9 x10 : Value) (M : Store) (Q : KP) : Prop :=
 R F.A #[x0, x1] M fun t39 M1 =>
 OP (ab .lss t39 (.int .i64 0)) fun t41 =>
 BR t41 (
 bj x0 x9 x10 M1 Q
 ) (
 cM x0 x1 x2 x3 x9 x10 t39 M1 Q
 )
theorem il (h : d6 x0 x1 x2 x3 x9 x10 M Q) : cL x0 x1 x2 x3 x9 x10 M Q := by
 rintro f rfl rfl rfl rfl rfl rfl
 exact ru (N := 66) (ct := (.two (.two .no (.two .no (.here 1000))) .no))
  [⟨1002, fun a M => dfr a.defers (cM (a.get 0) (a.get 1) (a.get 2) (a.get 3) (a.get 9) (a.get 10) (a.get 11) M Q), Aa Tryz.f104 [1, 1, 1, 1, 1, 1, 1, 1, 0, 0, 0, 1, 0, 1, 1] Q⟩,
  ⟨2, fun a M => dfr a.defers (bj (a.get 0) (a.get 9) (a.get 10) M Q), Aa Tryz.f104 [1, 1, 1, 1, 1, 1, 1, 1, 1] Q⟩]
  [1000] [2]
  ⟨en fun f M h => h f rfl rfl rfl rfl rfl rfl rfl,
  en fun f M h => h f rfl rfl rfl,
  trivial⟩
  h
def d7 (x0 x9 x10 : Value) (M : Store) (Q : KP) : Prop :=
 OP (ixA 1 x9 x10) fun t61 =>
 OP (st 1 t61 x0 M) fun M1 =>
 OP (ab .add x10 (.int .i64 1)) fun t64 =>
 OP (slV 1 Ty.a x9 none (some t64) M1) fun t65 =>
 NTs [t65] ∧ Q t65 M1
theorem im (h : d7 x0 x9 x10 M Q) : bj x0 x9 x10 M Q := by
 rintro f rfl rfl rfl
 exact ru (N := 66) (ct := .no)
  [kE Tryz.f104 Q 1]
  [] [1]
  ⟨er,
  trivial⟩
  h
def d8 (x0 x1 x2 x3 x9 x10 x11 : Value) (M : Store) (Q : KP) : Prop :=
 OP (ab .add x11 x2) fun t47 =>
 OP (slS x0 none (some t47)) fun t48 =>
 OP (ixA 1 x9 x10) fun t49 =>
 OP (st 1 t49 t48 M) fun M1 =>
 OP (bG x1) fun t53 =>
 OP (ab .add x11 t53) fun t54 =>
 OP (slS x0 (some t54) none) fun t55 =>
 OP (ab .add x10 (.int .i64 1)) fun t57 =>
 aT t55 x1 x2 x3 x9 t57 M1 Q
theorem io (h : d8 x0 x1 x2 x3 x9 x10 x11 M Q) : cM x0 x1 x2 x3 x9 x10 x11 M Q := by
 rintro f rfl rfl rfl rfl rfl rfl rfl
 exact ru (N := 66) (ct := .no)
  [⟨0, fun a M => dfr a.defers (aT (a.get 0) (a.get 1) (a.get 2) (a.get 3) (a.get 9) (a.get 10) M Q), Aa Tryz.f104 [1, 1, 1, 1, 1, 1, 1, 1, 0, 0] Q⟩]
  [] [0]
  ⟨en fun f M h => h f rfl rfl rfl rfl rfl rfl,
  trivial⟩
  h
def bi (x0 x1 x5 x6 x7 x8 x9 x10 : Value) (M : Store) (Q : KP) : Prop :=
 ∀ f : Nat → Value, f 0 = x0 → f 1 = x1 → f 5 = x5 → f 6 = x6 → f 7 = x7 → f 8 = x8 → f 9 = x9 → f 10 = x10 → An Tryz.f114 [1, 1, 1, 1, 1, 1, 1, 1, 0, 0] 143 f M Q
def bo (x0 x1 : Value) (M : Store) (Q : KP) : Prop :=
 OP (bG x1) fun t15 =>
 OP (ab .eql t15 (.int .i64 0)) fun t18 =>
 BR t18 (
 NTs [(.int .i64 0)] ∧ Q (.int .i64 0) M
 ) (
 OP (al .eql x1 x0) fun t22 =>
 BR t22 (
 NTs [(.int .i64 0)] ∧ Q (.int .i64 0) M
 ) (
 OP (ab .eql t15 (.int .i64 1)) fun t26 =>
 BR t26 (
 OP (ixS x1 (.int .i64 0)) fun t29 =>
 R F.l #[x0, t29] M fun t30 M1 =>
 NTs [t30] ∧ Q t30 M1
 ) (
 OP (bG x0) fun t34 =>
 OP (ab .geq t15 t34) fun t35 =>
 BR t35 (
 NTs [(.int .i64 (-1))] ∧ Q (.int .i64 (-1)) M
 ) (
 OP (ld 1 false (.pointer (some ⟨0, 0, some 0⟩)) M) fun t38 =>
 OP (ab .leq t15 t38) fun t39 =>
 BR t39 (
 OP (bG x0) fun t42 =>
 OP (ab .leq t42 (.int .i64 64)) fun t43 =>
 BR t43 (
 R F.C #[x0, x1] M fun t47 M2 =>
 NTs [t47] ∧ Q t47 M2
 ) (
 OP (ixS x1 (.int .i64 0)) fun t49 =>
 OP (ixS x1 (.int .i64 1)) fun t51 =>
 OP (bG x0) fun t53 =>
 OP (ab .sub t53 t15) fun t55 =>
 OP (ab .add t55 (.int .i64 1)) fun t56 =>
 bi x0 x1 t15 t49 t51 (.int .i64 0) t56 (.int .i64 0) M Q
 )
 ) (
 OP (ixS x1 (.int .i64 0)) fun t49_1 =>
 OP (ixS x1 (.int .i64 1)) fun t51_1 =>
 OP (bG x0) fun t53_1 =>
 OP (ab .sub t53_1 t15) fun t55_1 =>
 OP (ab .add t55_1 (.int .i64 1)) fun t56_1 =>
 bi x0 x1 t15 t49_1 t51_1 (.int .i64 0) t56_1 (.int .i64 0) M Q
 )
 )
 )
 )
 )
theorem cC (h : bo x0 x1 M Q) : R F.i #[x0, x1] M Q := by
 refine ro Tryz.func114 ?_
 exact ru (N := 143) (ct := (.two .no (.two .no (.two .no (.two .no (.two .no (.two .no (.two .no (.two .no (.two (.two (.here 1000) .no) (.here 1001)))))))))))
  [⟨1002, fun a M => dfr a.defers (bi (a.get 0) (a.get 1) (a.get 5) (a.get 6) (a.get 7) (a.get 8) (a.get 9) (a.get 10) M Q), Aa Tryz.f114 [1, 1, 1, 1, 1, 1, 1, 1, 0, 0] Q⟩,
  ⟨1003, fF, Aa Tryz.f114 [1, 1, 1, 1, 1, 1, 1, 1, 1] Q⟩,
  kE Tryz.f114 Q 1]
  [1000, 1001] [1]
  ⟨en fun f M h => h f rfl rfl rfl rfl rfl rfl rfl rfl,
  el,
  er,
  trivial⟩
  h
def fv (x0 x1 x5 : Value) (M : Store) (Q : KP) : Prop :=
 ∀ f : Nat → Value, f 0 = x0 → f 1 = x1 → f 5 = x5 → An Tryz.f135 [1, 1, 1, 1, 0] 34 f M Q
def gf (x0 x1 : Value) (M : Store) (Q : KP) : Prop :=
 OP (bG x1) fun t8 =>
 OP (ab .eql t8 (.int .i64 0)) fun t9 =>
 BR t9 (
 R F.B #[x0] M fun t11 M1 =>
 OP (ab .add t11 (.int .i64 1)) fun t12 =>
 NTs [t12] ∧ Q t12 M1
 ) (
 OP (bG x1) fun t14 =>
 OP (ab .eql t14 (.int .i64 1)) fun t15 =>
 BR t15 (
 OP (ixS x1 (.int .i64 0)) fun t18 =>
 R F.d #[x0, t18] M fun t19 M2 =>
 NTs [t19] ∧ Q t19 M2
 ) (
 fv x0 x1 (.int .i64 0) M Q
 )
 )
theorem kR (h : gf x0 x1 M Q) : R F.J #[x0, x1] M Q := by
 refine ro Tryz.func135 ?_
 exact ru (N := 34) (ct := (.two .no (.two .no (.two .no (.two .no (.two (.here 1000) .no))))))
  [⟨1002, fun a M => dfr a.defers (fv (a.get 0) (a.get 1) (a.get 5) M Q), Aa Tryz.f135 [1, 1, 1, 1, 0] Q⟩,
  kE Tryz.f135 Q 1]
  [1000] [1]
  ⟨en fun f M h => h f rfl rfl rfl,
  er,
  trivial⟩
  h
def bO (x0 x1 : Value) (M : Store) (Q : KP) : Prop :=
 R F.b #[x0, x1] M fun t7 M1 =>
 NTs [t7] ∧ Q t7 M1
theorem dP (h : bO x0 x1 M Q) : R F.l #[x0, x1] M Q := by
 refine ro Tryz.func154 ?_
 exact ru (N := 8) (ct := .no)
  [kE Tryz.f154 Q 1]
  [] [1]
  ⟨er,
  trivial⟩
  h
end Go.G
