/-  -/
import Derived.Test.YtjchjhkhopcalaaGreatDoorPGN
open Go.RowKit
namespace Go.G
open Go.Ab Go.Proofs
set_option linter.unusedVariables false
set_option maxRecDepth 100000
variable {x0 x1 x2 x5 x6 x8 x25 x26 x27 : Value} {M : Store} {Q : KP}
def jS (x0 : Value) (M : Store) (Q : KP) : Prop :=
 R F.W #[x0, (.string ⟨#[47]⟩)] M fun t8 M1 =>
 OP (tup t8 0) fun t9 =>
 OP (tup t8 1) fun t10 =>
 OP (tup t8 2) fun t11 =>
 R F.V #[t9] M1 fun t13 M2 =>
 BR t13 (
 OP (aun .not t11) fun t16 =>
 BR3 t16 (
 NTs [(.bool true)] ∧ Q (.bool true) M2
 ) (
 R F.V #[t10] M2 fun t19 M3 =>
 NTs [t19] ∧ Q t19 M3
 ) (
 BR t16 (
 NTs [(.bool true)] ∧ Q (.bool true) M2
 ) (
 NTs [undef] ∧ Q undef M2
 )
 )
 ) (
 NTs [(.bool false)] ∧ Q (.bool false) M2
 )
theorem ov (h : jS x0 M Q) : R F.Q #[x0] M Q := by
 refine ro Tryz.func33 ?_
 exact ru (N := 22) (ct := .no)
  [kE Tryz.f33 Q 1]
  [] [1]
  ⟨er,
  trivial⟩
  h
def cg (x0 x8 x25 x26 x27 : Value) (M : Store) (Q : KP) : Prop :=
 ∀ f : Nat → Value, f 0 = x0 → f 8 = x8 → f 25 = x25 → f 26 = x26 → f 27 = x27 → An Tryz.f37 [1, 1, 1, 1, 1, 0, 1, 0] 53 f M Q
def gJ (x0 x8 x25 x26 x27 : Value) (M : Store) (Q : KP) : Prop :=
 ∀ f : Nat → Value, f 0 = x0 → f 8 = x8 → f 25 = x25 → f 26 = x26 → f 27 = x27 → An Tryz.f37 [1, 1, 1, 1, 1, 0, 1, 0, 0, 1, 1] 53 f M Q
def gK (x0 x8 : Value) (M : Store) (Q : KP) : Prop :=
 ∀ f : Nat → Value, f 0 = x0 → f 8 = x8 → An Tryz.f37 [1, 1, 1, 1, 1, 1] 53 f M Q
def mj (x0 : Value) (M : Store) (Q : KP) : Prop :=
 R F.z #[x0, (.string ⟨#[116, 109, 112, 47]⟩)] M fun t13 M1 =>
 OP (tup t13 0) fun t14 =>
 OP (tup t13 1) fun t15 =>
 R F.K #[t14, (.string ⟨#[46]⟩)] M1 fun t17 M2 =>
 OP (aun .not t15) fun t19 =>
 BR t19 (
 NTs [(.int .i64 0), (.int .i64 0), (.bool false)] ∧ Q (.tuple #[(.int .i64 0), (.int .i64 0), (.bool false)]) M2
 ) (
 OP (lenV t17) fun t22 =>
 OP (ab .neq t22 (.int .i64 3)) fun t23 =>
 BR t23 (
 NTs [(.int .i64 0), (.int .i64 0), (.bool false)] ∧ Q (.tuple #[(.int .i64 0), (.int .i64 0), (.bool false)]) M2
 ) (
 LT (.pointer (some ⟨M2.n, 0, none⟩)) (M2.push (some (.inl ([(.int .i64 0), (.int .i64 0), (.int .i64 0)], Ty.l, true)))) fun t8 M3 =>
 OP (lenV t17) fun t26 =>
 cg x0 t8 t17 t26 (.int .i64 0) M3 Q
 )
 )
theorem qx (h : mj x0 M Q) : R F.b1 #[x0] M Q := by
 refine ro Tryz.func37 ?_
 exact ru (N := 53) (ct := (.two .no (.two .no (.two .no (.two .no (.two .no (.two (.two .no (.two (.here 1000) .no)) (.here 1001))))))))
  [⟨1002, fun a M => dfr a.defers (cg (a.get 0) (a.get 8) (a.get 25) (a.get 26) (a.get 27) M Q), Aa Tryz.f37 [1, 1, 1, 1, 1, 0, 1, 0] Q⟩,
  ⟨1003, fF, Aa Tryz.f37 [1, 1, 1, 1, 1, 1] Q⟩,
  kE Tryz.f37 Q 1]
  [1000, 1001] [1]
  ⟨en fun f M h => h f rfl rfl rfl rfl rfl,
  el,
  er,
  trivial⟩
  h
def gM (x0 x8 x25 x26 x27 : Value) (M : Store) (Q : KP) : Prop :=
 OP (ab .lss x27 x26) fun t28 =>
 BR t28 (
 gJ x0 x8 x25 x26 x27 M Q
 ) (
 gK x0 x8 M Q
 )
theorem jY (h : gM x0 x8 x25 x26 x27 M Q) : cg x0 x8 x25 x26 x27 M Q := by
 rintro f rfl rfl rfl rfl rfl
 refine lp ?_
 exact ru (N := 53) (ct := (.two .no (.two .no (.here 1000))))
  [⟨1002, fun a M => dfr a.defers (gJ (a.get 0) (a.get 8) (a.get 25) (a.get 26) (a.get 27) M Q), Aa Tryz.f37 [1, 1, 1, 1, 1, 0, 1, 0, 0, 1, 1] Q⟩,
  ⟨2, fun a M => dfr a.defers (gK (a.get 0) (a.get 8) M Q), Aa Tryz.f37 [1, 1, 1, 1, 1, 1] Q⟩]
  [1000] [2]
  ⟨en fun f M h => h f rfl rfl rfl rfl rfl,
  en fun f M h => h f rfl rfl,
  trivial⟩
  h
def jT (x0 x8 x25 x26 x27 : Value) (M : Store) (Q : KP) : Prop :=
 OP (ixA 1 x25 x27) fun t30 =>
 OP (ld 1 false t30 M) fun t31 =>
 R F.o #[t31] M fun t35 M1 =>
 OP (tup t35 0) fun t36 =>
 OP (tup t35 1) fun t37 =>
 OP (ixP 1 3 x8 x27) fun t38 =>
 OP (st 1 t38 t36 M1) fun M2 =>
 OP (ab .add x27 (.int .i64 1)) fun t39 =>
 cg x0 x8 x25 x26 t39 M2 Q
theorem ow (h : jT x0 x8 x25 x26 x27 M Q) : gJ x0 x8 x25 x26 x27 M Q := by
 rintro f rfl rfl rfl rfl rfl
 exact ru (N := 53) (ct := .no)
  [⟨0, fun a M => dfr a.defers (cg (a.get 0) (a.get 8) (a.get 25) (a.get 26) (a.get 27) M Q), Aa Tryz.f37 [1, 1, 1, 1, 1, 0, 1, 0] Q⟩]
  [] [0]
  ⟨en fun f M h => h f rfl rfl rfl rfl rfl,
  trivial⟩
  h
def jU (x0 x8 : Value) (M : Store) (Q : KP) : Prop :=
 OP (ixP 1 3 x8 (.int .i64 0)) fun t40 =>
 OP (ld 1 false t40 M) fun t41 =>
 OP (ixP 1 3 x8 (.int .i64 1)) fun t42 =>
 OP (ld 1 false t42 M) fun t43 =>
 OP (ixP 1 3 x8 (.int .i64 2)) fun t44 =>
 OP (ld 1 false t44 M) fun t45 =>
 R F.T #[t41, t43, t45] M fun t46 M1 =>
 OP (al .neq t46 x0) fun t48 =>
 BR t48 (
 NTs [(.int .i64 0), (.int .i64 0), (.bool false)] ∧ Q (.tuple #[(.int .i64 0), (.int .i64 0), (.bool false)]) M1
 ) (
 OP (ixP 1 3 x8 (.int .i64 0)) fun t49 =>
 OP (ld 1 false t49 M1) fun t50 =>
 OP (ixP 1 3 x8 (.int .i64 1)) fun t51 =>
 OP (ld 1 false t51 M1) fun t52 =>
 NTs [t50, t52, (.bool true)] ∧ Q (.tuple #[t50, t52, (.bool true)]) M1
 )
theorem oz (h : jU x0 x8 M Q) : gK x0 x8 M Q := by
 rintro f rfl rfl
 exact ru (N := 53) (ct := .no)
  [kE Tryz.f37 Q 1]
  [] [1]
  ⟨er,
  trivial⟩
  h
def iQ (x0 x1 : Value) (M : Store) (Q : KP) : Prop :=
 R F.u #[x0, x1] M fun t9 M1 =>
 OP (tup t9 0) fun t10 =>
 OP (tup t9 1) fun t11 =>
 OP (tup t9 2) fun t12 =>
 NTs [t10, t11, t12] ∧ Q (.tuple #[t10, t11, t12]) M1
theorem mY (h : iQ x0 x1 M Q) : R F.W #[x0, x1] M Q := by
 refine ro Tryz.func66 ?_
 exact ru (N := 13) (ct := .no)
  [kE Tryz.f66 Q 1]
  [] [1]
  ⟨er,
  trivial⟩
  h
def cV (x0 x5 x6 : Value) (M : Store) (Q : KP) : Prop :=
 ∀ f : Nat → Value, f 0 = x0 → f 5 = x5 → f 6 = x6 → An Tryz.f67 [1, 0, 1, 0] 23 f M Q
def gL (x0 : Value) (M : Store) (Q : KP) : Prop :=
 ∀ f : Nat → Value, f 0 = x0 → An Tryz.f67 [1, 1] 23 f M Q
def ml (x0 : Value) (M : Store) (Q : KP) : Prop :=
 OP (bG x0) fun t5 =>
 cV x0 t5 (.int .i64 0) M Q
theorem qy (h : ml x0 M Q) : R F.V #[x0] M Q := by
 refine ro Tryz.func67 ?_
 exact ru (N := 23) (ct := (.two .no (.two (.two .no (.two (.here 1000) .no)) (.here 1001))))
  [⟨1002, fun a M => dfr a.defers (cV (a.get 0) (a.get 5) (a.get 6) M Q), Aa Tryz.f67 [1, 0, 1, 0] Q⟩,
  ⟨1003, fF, Aa Tryz.f67 [1, 1] Q⟩]
  [1000, 1001] []
  ⟨en fun f M h => h f rfl rfl rfl,
  el,
  trivial⟩
  h
def gN (x0 x5 x6 : Value) (M : Store) (Q : KP) : Prop :=
 OP (ab .lss x6 x5) fun t7 =>
 BR t7 (
 OP (ixS x0 x6) fun t11 =>
 R F.R #[t11] M fun t12 M1 =>
 OP (aun .not t12) fun t13 =>
 BR t13 (
 NTs [(.bool false)] ∧ Q (.bool false) M1
 ) (
 OP (ab .add x6 (.int .i64 1)) fun t14 =>
 cV x0 x5 t14 M1 Q
 )
 ) (
 gL x0 M Q
 )
theorem jZ (h : gN x0 x5 x6 M Q) : cV x0 x5 x6 M Q := by
 rintro f rfl rfl rfl
 refine lp ?_
 exact ru (N := 23) (ct := .no)
  [⟨0, fun a M => dfr a.defers (cV (a.get 0) (a.get 5) (a.get 6) M Q), Aa Tryz.f67 [1, 0, 1, 0] Q⟩,
  kE Tryz.f67 Q 1,
  ⟨2, fun a M => dfr a.defers (gL (a.get 0) M Q), Aa Tryz.f67 [1, 1] Q⟩]
  [] [0, 1, 2]
  ⟨en fun f M h => h f rfl rfl rfl,
  er,
  en fun f M h => h f rfl,
  trivial⟩
  h
def jV (x0 : Value) (M : Store) (Q : KP) : Prop :=
 OP (bG x0) fun t16 =>
 OP (ab .geq t16 (.int .i64 1)) fun t17 =>
 BR t17 (
 OP (bG x0) fun t20 =>
 OP (ab .leq t20 (.int .i64 16)) fun t21 =>
 NTs [t21] ∧ Q t21 M
 ) (
 NTs [(.bool false)] ∧ Q (.bool false) M
 )
theorem oA (h : jV x0 M Q) : gL x0 M Q := by
 rintro f rfl
 exact ru (N := 23) (ct := .no)
  [kE Tryz.f67 Q 1]
  [] [1]
  ⟨er,
  trivial⟩
  h
def eu (x0 x1 : Value) (M : Store) (Q : KP) : Prop :=
 R F.q #[x0, x1] M fun t8 M1 =>
 OP (tup t8 0) fun t9 =>
 OP (tup t8 1) fun t10 =>
 NTs [t9, t10] ∧ Q (.tuple #[t9, t10]) M1
theorem iV (h : eu x0 x1 M Q) : R F.z #[x0, x1] M Q := by
 refine ro Tryz.func68 ?_
 exact ru (N := 11) (ct := .no)
  [kE Tryz.f68 Q 1]
  [] [1]
  ⟨er,
  trivial⟩
  h
def jW (x0 x1 x2 : Value) (M : Store) (Q : KP) : Prop :=
 R F.v #[x0, (.int .i64 999)] M fun t10 M1 =>
 OP (al .add (.string ⟨#[116, 109, 112, 47]⟩) t10) fun t11 =>
 OP (al .add t11 (.string ⟨#[46]⟩)) fun t12 =>
 R F.v #[x1, (.int .i64 99999)] M1 fun t15 M2 =>
 OP (al .add t12 t15) fun t16 =>
 OP (al .add t16 (.string ⟨#[46]⟩)) fun t17 =>
 R F.v #[x2, (.int .i64 99999)] M2 fun t20 M3 =>
 OP (al .add t17 t20) fun t21 =>
 NTs [t21] ∧ Q t21 M3
theorem oB (h : jW x0 x1 x2 M Q) : R F.T #[x0, x1, x2] M Q := by
 refine ro Tryz.func71 ?_
 exact ru (N := 22) (ct := .no)
  [kE Tryz.f71 Q 1]
  [] [1]
  ⟨er,
  trivial⟩
  h
def bb (x0 x1 : Value) (M : Store) (Q : KP) : Prop :=
 OP (bG x0) fun t6 =>
 OP (bG x1) fun t8 =>
 OP (ab .geq t6 t8) fun t9 =>
 BR t9 (
 OP (bG x1) fun t13 =>
 OP (slS x0 none (some t13)) fun t14 =>
 OP (al .eql t14 x1) fun t16 =>
 NTs [t16] ∧ Q t16 M
 ) (
 NTs [(.bool false)] ∧ Q (.bool false) M
 )
theorem bP (h : bb x0 x1 M Q) : R F.k #[x0, x1] M Q := by
 refine ro Tryz.func79 ?_
 exact ru (N := 18) (ct := .no)
  [kE Tryz.f79 Q 1]
  [] [1]
  ⟨er,
  trivial⟩
  h
def cT (x0 x1 : Value) (M : Store) (Q : KP) : Prop :=
 R F.i #[x0, x1] M fun t10 M1 =>
 OP (ab .geq t10 (.int .i64 0)) fun t12 =>
 BR t12 (
 OP (slS x0 none (some t10)) fun t15 =>
 OP (bG x1) fun t19 =>
 OP (ab .add t10 t19) fun t20 =>
 OP (slS x0 (some t20) none) fun t21 =>
 NTs [t15, t21, (.bool true)] ∧ Q (.tuple #[t15, t21, (.bool true)]) M1
 ) (
 NTs [x0, (.string ⟨#[]⟩), (.bool false)] ∧ Q (.tuple #[x0, (.string ⟨#[]⟩), (.bool false)]) M1
 )
theorem fo (h : cT x0 x1 M Q) : R F.u #[x0, x1] M Q := by
 refine ro Tryz.func101 ?_
 exact ru (N := 23) (ct := .no)
  [kE Tryz.f101 Q 1]
  [] [1]
  ⟨er,
  trivial⟩
  h
def iM (x0 : Value) (M : Store) (Q : KP) : Prop :=
 OP (ab .geq x0 (.int .u8 97)) fun t5 =>
 BR t5 (
 OP (ab .leq x0 (.int .u8 122)) fun t8 =>
 BR t8 (
 BR t8 (
 NTs [(.bool true)] ∧ Q (.bool true) M
 ) (
 NTs [(.bool false)] ∧ Q (.bool false) M
 )
 ) (
 OP (ab .geq x0 (.int .u8 48)) fun t11 =>
 BR t11 (
 OP (ab .leq x0 (.int .u8 57)) fun t14 =>
 BR t14 (
 BR t14 (
 NTs [(.bool true)] ∧ Q (.bool true) M
 ) (
 NTs [(.bool false)] ∧ Q (.bool false) M
 )
 ) (
 OP (ab .eql x0 (.int .u8 46)) fun t17 =>
 BR t17 (
 BR t17 (
 NTs [(.bool true)] ∧ Q (.bool true) M
 ) (
 NTs [(.bool false)] ∧ Q (.bool false) M
 )
 ) (
 OP (ab .eql x0 (.int .u8 45)) fun t19 =>
 BR t19 (
 BR t19 (
 NTs [(.bool true)] ∧ Q (.bool true) M
 ) (
 NTs [(.bool false)] ∧ Q (.bool false) M
 )
 ) (
 OP (ab .eql x0 (.int .u8 95)) fun t21 =>
 BR t21 (
 NTs [(.bool true)] ∧ Q (.bool true) M
 ) (
 NTs [(.bool false)] ∧ Q (.bool false) M
 )
 )
 )
 )
 ) (
 OP (ab .eql x0 (.int .u8 46)) fun t17_1 =>
 BR t17_1 (
 BR t17_1 (
 NTs [(.bool true)] ∧ Q (.bool true) M
 ) (
 NTs [(.bool false)] ∧ Q (.bool false) M
 )
 ) (
 OP (ab .eql x0 (.int .u8 45)) fun t19_1 =>
 BR t19_1 (
 BR t19_1 (
 NTs [(.bool true)] ∧ Q (.bool true) M
 ) (
 NTs [(.bool false)] ∧ Q (.bool false) M
 )
 ) (
 OP (ab .eql x0 (.int .u8 95)) fun t21_1 =>
 BR t21_1 (
 NTs [(.bool true)] ∧ Q (.bool true) M
 ) (
 NTs [(.bool false)] ∧ Q (.bool false) M
 )
 )
 )
 )
 )
 ) (
 OP (ab .geq x0 (.int .u8 48)) fun t11_1 =>
 BR t11_1 (
 OP (ab .leq x0 (.int .u8 57)) fun t14_1 =>
 BR t14_1 (
 BR t14_1 (
 NTs [(.bool true)] ∧ Q (.bool true) M
 ) (
 NTs [(.bool false)] ∧ Q (.bool false) M
 )
 ) (
 OP (ab .eql x0 (.int .u8 46)) fun t17_2 =>
 BR t17_2 (
 BR t17_2 (
 NTs [(.bool true)] ∧ Q (.bool true) M
 ) (
 NTs [(.bool false)] ∧ Q (.bool false) M
 )
 ) (
 OP (ab .eql x0 (.int .u8 45)) fun t19_2 =>
 BR t19_2 (
 BR t19_2 (
 NTs [(.bool true)] ∧ Q (.bool true) M
 ) (
 NTs [(.bool false)] ∧ Q (.bool false) M
 )
 ) (
 OP (ab .eql x0 (.int .u8 95)) fun t21_2 =>
 BR t21_2 (
 NTs [(.bool true)] ∧ Q (.bool true) M
 ) (
 NTs [(.bool false)] ∧ Q (.bool false) M
 )
 )
 )
 )
 ) (
 OP (ab .eql x0 (.int .u8 46)) fun t17_3 =>
 BR t17_3 (
 BR t17_3 (
 NTs [(.bool true)] ∧ Q (.bool true) M
 ) (
 NTs [(.bool false)] ∧ Q (.bool false) M
 )
 ) (
 OP (ab .eql x0 (.int .u8 45)) fun t19_3 =>
 BR t19_3 (
 BR t19_3 (
 NTs [(.bool true)] ∧ Q (.bool true) M
 ) (
 NTs [(.bool false)] ∧ Q (.bool false) M
 )
 ) (
 OP (ab .eql x0 (.int .u8 95)) fun t21_3 =>
 BR t21_3 (
 NTs [(.bool true)] ∧ Q (.bool true) M
 ) (
 NTs [(.bool false)] ∧ Q (.bool false) M
 )
 )
 )
 )
 )
theorem mU (h : iM x0 M Q) : R F.R #[x0] M Q := by
 refine ro Tryz.func102 ?_
 exact ru (N := 22) (ct := .no)
  [kE Tryz.f102 Q 1]
  [] [1]
  ⟨er,
  trivial⟩
  h
def bN (x0 x1 : Value) (M : Store) (Q : KP) : Prop :=
 R F.k #[x0, x1] M fun t8 M1 =>
 OP (aun .not t8) fun t9 =>
 BR t9 (
 NTs [x0, (.bool false)] ∧ Q (.tuple #[x0, (.bool false)]) M1
 ) (
 OP (bG x1) fun t13 =>
 OP (slS x0 (some t13) none) fun t14 =>
 NTs [t14, (.bool true)] ∧ Q (.tuple #[t14, (.bool true)]) M1
 )
theorem dO (h : bN x0 x1 M Q) : R F.q #[x0, x1] M Q := by
 refine ro Tryz.func103 ?_
 exact ru (N := 15) (ct := .no)
  [kE Tryz.f103 Q 1]
  [] [1]
  ⟨er,
  trivial⟩
  h
def gW (x0 x1 : Value) (M : Store) (Q : KP) : Prop :=
 OP (dD x0 (.int .i64 0)) fun t6 =>
 OP (dE t6 x1) fun t8 =>
 R F.p #[t8] M fun t9 M1 =>
 NTs [t9] ∧ Q t9 M1
theorem lE (h : gW x0 x1 M Q) : R F.v #[x0, x1] M Q := by
 refine ro Tryz.func107 ?_
 exact ru (N := 10) (ct := .no)
  [kE Tryz.f107 Q 1]
  [] [1]
  ⟨er,
  trivial⟩
  h
end Go.G
