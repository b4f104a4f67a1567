/-  -/
import Derived.Test.YtjchjhkhopcalaaGreatDoorPGN
open Go.RowKit
namespace Go.G
open Go.Ab Go.Proofs
set_option linter.unusedVariables false
set_option maxRecDepth 100000
variable {x0 x1 x2 : Value} {M : Store} {Q : KP}
def kL (x0 : Value) (M : Store) (Q : KP) : Prop :=
 LT (.map (some M.n)) (M.push (some (.inr (.inl [])))) fun t4 M1 =>
 OP (jo #[(.int .i64 0), (.int .i64 0), (.int .i64 0), (.bool false), (.int .i64 0), (.map none)] [(0, 1), (1, 1), (2, 1), (3, 1), (4, 1), (5, 1)] [(5, t4)]) fun t5 =>
 OP (gQ t5) fun c =>
 LT (.pointer (some ⟨M1.n, 0, none⟩)) (M1.push (some (.inl (c, Ty.e, true)))) fun t6 M2 =>
 R F.U #[t6, x0] M2 fun t9 M3 =>
 NTs [t6] ∧ Q t6 M3
theorem pq (h : kL x0 M Q) : R F.Y #[x0] M Q := by
 refine ro Tryz.func11 ?_
 exact ru (N := 11) (ct := .no)
  [kE Tryz.f11 Q 1]
  [] [1]
  ⟨er,
  trivial⟩
  h
def iP (x0 x1 x2 : Value) (M : Store) (Q : KP) : Prop :=
 R F.Q #[x1] M fun t10 M1 =>
 OP (aun .not t10) fun t11 =>
 BR t11 (
 NTs [(.int .i64 0), (.int .i64 1)] ∧ Q (.tuple #[(.int .i64 0), (.int .i64 1)]) M1
 ) (
 OP (lenV x2) fun t16 =>
 R F.M #[x0, x1, t16] M1 fun t17 M2 =>
 OP (aun .not t17) fun t18 =>
 BR t18 (
 NTs [(.int .i64 0), (.int .i64 2)] ∧ Q (.tuple #[(.int .i64 0), (.int .i64 2)]) M2
 ) (
 R F.n #[x2] M2 fun t22 M3 =>
 R F.I #[x0, x1, t22] M3 fun t23 M4 =>
 NTs [t23, (.int .i64 0)] ∧ Q (.tuple #[t23, (.int .i64 0)]) M4
 )
 )
theorem mX (h : iP x0 x1 x2 M Q) : R F.s #[x0, x1, x2] M Q := by
 refine ro Tryz.func12 ?_
 exact ru (N := 24) (ct := .no)
  [kE Tryz.f12 Q 1]
  [] [1]
  ⟨er,
  trivial⟩
  h
def g4 (x0 x1 : Value) (M : Store) (Q : KP) : Prop :=
 OP (dD x1 (.int .i64 0)) fun t6 =>
 OP (dE t6 (.int .i64 1073741824)) fun t7 =>
 OP (aW x0) fun t8 =>
 OP (fad 0 t8) fun t9 =>
 OP (st 1 t9 t7 M) fun M1 =>
 NTs [] ∧ Q (.tuple #[]) M1
theorem lI (h : g4 x0 x1 M Q) : R F.U #[x0, x1] M Q := by
 refine ro Tryz.func32 ?_
 exact ru (N := 10) (ct := .no)
  [kE Tryz.f32 Q 0]
  [] [0]
  ⟨er,
  trivial⟩
  h
def g5 (x0 x1 x2 : Value) (M : Store) (Q : KP) : Prop :=
 OP (aW x0) fun t10 =>
 OP (fad 5 t10) fun t11 =>
 OP (ld 1 false t11 M) fun t12 =>
 OP (lku .string (.agg #[(.slice none 0 0), (.int .i64 0)]) t12 x1 false M) fun t14 =>
 OP (prt 0 1 false t14) fun t15 =>
 OP (lenV t15) fun t16 =>
 OP (ab .sub x2 t16) fun t17 =>
 OP (ab .leq t17 (.int .i64 0)) fun t19 =>
 BR t19 (
 NTs [(.bool true)] ∧ Q (.bool true) M
 ) (
 OP (aW x0) fun t22 =>
 OP (fad 1 t22) fun t23 =>
 OP (ld 1 false t23 M) fun t24 =>
 OP (ab .add t24 t17) fun t26 =>
 OP (aW x0) fun t28 =>
 OP (fad 0 t28) fun t29 =>
 OP (ld 1 false t29 M) fun t30 =>
 OP (ab .leq t26 t30) fun t31 =>
 NTs [t31] ∧ Q t31 M
 )
theorem lJ (h : g5 x0 x1 x2 M Q) : R F.M #[x0, x1, x2] M Q := by
 refine ro Tryz.func34 ?_
 exact ru (N := 33) (ct := .no)
  [kE Tryz.f34 Q 1]
  [] [1]
  ⟨er,
  trivial⟩
  h
def ge (x0 x1 x2 : Value) (M : Store) (Q : KP) : Prop :=
 OP (aW x0) fun t8 =>
 OP (fad 2 t8) fun t9 =>
 OP (ld 1 false t9 M) fun t10 =>
 OP (ab .add t10 (.int .i64 1)) fun t11 =>
 OP (aW x0) fun t12 =>
 OP (fad 2 t12) fun t13 =>
 OP (st 1 t13 t11 M) fun M1 =>
 OP (aW x0) fun t15 =>
 OP (fad 1 t15) fun t16 =>
 OP (ld 1 false t16 M1) fun t17 =>
 OP (lenV x2) fun t19 =>
 OP (aW x0) fun t21 =>
 OP (fad 5 t21) fun t22 =>
 OP (ld 1 false t22 M1) fun t23 =>
 OP (lku .string (.agg #[(.slice none 0 0), (.int .i64 0)]) t23 x1 false M1) fun t25 =>
 OP (prt 0 1 false t25) fun t26 =>
 OP (lenV t26) fun t27 =>
 OP (ab .sub t19 t27) fun t28 =>
 OP (ab .add t17 t28) fun t29 =>
 OP (aW x0) fun t30 =>
 OP (fad 1 t30) fun t31 =>
 OP (st 1 t31 t29 M1) fun M2 =>
 TDx [0, 1, 3, 7, 0, 16, 0, 64, 192, 448, 0, 1984, 4032, 8128, 16368, 32767, 65535, 131071, 262143] [M1.n, M1.n, M1.n, M1.n, M1.n, M1.n, M1.n, M1.n, M1.n, M1.n, M1.n, M1.n, M1.n, M1.n, M1.n, M1.n, M1.n, M1.n, M1.n] 18 M1 M2 ∧
 OP (aW x0) fun t33 =>
 OP (fad 5 t33) fun t34 =>
 OP (ld 1 false t34 M2) fun t35 =>
 OP (aW x0) fun t39 =>
 OP (fad 2 t39) fun t40 =>
 OP (ld 1 false t40 M2) fun t41 =>
 OP (jo #[(.slice none 0 0), (.int .i64 0)] [(0, 1), (1, 1)] [(0, x2), (1, t41)]) fun t42 =>
 OP (mup .string t35 x1 t42 M2) fun M3 =>
 TDx [0, 1, 3, 7, 0, 0, 0, 64, 192, 448, 992, 2047] [M2.n, M2.n, M2.n, M2.n, M2.n, M2.n, M2.n, M2.n, M2.n, M2.n, M2.n, M2.n] 11 M2 M3 ∧
 OP (aW x0) fun t44 =>
 OP (fad 2 t44) fun t45 =>
 OP (ld 1 false t45 M3) fun t46 =>
 NTs [t46] ∧ Q t46 M3
theorem kQ (h : ge x0 x1 x2 M Q) : R F.I #[x0, x1, x2] M Q := by
 refine ro Tryz.func35 ?_
 exact ru (N := 47) (ct := .no)
  [kE Tryz.f35 Q 1]
  [] [1]
  ⟨er,
  trivial⟩
  h
def cI (x0 : Value) (M : Store) (Q : KP) : Prop :=
 OP (dv Tryz.prog true .eql Ty.k x0 (.slice none 0 0)) fun t4 =>
 BR t4 (
 NTs [(.slice none 0 0)] ∧ Q (.slice none 0 0) M
 ) (
 OP (bd (.int .u8 0) 1 0 []) fun c =>
 LT (.slice (some ⟨M.n, 0, none⟩) 0 0) (M.push (some (.inl (c, Ty.d, true)))) fun t5 M1 =>
 OP2 (appV 1 Ty.d t5 x0 M1) fun t7 M2 =>
 NTs [t7] ∧ Q t7 M2
 )
theorem e9 (h : cI x0 M Q) : R F.n #[x0] M Q := by
 refine ro Tryz.func36 ?_
 exact ru (N := 8) (ct := .no)
  [kE Tryz.f36 Q 1]
  [] [1]
  ⟨er,
  trivial⟩
  h
end Go.G
