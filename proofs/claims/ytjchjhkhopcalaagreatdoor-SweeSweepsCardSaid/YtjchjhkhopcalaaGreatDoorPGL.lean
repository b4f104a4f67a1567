/-  -/
import Derived.Test.YtjchjhkhopcalaaGreatDoorPGN
open Go.RowKit
namespace Go.G
open Go.Ab Go.Proofs
set_option linter.unusedVariables false
set_option maxRecDepth 100000
variable {x0 x1 x2 x5 x7 x8 x13 x14 x15 : Value} {M : Store} {Q : KP}
def ai (x1 x5 x13 x14 x15 : Value) (M : Store) (Q : KP) : Prop :=
 ∀ f : Nat → Value, f 1 = x1 → f 5 = x5 → f 13 = x13 → f 14 = x14 → f 15 = x15 → An Tryz.f16 [1, 1, 0, 1, 0] 42 f M Q
def dK (x1 x5 x13 x14 x15 : Value) (M : Store) (Q : KP) : Prop :=
 ∀ f : Nat → Value, f 1 = x1 → f 5 = x5 → f 13 = x13 → f 14 = x14 → f 15 = x15 → An Tryz.f16 [1, 1, 0, 1, 0, 0, 1, 1] 42 f M Q
def dL (x5 : Value) (M : Store) (Q : KP) : Prop :=
 ∀ f : Nat → Value, f 5 = x5 → An Tryz.f16 [1, 1, 1] 42 f M Q
def gZ (x0 x1 : Value) (M : Store) (Q : KP) : Prop :=
 OP (aW x0) fun t9 =>
 OP (fad 5 t9) fun t10 =>
 OP (ld 1 false t10 M) fun t11 =>
 R F.c #[t11] M fun t12 M1 =>
 R F.f #[t12] M1 fun t13 M2 =>
 OP (lenV t13) fun t14 =>
 ai x1 (.slice none 0 0) t13 t14 (.int .i64 0) M2 Q
theorem lH (h : gZ x0 x1 M Q) : R F.g #[x0, x1] M Q := by
 refine ro Tryz.func16 ?_
 exact ru (N := 42) (ct := (.two .no (.two .no (.two (.two .no (.two (.here 1000) .no)) (.here 1001)))))
  [⟨1002, fun a M => dfr a.defers (ai (a.get 1) (a.get 5) (a.get 13) (a.get 14) (a.get 15) M Q), Aa Tryz.f16 [1, 1, 0, 1, 0] Q⟩,
  ⟨1003, fF, Aa Tryz.f16 [1, 1, 1] Q⟩]
  [1000, 1001] []
  ⟨en fun f M h => h f rfl rfl rfl rfl rfl,
  el,
  trivial⟩
  h
def dN (x1 x5 x13 x14 x15 : Value) (M : Store) (Q : KP) : Prop :=
 OP (ab .lss x15 x14) fun t16 =>
 BR t16 (
 dK x1 x5 x13 x14 x15 M Q
 ) (
 dL x5 M Q
 )
theorem fY (h : dN x1 x5 x13 x14 x15 M Q) : ai x1 x5 x13 x14 x15 M Q := by
 rintro f rfl rfl rfl rfl rfl
 refine lp ?_
 exact ru (N := 42) (ct := (.two .no (.two .no (.here 1000))))
  [⟨1002, fun a M => dfr a.defers (dK (a.get 1) (a.get 5) (a.get 13) (a.get 14) (a.get 15) M Q), Aa Tryz.f16 [1, 1, 0, 1, 0, 0, 1, 1] Q⟩,
  ⟨2, fun a M => dfr a.defers (dL (a.get 5) M Q), Aa Tryz.f16 [1, 1, 1] Q⟩]
  [1000] [2]
  ⟨en fun f M h => h f rfl rfl rfl rfl rfl,
  en fun f M h => h f rfl,
  trivial⟩
  h
def fT (x1 x5 x13 x14 x15 : Value) (M : Store) (Q : KP) : Prop :=
 OP (ixA 1 x13 x15) fun t17 =>
 OP (ld 1 false t17 M) fun t18 =>
 OP (al .eql x1 (.string ⟨#[]⟩)) fun t20 =>
 BR t20 (
 R F.O #[t18, (.string ⟨#[47]⟩)] M fun t23 M1 =>
 OP (aun .not t23) fun t24 =>
 BR t24 (
 OP (bd (.string ⟨#[]⟩) 1 1 [(0, t18)]) fun c =>
 LT (.slice (some ⟨M1.n, 0, none⟩) 1 1) (M1.push (some (.inl (c, Ty.a, true)))) fun t38 M2 =>
 OP2 (appV 1 Ty.a x5 t38 M2) fun t39 M3 =>
 OP (ab .add x15 (.int .i64 1)) fun t40 =>
 ai x1 t39 x13 x14 t40 M3 Q
 ) (
 OP (al .neq x1 (.string ⟨#[]⟩)) fun t28 =>
 BR3 t28 (
 OP (al .add x1 (.string ⟨#[47]⟩)) fun t32 =>
 R F.t #[t18, t32] M1 fun t33 M4 =>
 BR t33 (
 OP (bd (.string ⟨#[]⟩) 1 1 [(0, t18)]) fun c_1 =>
 LT (.slice (some ⟨M4.n, 0, none⟩) 1 1) (M4.push (some (.inl (c_1, Ty.a, true)))) fun t38_1 M5 =>
 OP2 (appV 1 Ty.a x5 t38_1 M5) fun t39_1 M6 =>
 OP (ab .add x15 (.int .i64 1)) fun t40_1 =>
 ai x1 t39_1 x13 x14 t40_1 M6 Q
 ) (
 OP (ab .add x15 (.int .i64 1)) fun t40_2 =>
 ai x1 x5 x13 x14 t40_2 M4 Q
 )
 ) (
 OP (ab .add x15 (.int .i64 1)) fun t40_3 =>
 ai x1 x5 x13 x14 t40_3 M1 Q
 ) (
 BR t28 (
 BR undef (
 OP (bd (.string ⟨#[]⟩) 1 1 [(0, t18)]) fun c_2 =>
 LT (.slice (some ⟨M1.n, 0, none⟩) 1 1) (M1.push (some (.inl (c_2, Ty.a, true)))) fun t38_2 M7 =>
 OP2 (appV 1 Ty.a x5 t38_2 M7) fun t39_2 M8 =>
 OP (ab .add x15 (.int .i64 1)) fun t40_4 =>
 ai x1 t39_2 x13 x14 t40_4 M8 Q
 ) (
 OP (ab .add x15 (.int .i64 1)) fun t40_5 =>
 ai x1 x5 x13 x14 t40_5 M1 Q
 )
 ) (
 OP (ab .add x15 (.int .i64 1)) fun t40_6 =>
 ai x1 x5 x13 x14 t40_6 M1 Q
 )
 )
 )
 ) (
 OP (al .neq x1 (.string ⟨#[]⟩)) fun t28_1 =>
 BR3 t28_1 (
 OP (al .add x1 (.string ⟨#[47]⟩)) fun t32_1 =>
 R F.t #[t18, t32_1] M fun t33_1 M9 =>
 BR t33_1 (
 OP (bd (.string ⟨#[]⟩) 1 1 [(0, t18)]) fun c_3 =>
 LT (.slice (some ⟨M9.n, 0, none⟩) 1 1) (M9.push (some (.inl (c_3, Ty.a, true)))) fun t38_3 M10 =>
 OP2 (appV 1 Ty.a x5 t38_3 M10) fun t39_3 M11 =>
 OP (ab .add x15 (.int .i64 1)) fun t40_7 =>
 ai x1 t39_3 x13 x14 t40_7 M11 Q
 ) (
 OP (ab .add x15 (.int .i64 1)) fun t40_8 =>
 ai x1 x5 x13 x14 t40_8 M9 Q
 )
 ) (
 OP (ab .add x15 (.int .i64 1)) fun t40_9 =>
 ai x1 x5 x13 x14 t40_9 M Q
 ) (
 BR t28_1 (
 BR undef (
 OP (bd (.string ⟨#[]⟩) 1 1 [(0, t18)]) fun c_4 =>
 LT (.slice (some ⟨M.n, 0, none⟩) 1 1) (M.push (some (.inl (c_4, Ty.a, true)))) fun t38_4 M12 =>
 OP2 (appV 1 Ty.a x5 t38_4 M12) fun t39_4 M13 =>
 OP (ab .add x15 (.int .i64 1)) fun t40_10 =>
 ai x1 t39_4 x13 x14 t40_10 M13 Q
 ) (
 OP (ab .add x15 (.int .i64 1)) fun t40_11 =>
 ai x1 x5 x13 x14 t40_11 M Q
 )
 ) (
 OP (ab .add x15 (.int .i64 1)) fun t40_12 =>
 ai x1 x5 x13 x14 t40_12 M Q
 )
 )
 )
theorem kk (h : fT x1 x5 x13 x14 x15 M Q) : dK x1 x5 x13 x14 x15 M Q := by
 rintro f rfl rfl rfl rfl rfl
 exact ru (N := 42) (ct := .no)
  [⟨0, fun a M => dfr a.defers (ai (a.get 1) (a.get 5) (a.get 13) (a.get 14) (a.get 15) M Q), Aa Tryz.f16 [1, 1, 0, 1, 0] Q⟩]
  [] [0]
  ⟨en fun f M h => h f rfl rfl rfl rfl rfl,
  trivial⟩
  h
def fU (x5 : Value) (M : Store) (Q : KP) : Prop :=
 NTs [x5] ∧ Q x5 M
theorem km (h : fU x5 M Q) : dL x5 M Q := by
 rintro f rfl
 exact ru (N := 42) (ct := .no)
  [kE Tryz.f16 Q 1]
  [] [1]
  ⟨er,
  trivial⟩
  h
def gY (x0 x1 x2 : Value) (M : Store) (Q : KP) : Prop :=
 R F.Q #[x1] M fun t9 M1 =>
 OP (aun .not t9) fun t10 =>
 BR t10 (
 NTs [(.int .i64 1)] ∧ Q (.int .i64 1) M1
 ) (
 R F.D #[x0, x2] M1 fun t14 M2 =>
 OP (aun .not t14) fun t15 =>
 BR t15 (
 NTs [(.int .i64 5)] ∧ Q (.int .i64 5) M2
 ) (
 R F.H #[x0, x1] M2 fun t19 M3 =>
 OP (aun .not t19) fun t20 =>
 BR t20 (
 NTs [(.int .i64 4)] ∧ Q (.int .i64 4) M3
 ) (
 R F.N #[x0, x1] M3 fun t23 M4 =>
 NTs [(.int .i64 0)] ∧ Q (.int .i64 0) M4
 )
 )
 )
theorem lG (h : gY x0 x1 x2 M Q) : R F.L #[x0, x1, x2] M Q := by
 refine ro Tryz.func38 ?_
 exact ru (N := 24) (ct := .no)
  [kE Tryz.f38 Q 1]
  [] [1]
  ⟨er,
  trivial⟩
  h
def aN (x0 : Value) (M : Store) (Q : KP) : Prop :=
 OP (gQ x0) fun c =>
 LT (.pointer (some ⟨M.n, 0, none⟩)) (M.push (some (.inl (c, Ty.c, true)))) fun t1 M1 =>
 OP (mkF (.func F.a) [] [t1]) fun t3 =>
 NTs [t3] ∧ Q t3 M1
theorem bM (h : aN x0 M Q) : R F.c #[x0] M Q := by
 refine ro Tryz.func40 ?_
 exact ru (N := 4) (ct := .no)
  [kE Tryz.f40 Q 1]
  [] [1]
  ⟨er,
  trivial⟩
  h
def eU (x0 x1 : Value) (M : Store) (Q : KP) : Prop :=
 R F.A #[x0, x1] M fun t7 M1 =>
 OP (ab .geq t7 (.int .i64 0)) fun t8 =>
 NTs [t8] ∧ Q t8 M1
theorem jb (h : eU x0 x1 M Q) : R F.O #[x0, x1] M Q := by
 refine ro Tryz.func41 ?_
 exact ru (N := 9) (ct := .no)
  [kE Tryz.f41 Q 1]
  [] [1]
  ⟨er,
  trivial⟩
  h
def ex (x0 x1 : Value) (M : Store) (Q : KP) : Prop :=
 R F.k #[x0, x1] M fun t7 M1 =>
 NTs [t7] ∧ Q t7 M1
theorem iW (h : ex x0 x1 M Q) : R F.t #[x0, x1] M Q := by
 refine ro Tryz.func42 ?_
 exact ru (N := 8) (ct := .no)
  [kE Tryz.f42 Q 1]
  [] [1]
  ⟨er,
  trivial⟩
  h
def fW (x0 x1 : Value) (M : Store) (Q : KP) : Prop :=
 OP (gQ x0) fun c =>
 LT (.pointer (some ⟨M.n, 0, none⟩)) (M.push (some (.inl (c, Ty.i, true)))) fun t2 M1 =>
 OP (mkF (.func F.y) [] [t2]) fun t6 =>
 R F.j #[x1, t6] M1 fun t7 M2 =>
 OP (aun .not t7) fun t8 =>
 NTs [t8] ∧ Q t8 M2
theorem kn (h : fW x0 x1 M Q) : R F.D #[x0, x1] M Q := by
 refine ro Tryz.func72 ?_
 exact ru (N := 9) (ct := .no)
  [kE Tryz.f72 Q 1]
  [] [1]
  ⟨er,
  trivial⟩
  h
def gd (x0 x1 : Value) (M : Store) (Q : KP) : Prop :=
 OP (aW x0) fun t9 =>
 OP (fad 5 t9) fun t10 =>
 OP (ld 1 false t10 M) fun t11 =>
 OP (lku .string (.agg #[(.slice none 0 0), (.int .i64 0)]) t11 x1 true M) fun t13 =>
 OP (tup t13 0) fun t14 =>
 OP (tup t13 1) fun t15 =>
 LT (.pointer (some ⟨M.n, 0, none⟩)) (M.push (some (.inl ([(.slice none 0 0), (.int .i64 0)], Ty.m, true)))) fun t5 M1 =>
 OP (st 2 t5 t14 M1) fun M2 =>
 NTs [t15] ∧ Q t15 M2
theorem kP (h : gd x0 x1 M Q) : R F.H #[x0, x1] M Q := by
 refine ro Tryz.func73 ?_
 exact ru (N := 17) (ct := .no)
  [kE Tryz.f73 Q 1]
  [] [1]
  ⟨er,
  trivial⟩
  h
def g6 (x0 x1 : Value) (M : Store) (Q : KP) : Prop :=
 OP (aW x0) fun t5 =>
 OP (fad 1 t5) fun t6 =>
 OP (ld 1 false t6 M) fun t7 =>
 OP (aW x0) fun t9 =>
 OP (fad 5 t9) fun t10 =>
 OP (ld 1 false t10 M) fun t11 =>
 OP (lku .string (.agg #[(.slice none 0 0), (.int .i64 0)]) t11 x1 false M) fun t13 =>
 OP (prt 0 1 false t13) fun t14 =>
 OP (lenV t14) fun t15 =>
 OP (ab .sub t7 t15) fun t16 =>
 OP (aW x0) fun t17 =>
 OP (fad 1 t17) fun t18 =>
 OP (st 1 t18 t16 M) fun M1 =>
 TDx [0, 1, 3, 7, 0, 16, 48, 112, 0, 496, 1008, 2032, 4095, 8191, 16383, 32767] [M.n, M.n, M.n, M.n, M.n, M.n, M.n, M.n, M.n, M.n, M.n, M.n, M.n, M.n, M.n, M.n] 15 M M1 ∧
 OP (aW x0) fun t20 =>
 OP (fad 5 t20) fun t21 =>
 OP (ld 1 false t21 M1) fun t22 =>
 OP2 (aD Tryz.prog .delete #[Ty.c, Ty.a] #[t22, x1] M1) fun u M2 =>
 NTs [] ∧ Q (.tuple #[]) M2
theorem lK (h : g6 x0 x1 M Q) : R F.N #[x0, x1] M Q := by
 refine ro Tryz.func74 ?_
 exact ru (N := 24) (ct := .no)
  [kE Tryz.f74 Q 0]
  [] [0]
  ⟨er,
  trivial⟩
  h
def aZ (x0 x1 : Value) (M : Store) (Q : KP) : Prop :=
 R F.m #[x0, x1] M fun t7 M1 =>
 OP (ab .geq t7 (.int .i64 0)) fun t8 =>
 NTs [t8] ∧ Q t8 M1
theorem cj (h : aZ x0 x1 M Q) : R F.j #[x0, x1] M Q := by
 refine ro Tryz.func109 ?_
 exact ru (N := 9) (ct := .no)
  [kE Tryz.f109 Q 1]
  [] [1]
  ⟨er,
  trivial⟩
  h
def ak (x0 x1 x7 x8 : Value) (M : Store) (Q : KP) : Prop :=
 ∀ f : Nat → Value, f 0 = x0 → f 1 = x1 → f 7 = x7 → f 8 = x8 → An Tryz.f142 [1, 0, 1, 0] 19 f M Q
def aC (M : Store) (Q : KP) : Prop :=
 ∀ f : Nat → Value, An Tryz.f142 [1, 1] 19 f M Q
def bg (x0 x1 : Value) (M : Store) (Q : KP) : Prop :=
 OP (lenV x0) fun t7 =>
 ak x0 x1 t7 (.int .i64 0) M Q
theorem cH (h : bg x0 x1 M Q) : R F.m #[x0, x1] M Q := by
 refine ro Tryz.func142 ?_
 exact ru (N := 19) (ct := (.two .no (.two (.two .no (.two (.here 1000) .no)) (.here 1001))))
  [⟨1002, fun a M => dfr a.defers (ak (a.get 0) (a.get 1) (a.get 7) (a.get 8) M Q), Aa Tryz.f142 [1, 0, 1, 0] Q⟩,
  ⟨1003, fF, Aa Tryz.f142 [1, 1] Q⟩]
  [1000, 1001] []
  ⟨en fun f M h => h f rfl rfl rfl rfl,
  el,
  trivial⟩
  h
def a8 (x0 x1 x7 x8 : Value) (M : Store) (Q : KP) : Prop :=
 OP (ab .lss x8 x7) fun t9 =>
 BR t9 (
 OP (ixA 2 x0 x8) fun t14 =>
 OP (ld 2 true t14 M) fun t15 =>
 KC x1 [t15] M fun t16 M1 =>
 BR t16 (
 NTs [x8] ∧ Q x8 M1
 ) (
 OP (ab .add x8 (.int .i64 1)) fun t18 =>
 ak x0 x1 x7 t18 M1 Q
 )
 ) (
 aC M Q
 )
theorem cz (h : a8 x0 x1 x7 x8 M Q) : ak x0 x1 x7 x8 M Q := by
 rintro f rfl rfl rfl rfl
 refine lp ?_
 exact ru (N := 19) (ct := .no)
  [⟨0, fun a M => dfr a.defers (ak (a.get 0) (a.get 1) (a.get 7) (a.get 8) M Q), Aa Tryz.f142 [1, 0, 1, 0] Q⟩,
  kE Tryz.f142 Q 1,
  ⟨2, fun a M => dfr a.defers (aC M Q), Aa Tryz.f142 [1, 1] Q⟩]
  [] [0, 1, 2]
  ⟨en fun f M h => h f rfl rfl rfl rfl,
  er,
  en fun f M h => h f,
  trivial⟩
  h
def ba (M : Store) (Q : KP) : Prop :=
 NTs [(.int .i64 (-1))] ∧ Q (.int .i64 (-1)) M
theorem cA (h : ba M Q) : aC M Q := by
 intro f 
 exact ru (N := 19) (ct := .no)
  [kE Tryz.f142 Q 1]
  [] [1]
  ⟨er,
  trivial⟩
  h
end Go.G
