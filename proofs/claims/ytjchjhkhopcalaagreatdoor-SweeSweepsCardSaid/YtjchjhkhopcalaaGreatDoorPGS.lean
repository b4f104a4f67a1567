/-  -/
import Derived.Test.YtjchjhkhopcalaaGreatDoorPGN
open Go.RowKit
namespace Go.G
open Go.Ab Go.Proofs
set_option linter.unusedVariables false
set_option maxRecDepth 100000
variable {x0 x1 x5 x20 x21 x22 : Value} {M : Store} {Q : KP}
def kM (x0 x1 : Value) (M : Store) (Q : KP) : Prop :=
 OP (jo #[(.int .i64 0), (.int .i64 0), (.bool false), (.slice none 0 0)] [(0, 1), (1, 1), (2, 1), (3, 1)] [(0, x0), (1, x1)]) fun t7 =>
 OP (gQ t7) fun c =>
 LT (.pointer (some ⟨M.n, 0, none⟩)) (M.push (some (.inl (c, Ty.b, true)))) fun t8 M1 =>
 NTs [t8] ∧ Q t8 M1
theorem pr (h : kM x0 x1 M Q) : R F.Z #[x0, x1] M Q := by
 refine ro Tryz.func14 ?_
 exact ru (N := 9) (ct := .no)
  [kE Tryz.f14 Q 1]
  [] [1]
  ⟨er,
  trivial⟩
  h
def ar (x0 x20 x21 x22 : Value) (M : Store) (Q : KP) : Prop :=
 ∀ f : Nat → Value, f 0 = x0 → f 20 = x20 → f 21 = x21 → f 22 = x22 → An Tryz.f15 [1, 0, 0, 1, 0, 1, 1, 0] 89 f M Q
def aK (x0 : Value) (M : Store) (Q : KP) : Prop :=
 ∀ f : Nat → Value, f 0 = x0 → An Tryz.f15 [1, 1] 89 f M Q
def cW (x0 x20 x21 x22 : Value) (M : Store) (Q : KP) : Prop :=
 ∀ f : Nat → Value, f 0 = x0 → f 20 = x20 → f 21 = x21 → f 22 = x22 → An Tryz.f15 [1, 0, 0, 1, 0, 1, 1, 0, 0, 1, 1] 89 f M Q
def du (x0 x1 : Value) (M : Store) (Q : KP) : Prop :=
 OP (aW x0) fun t12 =>
 OP (fad 2 t12) fun t13 =>
 OP (ld 1 false t13 M) fun t14 =>
 OP (aun .not t14) fun t15 =>
 BR t15 (
 OP (aW x0) fun t17 =>
 OP (fad 2 t17) fun t18 =>
 OP (st 1 t18 (.bool true) M) fun M1 =>
 R F.g #[x1, (.string ⟨#[116, 109, 112]⟩)] M1 fun t20 M2 =>
 OP (lenV t20) fun t21 =>
 ar x0 t20 t21 (.int .i64 0) M2 Q
 ) (
 OP (aW x0) fun t62 =>
 OP (fad 3 t62) fun t63 =>
 OP (ld 1 false t63 M) fun t64 =>
 OP (lenV t64) fun t65 =>
 OP (ab .gtr t65 (.int .i64 0)) fun t66 =>
 BR t66 (
 OP (aW x0) fun t69 =>
 OP (fad 3 t69) fun t70 =>
 OP (ld 1 false t70 M) fun t71 =>
 OP (ixA 1 t71 (.int .i64 0)) fun t72 =>
 OP (ld 1 false t72 M) fun t73 =>
 R F.L #[x1, t73, (.slice none 0 0)] M fun t74 M3 =>
 OP (aW x0) fun t77 =>
 OP (fad 3 t77) fun t78 =>
 OP (ld 1 false t78 M3) fun t79 =>
 OP (slV 1 Ty.a t79 (some (.int .i64 1)) none M3) fun t80 =>
 OP (aW x0) fun t81 =>
 OP (fad 3 t81) fun t82 =>
 OP (st 1 t82 t80 M3) fun M4 =>
 aK x0 M4 Q
 ) (
 aK x0 M Q
 )
 )
theorem fw (h : du x0 x1 M Q) : R F.r #[x0, x1] M Q := by
 refine ro Tryz.func15 ?_
 exact ru (N := 89) (ct := (.two .no (.two (.two (.two .no (.two (.two .no (.two .no (.two (.here 1000) .no))) .no)) .no) (.here 1001))))
  [⟨1002, fun a M => dfr a.defers (ar (a.get 0) (a.get 20) (a.get 21) (a.get 22) M Q), Aa Tryz.f15 [1, 0, 0, 1, 0, 1, 1, 0] Q⟩,
  ⟨1003, fun a M => dfr a.defers (aK (a.get 0) M Q), Aa Tryz.f15 [1, 1] Q⟩]
  [1000, 1001] []
  ⟨en fun f M h => h f rfl rfl rfl rfl,
  en fun f M h => h f rfl,
  trivial⟩
  h
def cX (x0 x20 x21 x22 : Value) (M : Store) (Q : KP) : Prop :=
 OP (ab .lss x22 x21) fun t23 =>
 BR t23 (
 cW x0 x20 x21 x22 M Q
 ) (
 aK x0 M Q
 )
theorem eA (h : cX x0 x20 x21 x22 M Q) : ar x0 x20 x21 x22 M Q := by
 rintro f rfl rfl rfl rfl
 refine lp ?_
 exact ru (N := 89) (ct := (.two .no (.two .no (.here 1000))))
  [⟨1002, fun a M => dfr a.defers (cW (a.get 0) (a.get 20) (a.get 21) (a.get 22) M Q), Aa Tryz.f15 [1, 0, 0, 1, 0, 1, 1, 0, 0, 1, 1] Q⟩,
  ⟨3, fun a M => dfr a.defers (aK (a.get 0) M Q), Aa Tryz.f15 [1, 1] Q⟩]
  [1000] [3]
  ⟨en fun f M h => h f rfl rfl rfl rfl,
  en fun f M h => h f rfl,
  trivial⟩
  h
def ey (x0 : Value) (M : Store) (Q : KP) : Prop :=
 OP (aW x0) fun t84 =>
 OP (fad 3 t84) fun t85 =>
 OP (ld 1 false t85 M) fun t86 =>
 OP (lenV t86) fun t87 =>
 OP (ab .gtr t87 (.int .i64 0)) fun t88 =>
 NTs [t88] ∧ Q t88 M
theorem iX (h : ey x0 M Q) : aK x0 M Q := by
 rintro f rfl
 exact ru (N := 89) (ct := .no)
  [kE Tryz.f15 Q 1]
  [] [1]
  ⟨er,
  trivial⟩
  h
def ez (x0 x20 x21 x22 : Value) (M : Store) (Q : KP) : Prop :=
 OP (ixA 1 x20 x22) fun t24 =>
 OP (ld 1 false t24 M) fun t25 =>
 R F.b1 #[t25] M fun t28 M1 =>
 OP (tup t28 0) fun t29 =>
 OP (tup t28 1) fun t30 =>
 OP (tup t28 2) fun t31 =>
 BR t31 (
 OP (aW x0) fun t36 =>
 OP (fad 0 t36) fun t37 =>
 OP (ld 1 false t37 M1) fun t38 =>
 OP (ab .eql t29 t38) fun t39 =>
 BR t39 (
 OP (aW x0) fun t44 =>
 OP (fad 1 t44) fun t45 =>
 OP (ld 1 false t45 M1) fun t46 =>
 OP (ab .lss t30 t46) fun t47 =>
 BR t47 (
 OP (aW x0) fun t51 =>
 OP (fad 3 t51) fun t52 =>
 OP (ld 1 false t52 M1) fun t53 =>
 OP (bd (.string ⟨#[]⟩) 1 1 [(0, t25)]) fun c =>
 LT (.slice (some ⟨M1.n, 0, none⟩) 1 1) (M1.push (some (.inl (c, Ty.a, true)))) fun t55 M2 =>
 OP2 (appV 1 Ty.a t53 t55 M2) fun t56 M3 =>
 OP (aW x0) fun t57 =>
 OP (fad 3 t57) fun t58 =>
 OP (st 1 t58 t56 M3) fun M4 =>
 OP (ab .add x22 (.int .i64 1)) fun t59 =>
 ar x0 x20 x21 t59 M4 Q
 ) (
 OP (ab .add x22 (.int .i64 1)) fun t59_1 =>
 ar x0 x20 x21 t59_1 M1 Q
 )
 ) (
 OP (ab .add x22 (.int .i64 1)) fun t59_2 =>
 ar x0 x20 x21 t59_2 M1 Q
 )
 ) (
 OP (ab .add x22 (.int .i64 1)) fun t59_3 =>
 ar x0 x20 x21 t59_3 M1 Q
 )
theorem iY (h : ez x0 x20 x21 x22 M Q) : cW x0 x20 x21 x22 M Q := by
 rintro f rfl rfl rfl rfl
 exact ru (N := 89) (ct := .no)
  [⟨0, fun a M => dfr a.defers (ar (a.get 0) (a.get 20) (a.get 21) (a.get 22) M Q), Aa Tryz.f15 [1, 0, 0, 1, 0, 1, 1, 0] Q⟩]
  [] [0]
  ⟨en fun f M h => h f rfl rfl rfl rfl,
  trivial⟩
  h
def bn (x0 x1 x5 : Value) (M : Store) (Q : KP) : Prop :=
 ∀ f : Nat → Value, f 0 = x0 → f 1 = x1 → f 5 = x5 → An Tryz.f19 [1, 1, 0, 1, 0] 26 f M Q
def dI (x0 x1 x5 : Value) (M : Store) (Q : KP) : Prop :=
 ∀ f : Nat → Value, f 0 = x0 → f 1 = x1 → f 5 = x5 → An Tryz.f19 [1, 1, 0, 1, 0, 0, 1] 26 f M Q
def dJ (M : Store) (Q : KP) : Prop :=
 ∀ f : Nat → Value, An Tryz.f19 [1, 1, 1] 26 f M Q
def gX (x0 x1 : Value) (M : Store) (Q : KP) : Prop :=
 OP (lenV x0) fun t7 =>
 OP (lenV x1) fun t9 =>
 OP (ab .neq t7 t9) fun t10 =>
 BR t10 (
 NTs [(.bool false)] ∧ Q (.bool false) M
 ) (
 bn x0 x1 (.int .i64 0) M Q
 )
theorem lF (h : gX x0 x1 M Q) : R F.w #[x0, x1] M Q := by
 refine ro Tryz.func19 ?_
 exact ru (N := 26) (ct := (.two .no (.two .no (.two (.two .no (.two (.here 1000) .no)) (.here 1001)))))
  [⟨1002, fun a M => dfr a.defers (bn (a.get 0) (a.get 1) (a.get 5) M Q), Aa Tryz.f19 [1, 1, 0, 1, 0] Q⟩,
  ⟨1003, fF, Aa Tryz.f19 [1, 1, 1] Q⟩,
  kE Tryz.f19 Q 1]
  [1000, 1001] [1]
  ⟨en fun f M h => h f rfl rfl rfl,
  el,
  er,
  trivial⟩
  h
def dM (x0 x1 x5 : Value) (M : Store) (Q : KP) : Prop :=
 OP (lenV x0) fun t13 =>
 OP (ab .lss x5 t13) fun t14 =>
 BR t14 (
 dI x0 x1 x5 M Q
 ) (
 dJ M Q
 )
theorem fX (h : dM x0 x1 x5 M Q) : bn x0 x1 x5 M Q := by
 rintro f rfl rfl rfl
 refine lp ?_
 exact ru (N := 26) (ct := (.two .no (.here 1000)))
  [⟨1002, fun a M => dfr a.defers (dI (a.get 0) (a.get 1) (a.get 5) M Q), Aa Tryz.f19 [1, 1, 0, 1, 0, 0, 1] Q⟩,
  ⟨2, fun a M => dfr a.defers (dJ M Q), Aa Tryz.f19 [1, 1, 1] Q⟩]
  [1000] [2]
  ⟨en fun f M h => h f rfl rfl rfl,
  en fun f M h => h f,
  trivial⟩
  h
def fR (x0 x1 x5 : Value) (M : Store) (Q : KP) : Prop :=
 OP (ixA 1 x0 x5) fun t19 =>
 OP (ld 1 false t19 M) fun t20 =>
 OP (ixA 1 x1 x5) fun t23 =>
 OP (ld 1 false t23 M) fun t24 =>
 OP (al .neq t20 t24) fun t25 =>
 BR t25 (
 NTs [(.bool false)] ∧ Q (.bool false) M
 ) (
 OP (ab .add x5 (.int .i64 1)) fun t16 =>
 bn x0 x1 t16 M Q
 )
theorem ki (h : fR x0 x1 x5 M Q) : dI x0 x1 x5 M Q := by
 rintro f rfl rfl rfl
 exact ru (N := 26) (ct := .no)
  [⟨0, fun a M => dfr a.defers (bn (a.get 0) (a.get 1) (a.get 5) M Q), Aa Tryz.f19 [1, 1, 0, 1, 0] Q⟩,
  kE Tryz.f19 Q 1]
  [] [0, 1]
  ⟨en fun f M h => h f rfl rfl rfl,
  er,
  trivial⟩
  h
def fS (M : Store) (Q : KP) : Prop :=
 NTs [(.bool true)] ∧ Q (.bool true) M
theorem kj (h : fS M Q) : dJ M Q := by
 intro f 
 exact ru (N := 26) (ct := .no)
  [kE Tryz.f19 Q 1]
  [] [1]
  ⟨er,
  trivial⟩
  h
end Go.G
