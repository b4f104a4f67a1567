/- ... -/
import Derived.Test.YtnonfejhkbaikaaPGN
open Go.RowKit
namespace Go.G
open Go.Ab Go.Proofs
set_option linter.unusedVariables false
set_option maxRecDepth 100000
variable {x0 x1 x2 x3 x4 x5 x6 x16 : Value} {M : Store} {Q : KP}
def fN (x0 x1 x5 : Value) (M : Store) (Q : KP) : Prop :=
 ∀ f : Nat → Value, f 0 = x0 → f 1 = x1 → f 5 = x5 → An Try.f47 [1, 0, 1, 0] 45 f M Q
def fO (x0 x1 x5 x6 : Value) (M : Store) (Q : KP) : Prop :=
 ∀ f : Nat → Value, f 0 = x0 → f 1 = x1 → f 5 = x5 → f 6 = x6 → An Try.f47 [1, 0, 1, 0, 0, 1, 0, 0, 1, 0] 45 f M Q
def oY (M : Store) (Q : KP) : Prop :=
 ∀ f : Nat → Value, An Try.f47 [1, 1] 45 f M Q
def oZ (x0 x1 x5 x6 : Value) (M : Store) (Q : KP) : Prop :=
 ∀ f : Nat → Value, f 0 = x0 → f 1 = x1 → f 5 = x5 → f 6 = x6 → An Try.f47 [1, 0, 1, 0, 0, 1, 0, 0, 1, 0, 0, 1] 45 f M Q
def kB (x0 x1 x5 : Value) (M : Store) (Q : KP) : Prop :=
 ∀ f : Nat → Value, f 0 = x0 → f 1 = x1 → f 5 = x5 → An Try.f47 [1, 0, 1, 0, 0, 1, 1] 45 f M Q
def zr (x0 x1 : Value) (M : Store) (Q : KP) : Prop :=
 fN x0 x1 (.int .i64 0) M Q
theorem FP (h : zr x0 x1 M Q) : R F.d1 #[x0, x1] M Q := by
 refine ro Try.func47 ?_
 exact ru (N := 45) (ct := (.two .no (.two (.two .no (.two (.here 1000) .no)) (.here 1001))))
  [⟨1002, fun a M => dfr a.defers (fN (a.get 0) (a.get 1) (a.get 5) M Q), Aa Try.f47 [1, 0, 1, 0] Q⟩,
  ⟨1003, fF, Aa Try.f47 [1, 1] Q⟩]
  [1000, 1001] []
  ⟨en fun f M h => h f rfl rfl rfl,
  el,
  trivial⟩
  h
def pd (x0 x1 x5 : Value) (M : Store) (Q : KP) : Prop :=
 OP (cg x0) fun t9 =>
 OP (fad 0 t9) fun t10 =>
 OP (fad 0 t10) fun t11 =>
 OP (ld 1 false t11 M) fun t12 =>
 OP (lenV t12) fun t13 =>
 OP (ad .lss x5 t13) fun t14 =>
 BR t14 (
 fO x0 x1 x5 (.int .i64 0) M Q
 ) (
 oY M Q
 )
theorem v8 (h : pd x0 x1 x5 M Q) : fN x0 x1 x5 M Q := by
 rintro f rfl rfl rfl
 refine lp ?_
 exact ru (N := 45) (ct := (.two .no (.two (.two (.two .no (.two (.here 1000) .no)) .no) (.here 1001))))
  [⟨1002, fun a M => dfr a.defers (fO (a.get 0) (a.get 1) (a.get 5) (a.get 6) M Q), Aa Try.f47 [1, 0, 1, 0, 0, 1, 0, 0, 1, 0] Q⟩,
  ⟨1003, fF, Aa Try.f47 [1, 0, 1, 0, 0, 1, 1] Q⟩,
  ⟨2, fun a M => dfr a.defers (oY M Q), Aa Try.f47 [1, 1] Q⟩]
  [1000, 1001] [2]
  ⟨en fun f M h => h f rfl rfl rfl rfl,
  el,
  en fun f M h => h f,
  trivial⟩
  h
def pf (x0 x1 x5 x6 : Value) (M : Store) (Q : KP) : Prop :=
 OP (cg x0) fun t19 =>
 OP (fad 0 t19) fun t20 =>
 OP (fad 0 t20) fun t21 =>
 OP (ld 1 false t21 M) fun t22 =>
 OP (ixA 5 t22 x5) fun t24 =>
 OP (fad 0 t24) fun t25 =>
 OP (ld 1 false t25 M) fun t26 =>
 OP (lenV t26) fun t27 =>
 OP (ad .lss x6 t27) fun t28 =>
 BR t28 (
 oZ x0 x1 x5 x6 M Q
 ) (
 kB x0 x1 x5 M Q
 )
theorem v9 (h : pf x0 x1 x5 x6 M Q) : fO x0 x1 x5 x6 M Q := by
 rintro f rfl rfl rfl rfl
 refine lp ?_
 exact ru (N := 45) (ct := (.two .no (.here 1000)))
  [⟨1002, fun a M => dfr a.defers (oZ (a.get 0) (a.get 1) (a.get 5) (a.get 6) M Q), Aa Try.f47 [1, 0, 1, 0, 0, 1, 0, 0, 1, 0, 0, 1] Q⟩,
  ⟨4, fun a M => dfr a.defers (kB (a.get 0) (a.get 1) (a.get 5) M Q), Aa Try.f47 [1, 0, 1, 0, 0, 1, 1] Q⟩]
  [1000] [4]
  ⟨en fun f M h => h f rfl rfl rfl rfl,
  en fun f M h => h f rfl rfl rfl,
  trivial⟩
  h
def vz (M : Store) (Q : KP) : Prop :=
 NTs [(.bool false)] ∧ Q (.bool false) M
theorem C4 (h : vz M Q) : oY M Q := by
 intro f 
 exact ru (N := 45) (ct := .no)
  [kE Try.f47 Q 1]
  [] [1]
  ⟨er,
  trivial⟩
  h
def vB (x0 x1 x5 x6 : Value) (M : Store) (Q : KP) : Prop :=
 OP (cg x0) fun t32 =>
 OP (fad 0 t32) fun t33 =>
 OP (fad 0 t33) fun t34 =>
 OP (ld 1 false t34 M) fun t35 =>
 OP (ixA 5 t35 x5) fun t37 =>
 OP (fad 0 t37) fun t38 =>
 OP (ld 1 false t38 M) fun t39 =>
 OP (ixA 1 t39 x6) fun t41 =>
 OP (ld 1 false t41 M) fun t42 =>
 OP (ao .eql t42 x1) fun t44 =>
 BR t44 (
 NTs [(.bool true)] ∧ Q (.bool true) M
 ) (
 OP (ad .add x6 (.int .i64 1)) fun t30 =>
 fO x0 x1 x5 t30 M Q
 )
theorem C5 (h : vB x0 x1 x5 x6 M Q) : oZ x0 x1 x5 x6 M Q := by
 rintro f rfl rfl rfl rfl
 exact ru (N := 45) (ct := .no)
  [⟨0, fun a M => dfr a.defers (fO (a.get 0) (a.get 1) (a.get 5) (a.get 6) M Q), Aa Try.f47 [1, 0, 1, 0, 0, 1, 0, 0, 1, 0] Q⟩,
  kE Try.f47 Q 1]
  [] [0, 1]
  ⟨en fun f M h => h f rfl rfl rfl rfl,
  er,
  trivial⟩
  h
def vC (x0 x1 x5 : Value) (M : Store) (Q : KP) : Prop :=
 OP (ad .add x5 (.int .i64 1)) fun t16 =>
 fN x0 x1 t16 M Q
theorem C6 (h : vC x0 x1 x5 M Q) : kB x0 x1 x5 M Q := by
 rintro f rfl rfl rfl
 exact ru (N := 45) (ct := .no)
  [⟨0, fun a M => dfr a.defers (fN (a.get 0) (a.get 1) (a.get 5) M Q), Aa Try.f47 [1, 0, 1, 0] Q⟩]
  [] [0]
  ⟨en fun f M h => h f rfl rfl rfl,
  trivial⟩
  h
def ak (x0 x1 x2 x3 x4 x5 x6 x16 : Value) (M : Store) (Q : KP) : Prop :=
 ∀ f : Nat → Value, f 0 = x0 → f 1 = x1 → f 2 = x2 → f 3 = x3 → f 4 = x4 → f 5 = x5 → f 6 = x6 → f 16 = x16 → An Try.f68 [1, 1, 0, 0] 122 f M Q
def lA (x0 x1 x2 x3 x4 x5 x6 x16 : Value) (M : Store) (Q : KP) : Prop :=
 ∀ f : Nat → Value, f 0 = x0 → f 1 = x1 → f 2 = x2 → f 3 = x3 → f 4 = x4 → f 5 = x5 → f 6 = x6 → f 16 = x16 → An Try.f68 [1, 1, 0, 0, 0, 1] 122 f M Q
def dd (x2 x16 : Value) (M : Store) (Q : KP) : Prop :=
 ∀ f : Nat → Value, f 2 = x2 → f 16 = x16 → An Try.f68 [1, 1, 1] 122 f M Q
def vy (x0 x1 x2 x3 x4 x5 x6 : Value) (M : Store) (Q : KP) : Prop :=
 ak x0 x1 x2 x3 x4 x5 x6 (.slice none 0 0) M Q
theorem C3 (h : vy x0 x1 x2 x3 x4 x5 x6 M Q) : R F.g #[x0, x1, x2, x3, x4, x5, x6] M Q := by
 refine ro Try.func68 ?_
 exact ru (N := 122) (ct := (.two .no (.two .no (.two (.two (.here 1000) .no) (.here 1001)))))
  [⟨1002, fun a M => dfr a.defers (ak (a.get 0) (a.get 1) (a.get 2) (a.get 3) (a.get 4) (a.get 5) (a.get 6) (a.get 16) M Q), Aa Try.f68 [1, 1, 0, 0] Q⟩,
  ⟨1003, fF, Aa Try.f68 [1, 1, 1] Q⟩]
  [1000, 1001] []
  ⟨en fun f M h => h f rfl rfl rfl rfl rfl rfl rfl rfl,
  el,
  trivial⟩
  h
def lY (x0 x1 x2 x3 x4 x5 x6 x16 : Value) (M : Store) (Q : KP) : Prop :=
 OP (lenV x1) fun t19 =>
 OP (ad .lss x2 t19) fun t20 =>
 BR t20 (
 OP (cg x0) fun t23 =>
 OP (fad 4 t23) fun t24 =>
 OP (fad 0 t24) fun t25 =>
 OP (ld 1 false t25 M) fun t26 =>
 OP (ad .eql t26 (.int .i64 0)) fun t27 =>
 BR t27 (
 OP (ixA 4 x1 x2) fun t32 =>
 OP (ld 4 true t32 M) fun t33 =>
 R F.j #[t33, x5] M fun t35 M1 =>
 OP (aun .not t35) fun t36 =>
 BR t36 (
 OP (ixA 4 x1 x2) fun t41 =>
 OP (ld 4 true t41 M1) fun t42 =>
 R F.j #[t42, x6] M1 fun t44 M2 =>
 OP (aun .not t44) fun t45 =>
 BR t45 (
 lA x0 x1 x2 x3 x4 x5 x6 x16 M2 Q
 ) (
 dd x2 x16 M2 Q
 )
 ) (
 dd x2 x16 M1 Q
 )
 ) (
 dd x2 x16 M Q
 )
 ) (
 dd x2 x16 M Q
 )
theorem r7 (h : lY x0 x1 x2 x3 x4 x5 x6 x16 M Q) : ak x0 x1 x2 x3 x4 x5 x6 x16 M Q := by
 rintro f rfl rfl rfl rfl rfl rfl rfl rfl
 refine lp ?_
 exact ru (N := 122) (ct := (.two .no (.here 1000)))
  [⟨1002, fun a M => dfr a.defers (lA (a.get 0) (a.get 1) (a.get 2) (a.get 3) (a.get 4) (a.get 5) (a.get 6) (a.get 16) M Q), Aa Try.f68 [1, 1, 0, 0, 0, 1] Q⟩,
  ⟨2, fun a M => dfr a.defers (dd (a.get 2) (a.get 16) M Q), Aa Try.f68 [1, 1, 1] Q⟩]
  [1000] [2]
  ⟨en fun f M h => h f rfl rfl rfl rfl rfl rfl rfl rfl,
  en fun f M h => h f rfl rfl,
  trivial⟩
  h
def ry (x0 x1 x2 x3 x4 x5 x6 x16 : Value) (M : Store) (Q : KP) : Prop :=
 OP (ixA 4 x1 x2) fun t50 =>
 OP (ld 4 true t50 M) fun t51 =>
 R F.W #[t51] M fun t52 M1 =>
 BR t52 (
 OP (ixA 4 x1 x2) fun t56 =>
 OP (ld 4 true t56 M1) fun t57 =>
 R F.a #[x0, (.int .i64 4), t57] M1 fun t58 M2 =>
 OP (ixA 4 x1 x2) fun t113 =>
 OP (fad 0 t113) fun t114 =>
 OP (ld 1 false t114 M2) fun t115 =>
 OP (al (.string ⟨#[]⟩) 1 1 [(0, t115)]) fun c =>
 LT (.slice (some ⟨M2.n, 0, none⟩) 1 1) (M2.push (some (.inl (c, Ty.a, true)))) fun t116 M3 =>
 OP2 (appV 1 Ty.a x16 t116 M3) fun t117 M4 =>
 OP (ad .add x2 (.int .i64 1)) fun t119 =>
 ak x0 x1 t119 x3 x4 x5 x6 t117 M4 Q
 ) (
 OP (ixA 4 x1 x2) fun t62 =>
 OP (fad 3 t62) fun t63 =>
 OP (ld 1 false t63 M1) fun t64 =>
 BR t64 (
 OP (ixA 4 x1 x2) fun t96 =>
 OP (ld 4 true t96 M1) fun t97 =>
 R F.a #[x0, (.int .i64 5), t97] M1 fun t98 M5 =>
 OP (ixA 4 x1 x2) fun t113_1 =>
 OP (fad 0 t113_1) fun t114_1 =>
 OP (ld 1 false t114_1 M5) fun t115_1 =>
 OP (al (.string ⟨#[]⟩) 1 1 [(0, t115_1)]) fun c_1 =>
 LT (.slice (some ⟨M5.n, 0, none⟩) 1 1) (M5.push (some (.inl (c_1, Ty.a, true)))) fun t116_1 M6 =>
 OP2 (appV 1 Ty.a x16 t116_1 M6) fun t117_1 M7 =>
 OP (ad .add x2 (.int .i64 1)) fun t119_1 =>
 ak x0 x1 t119_1 x3 x4 x5 x6 t117_1 M7 Q
 ) (
 OP (ixA 4 x1 x2) fun t68 =>
 OP (fad 0 t68) fun t69 =>
 OP (ld 1 false t69 M1) fun t70 =>
 R F.h1 #[t70] M1 fun t71 M8 =>
 OP (aun .not t71) fun t72 =>
 BR t72 (
 OP (ixA 4 x1 x2) fun t96_1 =>
 OP (ld 4 true t96_1 M8) fun t97_1 =>
 R F.a #[x0, (.int .i64 5), t97_1] M8 fun t98_1 M9 =>
 OP (ixA 4 x1 x2) fun t113_2 =>
 OP (fad 0 t113_2) fun t114_2 =>
 OP (ld 1 false t114_2 M9) fun t115_2 =>
 OP (al (.string ⟨#[]⟩) 1 1 [(0, t115_2)]) fun c_2 =>
 LT (.slice (some ⟨M9.n, 0, none⟩) 1 1) (M9.push (some (.inl (c_2, Ty.a, true)))) fun t116_2 M10 =>
 OP2 (appV 1 Ty.a x16 t116_2 M10) fun t117_2 M11 =>
 OP (ad .add x2 (.int .i64 1)) fun t119_2 =>
 ak x0 x1 t119_2 x3 x4 x5 x6 t117_2 M11 Q
 ) (
 BR3 x4 (
 OP (ixA 4 x1 x2) fun t79 =>
 OP (fad 0 t79) fun t80 =>
 OP (ld 1 false t80 M8) fun t81 =>
 OP (ao .eql t81 (.string ⟨#[109, 97, 110, 105, 102, 101, 115, 116]⟩)) fun t82 =>
 BR3 t82 (
 OP (ixA 4 x1 x2) fun t96_2 =>
 OP (ld 4 true t96_2 M8) fun t97_2 =>
 R F.a #[x0, (.int .i64 5), t97_2] M8 fun t98_2 M12 =>
 OP (ixA 4 x1 x2) fun t113_3 =>
 OP (fad 0 t113_3) fun t114_3 =>
 OP (ld 1 false t114_3 M12) fun t115_3 =>
 OP (al (.string ⟨#[]⟩) 1 1 [(0, t115_3)]) fun c_3 =>
 LT (.slice (some ⟨M12.n, 0, none⟩) 1 1) (M12.push (some (.inl (c_3, Ty.a, true)))) fun t116_3 M13 =>
 OP2 (appV 1 Ty.a x16 t116_3 M13) fun t117_3 M14 =>
 OP (ad .add x2 (.int .i64 1)) fun t119_3 =>
 ak x0 x1 t119_3 x3 x4 x5 x6 t117_3 M14 Q
 ) (
 OP (ixA 4 x1 x2) fun t86 =>
 OP (fad 0 t86) fun t87 =>
 OP (ld 1 false t87 M8) fun t88 =>
 OP (ao .eql t88 (.string ⟨#[116, 114, 97, 99, 101]⟩)) fun t89 =>
 BR t89 (
 OP (ixA 4 x1 x2) fun t96_3 =>
 OP (ld 4 true t96_3 M8) fun t97_3 =>
 R F.a #[x0, (.int .i64 5), t97_3] M8 fun t98_3 M15 =>
 OP (ixA 4 x1 x2) fun t113_4 =>
 OP (fad 0 t113_4) fun t114_4 =>
 OP (ld 1 false t114_4 M15) fun t115_4 =>
 OP (al (.string ⟨#[]⟩) 1 1 [(0, t115_4)]) fun c_4 =>
 LT (.slice (some ⟨M15.n, 0, none⟩) 1 1) (M15.push (some (.inl (c_4, Ty.a, true)))) fun t116_4 M16 =>
 OP2 (appV 1 Ty.a x16 t116_4 M16) fun t117_4 M17 =>
 OP (ad .add x2 (.int .i64 1)) fun t119_4 =>
 ak x0 x1 t119_4 x3 x4 x5 x6 t117_4 M17 Q
 ) (
 OP (lenV x16) fun t101 =>
 OP (ad .geq t101 x3) fun t103 =>
 BR t103 (
 OP (ixA 4 x1 x2) fun t107 =>
 OP (ld 4 true t107 M8) fun t108 =>
 R F.a #[x0, (.int .i64 7), t108] M8 fun t109 M18 =>
 OP (ixA 4 x1 x2) fun t113_5 =>
 OP (fad 0 t113_5) fun t114_5 =>
 OP (ld 1 false t114_5 M18) fun t115_5 =>
 OP (al (.string ⟨#[]⟩) 1 1 [(0, t115_5)]) fun c_5 =>
 LT (.slice (some ⟨M18.n, 0, none⟩) 1 1) (M18.push (some (.inl (c_5, Ty.a, true)))) fun t116_5 M19 =>
 OP2 (appV 1 Ty.a x16 t116_5 M19) fun t117_5 M20 =>
 OP (ad .add x2 (.int .i64 1)) fun t119_5 =>
 ak x0 x1 t119_5 x3 x4 x5 x6 t117_5 M20 Q
 ) (
 OP (ixA 4 x1 x2) fun t113_6 =>
 OP (fad 0 t113_6) fun t114_6 =>
 OP (ld 1 false t114_6 M8) fun t115_6 =>
 OP (al (.string ⟨#[]⟩) 1 1 [(0, t115_6)]) fun c_6 =>
 LT (.slice (some ⟨M8.n, 0, none⟩) 1 1) (M8.push (some (.inl (c_6, Ty.a, true)))) fun t116_6 M21 =>
 OP2 (appV 1 Ty.a x16 t116_6 M21) fun t117_6 M22 =>
 OP (ad .add x2 (.int .i64 1)) fun t119_6 =>
 ak x0 x1 t119_6 x3 x4 x5 x6 t117_6 M22 Q
 )
 )
 ) (
 BR t82 (
 OP (ixA 4 x1 x2) fun t96_4 =>
 OP (ld 4 true t96_4 M8) fun t97_4 =>
 R F.a #[x0, (.int .i64 5), t97_4] M8 fun t98_4 M23 =>
 OP (ixA 4 x1 x2) fun t113_7 =>
 OP (fad 0 t113_7) fun t114_7 =>
 OP (ld 1 false t114_7 M23) fun t115_7 =>
 OP (al (.string ⟨#[]⟩) 1 1 [(0, t115_7)]) fun c_7 =>
 LT (.slice (some ⟨M23.n, 0, none⟩) 1 1) (M23.push (some (.inl (c_7, Ty.a, true)))) fun t116_7 M24 =>
 OP2 (appV 1 Ty.a x16 t116_7 M24) fun t117_7 M25 =>
 OP (ad .add x2 (.int .i64 1)) fun t119_7 =>
 ak x0 x1 t119_7 x3 x4 x5 x6 t117_7 M25 Q
 ) (
 BR undef (
 OP (ixA 4 x1 x2) fun t96_5 =>
 OP (ld 4 true t96_5 M8) fun t97_5 =>
 R F.a #[x0, (.int .i64 5), t97_5] M8 fun t98_5 M26 =>
 OP (ixA 4 x1 x2) fun t113_8 =>
 OP (fad 0 t113_8) fun t114_8 =>
 OP (ld 1 false t114_8 M26) fun t115_8 =>
 OP (al (.string ⟨#[]⟩) 1 1 [(0, t115_8)]) fun c_8 =>
 LT (.slice (some ⟨M26.n, 0, none⟩) 1 1) (M26.push (some (.inl (c_8, Ty.a, true)))) fun t116_8 M27 =>
 OP2 (appV 1 Ty.a x16 t116_8 M27) fun t117_8 M28 =>
 OP (ad .add x2 (.int .i64 1)) fun t119_8 =>
 ak x0 x1 t119_8 x3 x4 x5 x6 t117_8 M28 Q
 ) (
 OP (lenV x16) fun t101_1 =>
 OP (ad .geq t101_1 x3) fun t103_1 =>
 BR t103_1 (
 OP (ixA 4 x1 x2) fun t107_1 =>
 OP (ld 4 true t107_1 M8) fun t108_1 =>
 R F.a #[x0, (.int .i64 7), t108_1] M8 fun t109_1 M29 =>
 OP (ixA 4 x1 x2) fun t113_9 =>
 OP (fad 0 t113_9) fun t114_9 =>
 OP (ld 1 false t114_9 M29) fun t115_9 =>
 OP (al (.string ⟨#[]⟩) 1 1 [(0, t115_9)]) fun c_9 =>
 LT (.slice (some ⟨M29.n, 0, none⟩) 1 1) (M29.push (some (.inl (c_9, Ty.a, true)))) fun t116_9 M30 =>
 OP2 (appV 1 Ty.a x16 t116_9 M30) fun t117_9 M31 =>
 OP (ad .add x2 (.int .i64 1)) fun t119_9 =>
 ak x0 x1 t119_9 x3 x4 x5 x6 t117_9 M31 Q
 ) (
 OP (ixA 4 x1 x2) fun t113_10 =>
 OP (fad 0 t113_10) fun t114_10 =>
 OP (ld 1 false t114_10 M8) fun t115_10 =>
 OP (al (.string ⟨#[]⟩) 1 1 [(0, t115_10)]) fun c_10 =>
 LT (.slice (some ⟨M8.n, 0, none⟩) 1 1) (M8.push (some (.inl (c_10, Ty.a, true)))) fun t116_10 M32 =>
 OP2 (appV 1 Ty.a x16 t116_10 M32) fun t117_10 M33 =>
 OP (ad .add x2 (.int .i64 1)) fun t119_10 =>
 ak x0 x1 t119_10 x3 x4 x5 x6 t117_10 M33 Q
 )
 )
 )
 )
 ) (
 OP (lenV x16) fun t101_2 =>
 OP (ad .geq t101_2 x3) fun t103_2 =>
 BR t103_2 (
 OP (ixA 4 x1 x2) fun t107_2 =>
 OP (ld 4 true t107_2 M8) fun t108_2 =>
 R F.a #[x0, (.int .i64 7), t108_2] M8 fun t109_2 M34 =>
 OP (ixA 4 x1 x2) fun t113_11 =>
 OP (fad 0 t113_11) fun t114_11 =>
 OP (ld 1 false t114_11 M34) fun t115_11 =>
 OP (al (.string ⟨#[]⟩) 1 1 [(0, t115_11)]) fun c_11 =>
 LT (.slice (some ⟨M34.n, 0, none⟩) 1 1) (M34.push (some (.inl (c_11, Ty.a, true)))) fun t116_11 M35 =>
 OP2 (appV 1 Ty.a x16 t116_11 M35) fun t117_11 M36 =>
 OP (ad .add x2 (.int .i64 1)) fun t119_11 =>
 ak x0 x1 t119_11 x3 x4 x5 x6 t117_11 M36 Q
 ) (
 OP (ixA 4 x1 x2) fun t113_12 =>
 OP (fad 0 t113_12) fun t114_12 =>
 OP (ld 1 false t114_12 M8) fun t115_12 =>
 OP (al (.string ⟨#[]⟩) 1 1 [(0, t115_12)]) fun c_12 =>
 LT (.slice (some ⟨M8.n, 0, none⟩) 1 1) (M8.push (some (.inl (c_12, Ty.a, true)))) fun t116_12 M37 =>
 OP2 (appV 1 Ty.a x16 t116_12 M37) fun t117_12 M38 =>
 OP (ad .add x2 (.int .i64 1)) fun t119_12 =>
 ak x0 x1 t119_12 x3 x4 x5 x6 t117_12 M38 Q
 )
 ) (
 BR3 x4 (
 BR undef (
 OP (ixA 4 x1 x2) fun t96_6 =>
 OP (ld 4 true t96_6 M8) fun t97_6 =>
 R F.a #[x0, (.int .i64 5), t97_6] M8 fun t98_6 M39 =>
 OP (ixA 4 x1 x2) fun t113_13 =>
 OP (fad 0 t113_13) fun t114_13 =>
 OP (ld 1 false t114_13 M39) fun t115_13 =>
 OP (al (.string ⟨#[]⟩) 1 1 [(0, t115_13)]) fun c_13 =>
 LT (.slice (some ⟨M39.n, 0, none⟩) 1 1) (M39.push (some (.inl (c_13, Ty.a, true)))) fun t116_13 M40 =>
 OP2 (appV 1 Ty.a x16 t116_13 M40) fun t117_13 M41 =>
 OP (ad .add x2 (.int .i64 1)) fun t119_13 =>
 ak x0 x1 t119_13 x3 x4 x5 x6 t117_13 M41 Q
 ) (
 BR undef (
 OP (ixA 4 x1 x2) fun t96_7 =>
 OP (ld 4 true t96_7 M8) fun t97_7 =>
 R F.a #[x0, (.int .i64 5), t97_7] M8 fun t98_7 M42 =>
 OP (ixA 4 x1 x2) fun t113_14 =>
 OP (fad 0 t113_14) fun t114_14 =>
 OP (ld 1 false t114_14 M42) fun t115_14 =>
 OP (al (.string ⟨#[]⟩) 1 1 [(0, t115_14)]) fun c_14 =>
 LT (.slice (some ⟨M42.n, 0, none⟩) 1 1) (M42.push (some (.inl (c_14, Ty.a, true)))) fun t116_14 M43 =>
 OP2 (appV 1 Ty.a x16 t116_14 M43) fun t117_14 M44 =>
 OP (ad .add x2 (.int .i64 1)) fun t119_14 =>
 ak x0 x1 t119_14 x3 x4 x5 x6 t117_14 M44 Q
 ) (
 OP (lenV x16) fun t101_3 =>
 OP (ad .geq t101_3 x3) fun t103_3 =>
 BR t103_3 (
 OP (ixA 4 x1 x2) fun t107_3 =>
 OP (ld 4 true t107_3 M8) fun t108_3 =>
 R F.a #[x0, (.int .i64 7), t108_3] M8 fun t109_3 M45 =>
 OP (ixA 4 x1 x2) fun t113_15 =>
 OP (fad 0 t113_15) fun t114_15 =>
 OP (ld 1 false t114_15 M45) fun t115_15 =>
 OP (al (.string ⟨#[]⟩) 1 1 [(0, t115_15)]) fun c_15 =>
 LT (.slice (some ⟨M45.n, 0, none⟩) 1 1) (M45.push (some (.inl (c_15, Ty.a, true)))) fun t116_15 M46 =>
 OP2 (appV 1 Ty.a x16 t116_15 M46) fun t117_15 M47 =>
 OP (ad .add x2 (.int .i64 1)) fun t119_15 =>
 ak x0 x1 t119_15 x3 x4 x5 x6 t117_15 M47 Q
 ) (
 OP (ixA 4 x1 x2) fun t113_16 =>
 OP (fad 0 t113_16) fun t114_16 =>
 OP (ld 1 false t114_16 M8) fun t115_16 =>
 OP (al (.string ⟨#[]⟩) 1 1 [(0, t115_16)]) fun c_16 =>
 LT (.slice (some ⟨M8.n, 0, none⟩) 1 1) (M8.push (some (.inl (c_16, Ty.a, true)))) fun t116_16 M48 =>
 OP2 (appV 1 Ty.a x16 t116_16 M48) fun t117_16 M49 =>
 OP (ad .add x2 (.int .i64 1)) fun t119_16 =>
 ak x0 x1 t119_16 x3 x4 x5 x6 t117_16 M49 Q
 )
 )
 )
 ) (
 OP (lenV x16) fun t101_4 =>
 OP (ad .geq t101_4 x3) fun t103_4 =>
 BR t103_4 (
 OP (ixA 4 x1 x2) fun t107_4 =>
 OP (ld 4 true t107_4 M8) fun t108_4 =>
 R F.a #[x0, (.int .i64 7), t108_4] M8 fun t109_4 M50 =>
 OP (ixA 4 x1 x2) fun t113_17 =>
 OP (fad 0 t113_17) fun t114_17 =>
 OP (ld 1 false t114_17 M50) fun t115_17 =>
 OP (al (.string ⟨#[]⟩) 1 1 [(0, t115_17)]) fun c_17 =>
 LT (.slice (some ⟨M50.n, 0, none⟩) 1 1) (M50.push (some (.inl (c_17, Ty.a, true)))) fun t116_17 M51 =>
 OP2 (appV 1 Ty.a x16 t116_17 M51) fun t117_17 M52 =>
 OP (ad .add x2 (.int .i64 1)) fun t119_17 =>
 ak x0 x1 t119_17 x3 x4 x5 x6 t117_17 M52 Q
 ) (
 OP (ixA 4 x1 x2) fun t113_18 =>
 OP (fad 0 t113_18) fun t114_18 =>
 OP (ld 1 false t114_18 M8) fun t115_18 =>
 OP (al (.string ⟨#[]⟩) 1 1 [(0, t115_18)]) fun c_18 =>
 LT (.slice (some ⟨M8.n, 0, none⟩) 1 1) (M8.push (some (.inl (c_18, Ty.a, true)))) fun t116_18 M53 =>
 OP2 (appV 1 Ty.a x16 t116_18 M53) fun t117_18 M54 =>
 OP (ad .add x2 (.int .i64 1)) fun t119_18 =>
 ak x0 x1 t119_18 x3 x4 x5 x6 t117_18 M54 Q
 )
 ) (
 BR x4 (
 BR undef (
 OP (ixA 4 x1 x2) fun t96_8 =>
 OP (ld 4 true t96_8 M8) fun t97_8 =>
 R F.a #[x0, (.int .i64 5), t97_8] M8 fun t98_8 M55 =>
 OP (ixA 4 x1 x2) fun t113_19 =>
 OP (fad 0 t113_19) fun t114_19 =>
 OP (ld 1 false t114_19 M55) fun t115_19 =>
 OP (al (.string ⟨#[]⟩) 1 1 [(0, t115_19)]) fun c_19 =>
 LT (.slice (some ⟨M55.n, 0, none⟩) 1 1) (M55.push (some (.inl (c_19, Ty.a, true)))) fun t116_19 M56 =>
 OP2 (appV 1 Ty.a x16 t116_19 M56) fun t117_19 M57 =>
 OP (ad .add x2 (.int .i64 1)) fun t119_19 =>
 ak x0 x1 t119_19 x3 x4 x5 x6 t117_19 M57 Q
 ) (
 OP (lenV x16) fun t101_5 =>
 OP (ad .geq t101_5 x3) fun t103_5 =>
 BR t103_5 (
 OP (ixA 4 x1 x2) fun t107_5 =>
 OP (ld 4 true t107_5 M8) fun t108_5 =>
 R F.a #[x0, (.int .i64 7), t108_5] M8 fun t109_5 M58 =>
 OP (ixA 4 x1 x2) fun t113_20 =>
 OP (fad 0 t113_20) fun t114_20 =>
 OP (ld 1 false t114_20 M58) fun t115_20 =>
 OP (al (.string ⟨#[]⟩) 1 1 [(0, t115_20)]) fun c_20 =>
 LT (.slice (some ⟨M58.n, 0, none⟩) 1 1) (M58.push (some (.inl (c_20, Ty.a, true)))) fun t116_20 M59 =>
 OP2 (appV 1 Ty.a x16 t116_20 M59) fun t117_20 M60 =>
 OP (ad .add x2 (.int .i64 1)) fun t119_20 =>
 ak x0 x1 t119_20 x3 x4 x5 x6 t117_20 M60 Q
 ) (
 OP (ixA 4 x1 x2) fun t113_21 =>
 OP (fad 0 t113_21) fun t114_21 =>
 OP (ld 1 false t114_21 M8) fun t115_21 =>
 OP (al (.string ⟨#[]⟩) 1 1 [(0, t115_21)]) fun c_21 =>
 LT (.slice (some ⟨M8.n, 0, none⟩) 1 1) (M8.push (some (.inl (c_21, Ty.a, true)))) fun t116_21 M61 =>
 OP2 (appV 1 Ty.a x16 t116_21 M61) fun t117_21 M62 =>
 OP (ad .add x2 (.int .i64 1)) fun t119_21 =>
 ak x0 x1 t119_21 x3 x4 x5 x6 t117_21 M62 Q
 )
 )
 ) (
 OP (lenV x16) fun t101_6 =>
 OP (ad .geq t101_6 x3) fun t103_6 =>
 BR t103_6 (
 OP (ixA 4 x1 x2) fun t107_6 =>
 OP (ld 4 true t107_6 M8) fun t108_6 =>
 R F.a #[x0, (.int .i64 7), t108_6] M8 fun t109_6 M63 =>
 OP (ixA 4 x1 x2) fun t113_22 =>
 OP (fad 0 t113_22) fun t114_22 =>
 OP (ld 1 false t114_22 M63) fun t115_22 =>
 OP (al (.string ⟨#[]⟩) 1 1 [(0, t115_22)]) fun c_22 =>
 LT (.slice (some ⟨M63.n, 0, none⟩) 1 1) (M63.push (some (.inl (c_22, Ty.a, true)))) fun t116_22 M64 =>
 OP2 (appV 1 Ty.a x16 t116_22 M64) fun t117_22 M65 =>
 OP (ad .add x2 (.int .i64 1)) fun t119_22 =>
 ak x0 x1 t119_22 x3 x4 x5 x6 t117_22 M65 Q
 ) (
 OP (ixA 4 x1 x2) fun t113_23 =>
 OP (fad 0 t113_23) fun t114_23 =>
 OP (ld 1 false t114_23 M8) fun t115_23 =>
 OP (al (.string ⟨#[]⟩) 1 1 [(0, t115_23)]) fun c_23 =>
 LT (.slice (some ⟨M8.n, 0, none⟩) 1 1) (M8.push (some (.inl (c_23, Ty.a, true)))) fun t116_23 M66 =>
 OP2 (appV 1 Ty.a x16 t116_23 M66) fun t117_23 M67 =>
 OP (ad .add x2 (.int .i64 1)) fun t119_23 =>
 ak x0 x1 t119_23 x3 x4 x5 x6 t117_23 M67 Q
 )
 )
 )
 )
 )
 )
 )
theorem z6 (h : ry x0 x1 x2 x3 x4 x5 x6 x16 M Q) : lA x0 x1 x2 x3 x4 x5 x6 x16 M Q := by
 rintro f rfl rfl rfl rfl rfl rfl rfl rfl
 exact ru (N := 122) (ct := .no)
  [⟨0, fun a M => dfr a.defers (ak (a.get 0) (a.get 1) (a.get 2) (a.get 3) (a.get 4) (a.get 5) (a.get 6) (a.get 16) M Q), Aa Try.f68 [1, 1, 0, 0] Q⟩]
  [] [0]
  ⟨en fun f M h => h f rfl rfl rfl rfl rfl rfl rfl rfl,
  trivial⟩
  h
def rz (x2 x16 : Value) (M : Store) (Q : KP) : Prop :=
 NTs [x16, x2] ∧ Q (.tuple #[x16, x2]) M
theorem z7 (h : rz x2 x16 M Q) : dd x2 x16 M Q := by
 rintro f rfl rfl
 exact ru (N := 122) (ct := .no)
  [kE Try.f68 Q 1]
  [] [1]
  ⟨er,
  trivial⟩
  h
def vn (x0 : Value) (M : Store) (Q : KP) : Prop :=
 OP (aX x0) fun c =>
 LT (.pointer (some ⟨M.n, 0, none⟩)) (M.push (some (.inl (c, Ty.c, true)))) fun t1 M1 =>
 OP (fad 3 t1) fun t3 =>
 OP (ld 1 false t3 M1) fun t4 =>
 OP (aun .not t4) fun t5 =>
 BR t5 (
 OP (fad 0 t1) fun t7 =>
 OP (ld 1 false t7 M1) fun t8 =>
 OP (iH t8) fun t9 =>
 OP (ad .eql t9 (.int .i64 1)) fun t10 =>
 BR t10 (
 OP (fad 0 t1) fun t13 =>
 OP (ld 1 false t13 M1) fun t14 =>
 OP (ixS t14 (.int .i64 0)) fun t15 =>
 R F.z #[t15] M1 fun t16 M2 =>
 NTs [t16] ∧ Q t16 M2
 ) (
 NTs [(.bool false)] ∧ Q (.bool false) M1
 )
 ) (
 NTs [(.bool false)] ∧ Q (.bool false) M1
 )
theorem CR (h : vn x0 M Q) : R F.W #[x0] M Q := by
 refine ro Try.func78 ?_
 exact ru (N := 18) (ct := .no)
  [kE Try.f78 Q 1]
  [] [1]
  ⟨er,
  trivial⟩
  h
def xT (x0 x1 x2 x3 : Value) (M : Store) (Q : KP) : Prop :=
 OP (lenV x1) fun t11 =>
 OP (ad .geq x2 t11) fun t12 =>
 BR t12 (
 OP (ixA 4 x1 (.int .i64 0)) fun t15 =>
 OP (ld 4 true t15 M) fun t16 =>
 R F.a #[x0, (.int .i64 4), t16] M fun t17 M1 =>
 OP (ad .add x2 (.int .i64 1)) fun t32 =>
 NTs [t32] ∧ Q t32 M1
 ) (
 OP (ixA 4 x1 x2) fun t20 =>
 OP (ld 4 true t20 M) fun t21 =>
 R F.j #[t21, x3] M fun t23 M2 =>
 OP (aun .not t23) fun t24 =>
 BR t24 (
 OP (ixA 4 x1 x2) fun t28 =>
 OP (ld 4 true t28 M2) fun t29 =>
 R F.a #[x0, (.int .i64 4), t29] M2 fun t30 M3 =>
 OP (ad .add x2 (.int .i64 1)) fun t32_1 =>
 NTs [t32_1] ∧ Q t32_1 M3
 ) (
 OP (ad .add x2 (.int .i64 1)) fun t32_2 =>
 NTs [t32_2] ∧ Q t32_2 M2
 )
 )
theorem ED (h : xT x0 x1 x2 x3 M Q) : R F.q #[x0, x1, x2, x3] M Q := by
 refine ro Try.func79 ?_
 exact ru (N := 33) (ct := .no)
  [kE Try.f79 Q 1]
  [] [1]
  ⟨er,
  trivial⟩
  h
end Go.G

open Go.RowKit
namespace Go.G
open Go.Ab Go.Proofs
set_option linter.unusedVariables false
set_option maxRecDepth 100000
variable {x0 x1 x2 x3 x8 x9 x10 x11 x12 : Value} {M : Store} {Q : KP}
def eN (x0 x1 x2 x8 x9 : Value) (M : Store) (Q : KP) : Prop :=
 ∀ f : Nat → Value, f 0 = x0 → f 1 = x1 → f 2 = x2 → f 8 = x8 → f 9 = x9 → An Try.f80 [1, 1, 1, 0, 0] 123 f M Q
def nD (x0 x1 x2 x8 x9 : Value) (M : Store) (Q : KP) : Prop :=
 ∀ f : Nat → Value, f 0 = x0 → f 1 = x1 → f 2 = x2 → f 8 = x8 → f 9 = x9 → An Try.f80 [1, 1, 1, 0, 0, 0, 1] 123 f M Q
def gl (x0 x1 x8 x9 : Value) (M : Store) (Q : KP) : Prop :=
 ∀ f : Nat → Value, f 0 = x0 → f 1 = x1 → f 8 = x8 → f 9 = x9 → An Try.f80 [1, 1, 1, 1] 123 f M Q
def jn (x0 x1 x2 x8 x9 : Value) (M : Store) (Q : KP) : Prop :=
 ∀ f : Nat → Value, f 0 = x0 → f 1 = x1 → f 2 = x2 → f 8 = x8 → f 9 = x9 → An Try.f80 [1, 1, 1, 0, 0, 0, 1, 0, 0, 1, 1] 123 f M Q
def dG (x0 x1 x2 x8 x9 x10 x11 : Value) (M : Store) (Q : KP) : Prop :=
 ∀ f : Nat → Value, f 0 = x0 → f 1 = x1 → f 2 = x2 → f 8 = x8 → f 9 = x9 → f 10 = x10 → f 11 = x11 → An Try.f80 [1, 1, 1, 0, 0, 0, 1, 0, 0, 1, 1, 1, 0, 1, 0] 123 f M Q
def nF (x0 x1 x2 x8 x9 x10 x11 : Value) (M : Store) (Q : KP) : Prop :=
 ∀ f : Nat → Value, f 0 = x0 → f 1 = x1 → f 2 = x2 → f 8 = x8 → f 9 = x9 → f 10 = x10 → f 11 = x11 → An Try.f80 [1, 1, 1, 0, 0, 0, 1, 0, 0, 1, 1, 1, 0, 1, 0, 0, 1] 123 f M Q
def jo (x0 x1 x2 x8 x9 x10 : Value) (M : Store) (Q : KP) : Prop :=
 ∀ f : Nat → Value, f 0 = x0 → f 1 = x1 → f 2 = x2 → f 8 = x8 → f 9 = x9 → f 10 = x10 → An Try.f80 [1, 1, 1, 0, 0, 0, 1, 0, 0, 1, 1, 1, 1] 123 f M Q
def jp (x0 x1 x2 x8 x9 : Value) (M : Store) (Q : KP) : Prop :=
 ∀ f : Nat → Value, f 0 = x0 → f 1 = x1 → f 2 = x2 → f 8 = x8 → f 9 = x9 → An Try.f80 [1, 1, 1, 0, 0, 0, 1, 1] 123 f M Q
def xR (x0 x1 x2 : Value) (M : Store) (Q : KP) : Prop :=
 eN x0 x1 x2 (.slice none 0 0) (.int .i64 1) M Q
theorem EA (h : xR x0 x1 x2 M Q) : R F.b1 #[x0, x1, x2] M Q := by
 refine ro Try.func80 ?_
 exact ru (N := 123) (ct := (.two .no (.two .no (.two .no (.two (.two (.here 1000) .no) (.here 1001))))))
  [⟨1002, fun a M => dfr a.defers (eN (a.get 0) (a.get 1) (a.get 2) (a.get 8) (a.get 9) M Q), Aa Try.f80 [1, 1, 1, 0, 0] Q⟩,
  ⟨1003, fF, Aa Try.f80 [1, 1, 1, 1] Q⟩]
  [1000, 1001] []
  ⟨en fun f M h => h f rfl rfl rfl rfl rfl,
  el,
  trivial⟩
  h
def nK (x0 x1 x2 x8 x9 : Value) (M : Store) (Q : KP) : Prop :=
 OP (lenV x1) fun t14 =>
 OP (ad .lss x9 t14) fun t15 =>
 BR t15 (
 OP (cg x0) fun t18 =>
 OP (fad 4 t18) fun t19 =>
 OP (fad 0 t19) fun t20 =>
 OP (ld 1 false t20 M) fun t21 =>
 OP (ad .eql t21 (.int .i64 0)) fun t22 =>
 BR t22 (
 OP (ixA 4 x1 x9) fun t27 =>
 OP (ld 4 true t27 M) fun t28 =>
 R F.j #[t28, (.string ⟨#[58]⟩)] M fun t29 M1 =>
 OP (aun .not t29) fun t30 =>
 BR t30 (
 nD x0 x1 x2 x8 x9 M1 Q
 ) (
 gl x0 x1 x8 x9 M1 Q
 )
 ) (
 gl x0 x1 x8 x9 M Q
 )
 ) (
 gl x0 x1 x8 x9 M Q
 )
theorem tU (h : nK x0 x1 x2 x8 x9 M Q) : eN x0 x1 x2 x8 x9 M Q := by
 rintro f rfl rfl rfl rfl rfl
 refine lp ?_
 exact ru (N := 123) (ct := (.two .no (.here 1000)))
  [⟨1002, fun a M => dfr a.defers (nD (a.get 0) (a.get 1) (a.get 2) (a.get 8) (a.get 9) M Q), Aa Try.f80 [1, 1, 1, 0, 0, 0, 1] Q⟩,
  ⟨2, fun a M => dfr a.defers (gl (a.get 0) (a.get 1) (a.get 8) (a.get 9) M Q), Aa Try.f80 [1, 1, 1, 1] Q⟩]
  [1000] [2]
  ⟨en fun f M h => h f rfl rfl rfl rfl rfl,
  en fun f M h => h f rfl rfl rfl rfl,
  trivial⟩
  h
def tH (x0 x1 x2 x8 x9 : Value) (M : Store) (Q : KP) : Prop :=
 OP (ad .add x9 (.int .i64 1)) fun t38 =>
 OP (slV 4 Ty.c x1 (some x9) (some t38) M) fun t39 =>
 R F.g #[x0, t39, (.int .i64 0), (.int .i64 1), (.bool true), (.string ⟨#[]⟩), (.string ⟨#[]⟩)] M fun t40 M1 =>
 OP (lenV x8) fun t42 =>
 OP (ad .geq t42 x2) fun t44 =>
 BR t44 (
 OP (ixA 4 x1 x9) fun t48 =>
 OP (ld 4 true t48 M1) fun t49 =>
 R F.a #[x0, (.int .i64 7), t49] M1 fun t50 M2 =>
 jn x0 x1 x2 x8 x9 M2 Q
 ) (
 jn x0 x1 x2 x8 x9 M1 Q
 )
theorem Bm (h : tH x0 x1 x2 x8 x9 M Q) : nD x0 x1 x2 x8 x9 M Q := by
 rintro f rfl rfl rfl rfl rfl
 exact ru (N := 123) (ct := (.two (.two (.two .no (.two .no (.here 1000))) .no) (.here 1001)))
  [⟨1002, fun a M => dfr a.defers (jn (a.get 0) (a.get 1) (a.get 2) (a.get 8) (a.get 9) M Q), Aa Try.f80 [1, 1, 1, 0, 0, 0, 1, 0, 0, 1, 1] Q⟩,
  ⟨1003, fF, Aa Try.f80 [1, 1, 1, 0, 0, 0, 1, 1] Q⟩]
  [1000, 1001] []
  ⟨en fun f M h => h f rfl rfl rfl rfl rfl,
  el,
  trivial⟩
  h
def tI (x0 x1 x8 x9 : Value) (M : Store) (Q : KP) : Prop :=
 OP (cg x0) fun t93 =>
 OP (fad 4 t93) fun t94 =>
 OP (fad 0 t94) fun t95 =>
 OP (ld 1 false t95 M) fun t96 =>
 OP (ad .eql t96 (.int .i64 0)) fun t97 =>
 BR t97 (
 OP (lenV x8) fun t100 =>
 OP (ad .eql t100 (.int .i64 0)) fun t101 =>
 BR t101 (
 OP (lenV x1) fun t105 =>
 OP (ad .lss x9 t105) fun t106 =>
 BR t106 (
 OP (ixA 4 x1 x9) fun t110 =>
 OP (ld 4 true t110 M) fun t111 =>
 R F.a #[x0, (.int .i64 4), t111] M fun t112 M1 =>
 OP (ixA 4 x1 (.int .i64 0)) fun t115 =>
 OP (ld 4 true t115 M1) fun t116 =>
 R F.a #[x0, (.int .i64 4), t116] M1 fun t117 M2 =>
 R F.q #[x0, x1, x9, (.string ⟨#[58]⟩)] M2 fun t122 M3 =>
 NTs [x8, t122] ∧ Q (.tuple #[x8, t122]) M3
 ) (
 OP (ixA 4 x1 (.int .i64 0)) fun t115_1 =>
 OP (ld 4 true t115_1 M) fun t116_1 =>
 R F.a #[x0, (.int .i64 4), t116_1] M fun t117_1 M4 =>
 R F.q #[x0, x1, x9, (.string ⟨#[58]⟩)] M4 fun t122_1 M5 =>
 NTs [x8, t122_1] ∧ Q (.tuple #[x8, t122_1]) M5
 )
 ) (
 R F.q #[x0, x1, x9, (.string ⟨#[58]⟩)] M fun t122_2 M6 =>
 NTs [x8, t122_2] ∧ Q (.tuple #[x8, t122_2]) M6
 )
 ) (
 R F.q #[x0, x1, x9, (.string ⟨#[58]⟩)] M fun t122_3 M7 =>
 NTs [x8, t122_3] ∧ Q (.tuple #[x8, t122_3]) M7
 )
theorem Bn (h : tI x0 x1 x8 x9 M Q) : gl x0 x1 x8 x9 M Q := by
 rintro f rfl rfl rfl rfl
 exact ru (N := 123) (ct := .no)
  [kE Try.f80 Q 1]
  [] [1]
  ⟨er,
  trivial⟩
  h
def tJ (x0 x1 x2 x8 x9 : Value) (M : Store) (Q : KP) : Prop :=
 OP (ixA 4 x1 x9) fun t54 =>
 OP (fad 0 t54) fun t55 =>
 OP (ld 1 false t55 M) fun t56 =>
 R F.d1 #[x0, t56] M fun t57 M1 =>
 dG x0 x1 x2 x8 x9 t57 (.int .i64 0) M1 Q
theorem Bo (h : tJ x0 x1 x2 x8 x9 M Q) : jn x0 x1 x2 x8 x9 M Q := by
 rintro f rfl rfl rfl rfl rfl
 exact ru (N := 123) (ct := (.two .no (.two (.two .no (.two (.here 1000) .no)) (.here 1001))))
  [⟨1002, fun a M => dfr a.defers (dG (a.get 0) (a.get 1) (a.get 2) (a.get 8) (a.get 9) (a.get 10) (a.get 11) M Q), Aa Try.f80 [1, 1, 1, 0, 0, 0, 1, 0, 0, 1, 1, 1, 0, 1, 0] Q⟩,
  ⟨1003, fF, Aa Try.f80 [1, 1, 1, 0, 0, 0, 1, 0, 0, 1, 1, 1, 1] Q⟩]
  [1000, 1001] []
  ⟨en fun f M h => h f rfl rfl rfl rfl rfl rfl rfl,
  el,
  trivial⟩
  h
def nL (x0 x1 x2 x8 x9 x10 x11 : Value) (M : Store) (Q : KP) : Prop :=
 OP (lenV x8) fun t60 =>
 OP (ad .lss x11 t60) fun t61 =>
 BR t61 (
 nF x0 x1 x2 x8 x9 x10 x11 M Q
 ) (
 jo x0 x1 x2 x8 x9 x10 M Q
 )
theorem tV (h : nL x0 x1 x2 x8 x9 x10 x11 M Q) : dG x0 x1 x2 x8 x9 x10 x11 M Q := by
 rintro f rfl rfl rfl rfl rfl rfl rfl
 refine lp ?_
 exact ru (N := 123) (ct := (.two .no (.here 1000)))
  [⟨1002, fun a M => dfr a.defers (nF (a.get 0) (a.get 1) (a.get 2) (a.get 8) (a.get 9) (a.get 10) (a.get 11) M Q), Aa Try.f80 [1, 1, 1, 0, 0, 0, 1, 0, 0, 1, 1, 1, 0, 1, 0, 0, 1] Q⟩,
  ⟨4, fun a M => dfr a.defers (jo (a.get 0) (a.get 1) (a.get 2) (a.get 8) (a.get 9) (a.get 10) M Q), Aa Try.f80 [1, 1, 1, 0, 0, 0, 1, 0, 0, 1, 1, 1, 1] Q⟩]
  [1000] [4]
  ⟨en fun f M h => h f rfl rfl rfl rfl rfl rfl rfl,
  en fun f M h => h f rfl rfl rfl rfl rfl rfl,
  trivial⟩
  h
def tK (x0 x1 x2 x8 x9 x10 x11 : Value) (M : Store) (Q : KP) : Prop :=
 BR x10 (
 OP (ad .add x11 (.int .i64 1)) fun t63 =>
 dG x0 x1 x2 x8 x9 (.bool true) t63 M Q
 ) (
 OP (ixA 1 x8 x11) fun t68 =>
 OP (ld 1 false t68 M) fun t69 =>
 OP (ixA 4 x1 x9) fun t72 =>
 OP (fad 0 t72) fun t73 =>
 OP (ld 1 false t73 M) fun t74 =>
 OP (ao .eql t69 t74) fun t75 =>
 OP (ad .add x11 (.int .i64 1)) fun t63_1 =>
 dG x0 x1 x2 x8 x9 t75 t63_1 M Q
 )
theorem Bp (h : tK x0 x1 x2 x8 x9 x10 x11 M Q) : nF x0 x1 x2 x8 x9 x10 x11 M Q := by
 rintro f rfl rfl rfl rfl rfl rfl rfl
 exact ru (N := 123) (ct := .no)
  [⟨0, fun a M => dfr a.defers (dG (a.get 0) (a.get 1) (a.get 2) (a.get 8) (a.get 9) (a.get 10) (a.get 11) M Q), Aa Try.f80 [1, 1, 1, 0, 0, 0, 1, 0, 0, 1, 1, 1, 0, 1, 0] Q⟩]
  [] [0]
  ⟨en fun f M h => h f rfl rfl rfl rfl rfl rfl rfl,
  trivial⟩
  h
def tL (x0 x1 x2 x8 x9 x10 : Value) (M : Store) (Q : KP) : Prop :=
 BR x10 (
 OP (ixA 4 x1 x9) fun t81 =>
 OP (ld 4 true t81 M) fun t82 =>
 R F.a #[x0, (.int .i64 8), t82] M fun t83 M1 =>
 OP (ixA 4 x1 x9) fun t87 =>
 OP (fad 0 t87) fun t88 =>
 OP (ld 1 false t88 M1) fun t89 =>
 OP (al (.string ⟨#[]⟩) 1 1 [(0, t89)]) fun c =>
 LT (.slice (some ⟨M1.n, 0, none⟩) 1 1) (M1.push (some (.inl (c, Ty.a, true)))) fun t90 M2 =>
 OP2 (appV 1 Ty.a x8 t90 M2) fun t91 M3 =>
 jp x0 x1 x2 t91 x9 M3 Q
 ) (
 OP (ixA 4 x1 x9) fun t87_1 =>
 OP (fad 0 t87_1) fun t88_1 =>
 OP (ld 1 false t88_1 M) fun t89_1 =>
 OP (al (.string ⟨#[]⟩) 1 1 [(0, t89_1)]) fun c_1 =>
 LT (.slice (some ⟨M.n, 0, none⟩) 1 1) (M.push (some (.inl (c_1, Ty.a, true)))) fun t90_1 M4 =>
 OP2 (appV 1 Ty.a x8 t90_1 M4) fun t91_1 M5 =>
 jp x0 x1 x2 t91_1 x9 M5 Q
 )
theorem Bq (h : tL x0 x1 x2 x8 x9 x10 M Q) : jo x0 x1 x2 x8 x9 x10 M Q := by
 rintro f rfl rfl rfl rfl rfl rfl
 exact ru (N := 123) (ct := .no)
  [⟨0, fun a M => dfr a.defers (jp (a.get 0) (a.get 1) (a.get 2) (a.get 8) (a.get 9) M Q), Aa Try.f80 [1, 1, 1, 0, 0, 0, 1, 1] Q⟩]
  [] [0]
  ⟨en fun f M h => h f rfl rfl rfl rfl rfl,
  trivial⟩
  h
def tM (x0 x1 x2 x8 x9 : Value) (M : Store) (Q : KP) : Prop :=
 OP (ad .add x9 (.int .i64 1)) fun t33 =>
 eN x0 x1 x2 x8 t33 M Q
theorem Br (h : tM x0 x1 x2 x8 x9 M Q) : jp x0 x1 x2 x8 x9 M Q := by
 rintro f rfl rfl rfl rfl rfl
 exact ru (N := 123) (ct := .no)
  [⟨0, fun a M => dfr a.defers (eN (a.get 0) (a.get 1) (a.get 2) (a.get 8) (a.get 9) M Q), Aa Try.f80 [1, 1, 1, 0, 0] Q⟩]
  [] [0]
  ⟨en fun f M h => h f rfl rfl rfl rfl rfl,
  trivial⟩
  h
def cq (x0 x1 x3 x9 x10 x11 : Value) (M : Store) (Q : KP) : Prop :=
 ∀ f : Nat → Value, f 0 = x0 → f 1 = x1 → f 3 = x3 → f 9 = x9 → f 10 = x10 → f 11 = x11 → An Try.f81 [1, 1, 1, 0, 1, 0] 89 f M Q
def nB (x0 x1 x3 x9 x10 x11 : Value) (M : Store) (Q : KP) : Prop :=
 ∀ f : Nat → Value, f 0 = x0 → f 1 = x1 → f 3 = x3 → f 9 = x9 → f 10 = x10 → f 11 = x11 → An Try.f81 [1, 1, 1, 0, 1, 0, 0, 1] 89 f M Q
def jj (x0 x1 x3 x9 : Value) (M : Store) (Q : KP) : Prop :=
 ∀ f : Nat → Value, f 0 = x0 → f 1 = x1 → f 3 = x3 → f 9 = x9 → An Try.f81 [1, 1, 1, 1] 89 f M Q
def eL (x0 x1 x3 x9 x10 x11 : Value) (M : Store) (Q : KP) : Prop :=
 ∀ f : Nat → Value, f 0 = x0 → f 1 = x1 → f 3 = x3 → f 9 = x9 → f 10 = x10 → f 11 = x11 → An Try.f81 [1, 1, 1, 0, 1, 0, 0, 1, 0, 0, 1] 89 f M Q
def jk (x0 x1 x3 x9 x10 x11 x12 : Value) (M : Store) (Q : KP) : Prop :=
 ∀ f : Nat → Value, f 0 = x0 → f 1 = x1 → f 3 = x3 → f 9 = x9 → f 10 = x10 → f 11 = x11 → f 12 = x12 → An Try.f81 [1, 1, 1, 0, 1, 0, 0, 1, 0, 0, 1, 1, 1] 89 f M Q
def jm (x0 x1 x3 x9 x10 x11 x12 : Value) (M : Store) (Q : KP) : Prop :=
 ∀ f : Nat → Value, f 0 = x0 → f 1 = x1 → f 3 = x3 → f 9 = x9 → f 10 = x10 → f 11 = x11 → f 12 = x12 → An Try.f81 [1, 1, 1, 0, 1, 0, 0, 1, 0, 0, 1, 1, 1, 1] 89 f M Q
def eM (x0 x1 x3 x9 x10 x11 : Value) (M : Store) (Q : KP) : Prop :=
 ∀ f : Nat → Value, f 0 = x0 → f 1 = x1 → f 3 = x3 → f 9 = x9 → f 10 = x10 → f 11 = x11 → An Try.f81 [1, 1, 1, 0, 1, 0, 0, 1, 1] 89 f M Q
def xP (x0 x1 x2 x3 : Value) (M : Store) (Q : KP) : Prop :=
 cq x0 x1 x3 (.slice none 0 0) x2 x2 M Q
theorem Ey (h : xP x0 x1 x2 x3 M Q) : R F.O #[x0, x1, x2, x3] M Q := by
 refine ro Try.func81 ?_
 exact ru (N := 89) (ct := (.two .no (.two .no (.two .no (.two (.two .no (.two (.here 1000) .no)) (.here 1001))))))
  [⟨1002, fun a M => dfr a.defers (cq (a.get 0) (a.get 1) (a.get 3) (a.get 9) (a.get 10) (a.get 11) M Q), Aa Try.f81 [1, 1, 1, 0, 1, 0] Q⟩,
  ⟨1003, fF, Aa Try.f81 [1, 1, 1, 1] Q⟩]
  [1000, 1001] []
  ⟨en fun f M h => h f rfl rfl rfl rfl rfl rfl,
  el,
  trivial⟩
  h
def jq (x0 x1 x3 x9 x10 x11 : Value) (M : Store) (Q : KP) : Prop :=
 OP (lenV x1) fun t19 =>
 OP (ad .leq x11 t19) fun t20 =>
 BR t20 (
 OP (cg x0) fun t23 =>
 OP (fad 4 t23) fun t24 =>
 OP (fad 0 t24) fun t25 =>
 OP (ld 1 false t25 M) fun t26 =>
 OP (ad .eql t26 (.int .i64 0)) fun t27 =>
 BR t27 (
 nB x0 x1 x3 x9 x10 x11 M Q
 ) (
 jj x0 x1 x3 x9 M Q
 )
 ) (
 jj x0 x1 x3 x9 M Q
 )
theorem nO (h : jq x0 x1 x3 x9 x10 x11 M Q) : cq x0 x1 x3 x9 x10 x11 M Q := by
 rintro f rfl rfl rfl rfl rfl rfl
 refine lp ?_
 exact ru (N := 89) (ct := (.two .no (.here 1000)))
  [⟨1002, fun a M => dfr a.defers (nB (a.get 0) (a.get 1) (a.get 3) (a.get 9) (a.get 10) (a.get 11) M Q), Aa Try.f81 [1, 1, 1, 0, 1, 0, 0, 1] Q⟩,
  ⟨2, fun a M => dfr a.defers (jj (a.get 0) (a.get 1) (a.get 3) (a.get 9) M Q), Aa Try.f81 [1, 1, 1, 1] Q⟩]
  [1000] [2]
  ⟨en fun f M h => h f rfl rfl rfl rfl rfl rfl,
  en fun f M h => h f rfl rfl rfl rfl,
  trivial⟩
  h
def nI (x0 x1 x3 x9 x10 x11 : Value) (M : Store) (Q : KP) : Prop :=
 OP (lenV x1) fun t33 =>
 OP (ad .lss x11 t33) fun t34 =>
 BR t34 (
 OP (ixA 4 x1 x11) fun t38 =>
 OP (ld 4 true t38 M) fun t39 =>
 R F.j #[t39, (.string ⟨#[44]⟩)] M fun t40 M1 =>
 OP (aun .not t40) fun t41 =>
 BR t41 (
 eM x0 x1 x3 x9 x10 x11 M1 Q
 ) (
 eL x0 x1 x3 x9 x10 x11 M1 Q
 )
 ) (
 eL x0 x1 x3 x9 x10 x11 M Q
 )
theorem tS (h : nI x0 x1 x3 x9 x10 x11 M Q) : nB x0 x1 x3 x9 x10 x11 M Q := by
 rintro f rfl rfl rfl rfl rfl rfl
 exact ru (N := 89) (ct := (.two (.two (.two .no (.here 1000)) .no) (.here 1001)))
  [⟨1002, fun a M => dfr a.defers (eL (a.get 0) (a.get 1) (a.get 3) (a.get 9) (a.get 10) (a.get 11) M Q), Aa Try.f81 [1, 1, 1, 0, 1, 0, 0, 1, 0, 0, 1] Q⟩,
  ⟨1003, fun a M => dfr a.defers (eM (a.get 0) (a.get 1) (a.get 3) (a.get 9) (a.get 10) (a.get 11) M Q), Aa Try.f81 [1, 1, 1, 0, 1, 0, 0, 1, 1] Q⟩]
  [1000, 1001] []
  ⟨en fun f M h => h f rfl rfl rfl rfl rfl rfl,
  en fun f M h => h f rfl rfl rfl rfl rfl rfl,
  trivial⟩
  h
def tD (x0 x1 x3 x9 : Value) (M : Store) (Q : KP) : Prop :=
 OP (lenV x9) fun t80 =>
 OP (ad .lss t80 x3) fun t82 =>
 BR t82 (
 OP (ixA 4 x1 (.int .i64 0)) fun t85 =>
 OP (ld 4 true t85 M) fun t86 =>
 R F.a #[x0, (.int .i64 4), t86] M fun t87 M1 =>
 NTs [x9] ∧ Q x9 M1
 ) (
 NTs [x9] ∧ Q x9 M
 )
theorem Bi (h : tD x0 x1 x3 x9 M Q) : jj x0 x1 x3 x9 M Q := by
 rintro f rfl rfl rfl rfl
 exact ru (N := 89) (ct := .no)
  [kE Try.f81 Q 1]
  [] [1]
  ⟨er,
  trivial⟩
  h
def tE (x0 x1 x3 x9 x10 x11 : Value) (M : Store) (Q : KP) : Prop :=
 OP (ixA 4 x1 (.int .i64 0)) fun t44 =>
 OP (ld 4 true t44 M) fun t45 =>
 LT (.pointer (some ⟨M.n, 0, none⟩)) (M.push (some (.inl ([(.string ⟨#[]⟩), (.int .i64 0), (.int .i64 0), (.bool false)], Ty.c, true)))) fun t12 M1 =>
 OP (st 4 t12 t45 M1) fun M2 =>
 OP (ad .lss x10 x11) fun t48 =>
 BR t48 (
 OP (ixA 4 x1 x10) fun t51 =>
 OP (ld 4 true t51 M2) fun t52 =>
 OP (st 4 t12 t52 M2) fun M3 =>
 jk x0 x1 x3 x9 x10 x11 t12 M3 Q
 ) (
 jk x0 x1 x3 x9 x10 x11 t12 M2 Q
 )
theorem Bj (h : tE x0 x1 x3 x9 x10 x11 M Q) : eL x0 x1 x3 x9 x10 x11 M Q := by
 rintro f rfl rfl rfl rfl rfl rfl
 exact ru (N := 89) (ct := (.two .no (.two .no (.here 1000))))
  [⟨1002, fun a M => dfr a.defers (jk (a.get 0) (a.get 1) (a.get 3) (a.get 9) (a.get 10) (a.get 11) (a.get 12) M Q), Aa Try.f81 [1, 1, 1, 0, 1, 0, 0, 1, 0, 0, 1, 1, 1] Q⟩]
  [1000] []
  ⟨en fun f M h => h f rfl rfl rfl rfl rfl rfl rfl,
  trivial⟩
  h
def tF (x0 x1 x3 x9 x10 x11 x12 : Value) (M : Store) (Q : KP) : Prop :=
 OP (lenV x9) fun t54 =>
 OP (ad .geq t54 x3) fun t56 =>
 BR t56 (
 OP (ld 4 true x12 M) fun t58 =>
 R F.a #[x0, (.int .i64 7), t58] M fun t59 M1 =>
 jm x0 x1 x3 x9 x10 x11 x12 M1 Q
 ) (
 jm x0 x1 x3 x9 x10 x11 x12 M Q
 )
theorem Bk (h : tF x0 x1 x3 x9 x10 x11 x12 M Q) : jk x0 x1 x3 x9 x10 x11 x12 M Q := by
 rintro f rfl rfl rfl rfl rfl rfl rfl
 exact ru (N := 89) (ct := (.two .no (.here 1000)))
  [⟨1002, fun a M => dfr a.defers (jm (a.get 0) (a.get 1) (a.get 3) (a.get 9) (a.get 10) (a.get 11) (a.get 12) M Q), Aa Try.f81 [1, 1, 1, 0, 1, 0, 0, 1, 0, 0, 1, 1, 1, 1] Q⟩]
  [1000] []
  ⟨en fun f M h => h f rfl rfl rfl rfl rfl rfl rfl,
  trivial⟩
  h
def tG (x0 x1 x3 x9 x10 x11 x12 : Value) (M : Store) (Q : KP) : Prop :=
 OP (slV 4 Ty.c x1 (some x10) (some x11) M) fun t64 =>
 R F.x #[t64] M fun t65 M1 =>
 OP (tup t65 0) fun t66 =>
 OP (tup t65 1) fun t67 =>
 OP (aun .not t67) fun t69 =>
 BR t69 (
 OP (ld 4 true x12 M1) fun t71 =>
 R F.a #[x0, (.int .i64 9), t71] M1 fun t72 M2 =>
 OP (al (.slice none 0 0) 1 1 [(0, t66)]) fun c =>
 LT (.slice (some ⟨M2.n, 0, none⟩) 1 1) (M2.push (some (.inl (c, Ty.k, true)))) fun t75 M3 =>
 OP2 (appV 1 Ty.k x9 t75 M3) fun t76 M4 =>
 OP (ad .add x11 (.int .i64 1)) fun t78 =>
 eM x0 x1 x3 t76 t78 x11 M4 Q
 ) (
 OP (al (.slice none 0 0) 1 1 [(0, t66)]) fun c_1 =>
 LT (.slice (some ⟨M1.n, 0, none⟩) 1 1) (M1.push (some (.inl (c_1, Ty.k, true)))) fun t75_1 M5 =>
 OP2 (appV 1 Ty.k x9 t75_1 M5) fun t76_1 M6 =>
 OP (ad .add x11 (.int .i64 1)) fun t78_1 =>
 eM x0 x1 x3 t76_1 t78_1 x11 M6 Q
 )
theorem Bl (h : tG x0 x1 x3 x9 x10 x11 x12 M Q) : jm x0 x1 x3 x9 x10 x11 x12 M Q := by
 rintro f rfl rfl rfl rfl rfl rfl rfl
 exact ru (N := 89) (ct := .no)
  [⟨0, fun a M => dfr a.defers (eM (a.get 0) (a.get 1) (a.get 3) (a.get 9) (a.get 10) (a.get 11) M Q), Aa Try.f81 [1, 1, 1, 0, 1, 0, 0, 1, 1] Q⟩]
  [] [0]
  ⟨en fun f M h => h f rfl rfl rfl rfl rfl rfl,
  trivial⟩
  h
def nJ (x0 x1 x3 x9 x10 x11 : Value) (M : Store) (Q : KP) : Prop :=
 OP (ad .add x11 (.int .i64 1)) fun t30 =>
 cq x0 x1 x3 x9 x10 t30 M Q
theorem tT (h : nJ x0 x1 x3 x9 x10 x11 M Q) : eM x0 x1 x3 x9 x10 x11 M Q := by
 rintro f rfl rfl rfl rfl rfl rfl
 exact ru (N := 89) (ct := .no)
  [⟨0, fun a M => dfr a.defers (cq (a.get 0) (a.get 1) (a.get 3) (a.get 9) (a.get 10) (a.get 11) M Q), Aa Try.f81 [1, 1, 1, 0, 1, 0] Q⟩]
  [] [0]
  ⟨en fun f M h => h f rfl rfl rfl rfl rfl rfl,
  trivial⟩
  h
end Go.G

open Go.RowKit
namespace Go.G
open Go.Ab Go.Proofs
set_option linter.unusedVariables false
set_option maxRecDepth 100000
variable {x0 x1 x2 x5 x6 x7 x9 : Value} {M : Store} {Q : KP}
def fP (x0 x1 x5 x6 : Value) (M : Store) (Q : KP) : Prop :=
 ∀ f : Nat → Value, f 0 = x0 → f 1 = x1 → f 5 = x5 → f 6 = x6 → An Try.f64 [1, 1, 0, 1, 0] 102 f M Q
def o0 (x0 x1 x5 x6 : Value) (M : Store) (Q : KP) : Prop :=
 ∀ f : Nat → Value, f 0 = x0 → f 1 = x1 → f 5 = x5 → f 6 = x6 → An Try.f64 [1, 1, 0, 1, 0, 0, 1] 102 f M Q
def pa (x5 : Value) (M : Store) (Q : KP) : Prop :=
 ∀ f : Nat → Value, f 5 = x5 → An Try.f64 [1, 1, 1] 102 f M Q
def ii (x0 x1 x5 x6 : Value) (M : Store) (Q : KP) : Prop :=
 ∀ f : Nat → Value, f 0 = x0 → f 1 = x1 → f 5 = x5 → f 6 = x6 → An Try.f64 [1, 1, 0, 1, 0, 0, 1, 1] 102 f M Q
def vd (x0 x1 x5 x6 x7 : Value) (M : Store) (Q : KP) : Prop :=
 ∀ f : Nat → Value, f 0 = x0 → f 1 = x1 → f 5 = x5 → f 6 = x6 → f 7 = x7 → An Try.f64 [1, 1, 0, 1, 0, 0, 1, 0, 0, 1, 1] 102 f M Q
def zt (x0 x1 : Value) (M : Store) (Q : KP) : Prop :=
 OP (al (.agg #[(.string ⟨#[]⟩), (.int .i64 0), (.int .i64 0), (.bool false)]) 4 0 []) fun c =>
 LT (.slice (some ⟨M.n, 0, none⟩) 0 0) (M.push (some (.inl (c, Ty.c, true)))) fun t11 M1 =>
 OP (slV 4 Ty.c x1 none (some (.int .i64 1)) M1) fun t13 =>
 OP2 (appV 4 Ty.c t11 t13 M1) fun t14 M2 =>
 fP x0 x1 t14 (.int .i64 1) M2 Q
theorem FQ (h : zt x0 x1 M Q) : R F.e1 #[x0, x1] M Q := by
 refine ro Try.func64 ?_
 exact ru (N := 102) (ct := (.two .no (.two .no (.two (.two .no (.two (.here 1000) .no)) (.here 1001)))))
  [⟨1002, fun a M => dfr a.defers (fP (a.get 0) (a.get 1) (a.get 5) (a.get 6) M Q), Aa Try.f64 [1, 1, 0, 1, 0] Q⟩,
  ⟨1003, fF, Aa Try.f64 [1, 1, 1] Q⟩]
  [1000, 1001] []
  ⟨en fun f M h => h f rfl rfl rfl rfl,
  el,
  trivial⟩
  h
def pg (x0 x1 x5 x6 : Value) (M : Store) (Q : KP) : Prop :=
 OP (lenV x1) fun t17 =>
 OP (ad .lss x6 t17) fun t18 =>
 BR t18 (
 o0 x0 x1 x5 x6 M Q
 ) (
 pa x5 M Q
 )
theorem wd (h : pg x0 x1 x5 x6 M Q) : fP x0 x1 x5 x6 M Q := by
 rintro f rfl rfl rfl rfl
 refine lp ?_
 exact ru (N := 102) (ct := (.two .no (.here 1000)))
  [⟨1002, fun a M => dfr a.defers (o0 (a.get 0) (a.get 1) (a.get 5) (a.get 6) M Q), Aa Try.f64 [1, 1, 0, 1, 0, 0, 1] Q⟩,
  ⟨2, fun a M => dfr a.defers (pa (a.get 5) M Q), Aa Try.f64 [1, 1, 1] Q⟩]
  [1000] [2]
  ⟨en fun f M h => h f rfl rfl rfl rfl,
  en fun f M h => h f rfl,
  trivial⟩
  h
def vE (x0 x1 x5 x6 : Value) (M : Store) (Q : KP) : Prop :=
 OP (ixA 4 x1 x6) fun t23 =>
 OP (ld 4 true t23 M) fun t24 =>
 LT (.pointer (some ⟨M.n, 0, none⟩)) (M.push (some (.inl ([(.string ⟨#[]⟩), (.int .i64 0), (.int .i64 0), (.bool false)], Ty.c, true)))) fun t7 M1 =>
 OP (st 4 t7 t24 M1) fun M2 =>
 OP (fad 3 t7) fun t25 =>
 OP (ld 1 false t25 M2) fun t26 =>
 BR t26 (
 OP (ld 4 true t7 M2) fun t34 =>
 OP (al (.agg #[(.string ⟨#[]⟩), (.int .i64 0), (.int .i64 0), (.bool false)]) 4 1 [(0, t34)]) fun c =>
 LT (.slice (some ⟨M2.n, 0, none⟩) 1 1) (M2.push (some (.inl (c, Ty.c, true)))) fun t35 M3 =>
 OP2 (appV 4 Ty.c x5 t35 M3) fun t36 M4 =>
 ii x0 x1 t36 x6 M4 Q
 ) (
 OP (fad 0 t7) fun t28 =>
 OP (ld 1 false t28 M2) fun t29 =>
 OP (ixS t29 (.int .i64 0)) fun t30 =>
 OP (ad .neq t30 (.int .u8 36)) fun t31 =>
 BR t31 (
 OP (ld 4 true t7 M2) fun t34_1 =>
 OP (al (.agg #[(.string ⟨#[]⟩), (.int .i64 0), (.int .i64 0), (.bool false)]) 4 1 [(0, t34_1)]) fun c_1 =>
 LT (.slice (some ⟨M2.n, 0, none⟩) 1 1) (M2.push (some (.inl (c_1, Ty.c, true)))) fun t35_1 M5 =>
 OP2 (appV 4 Ty.c x5 t35_1 M5) fun t36_1 M6 =>
 ii x0 x1 t36_1 x6 M6 Q
 ) (
 vd x0 x1 x5 x6 t7 M2 Q
 )
 )
theorem C7 (h : vE x0 x1 x5 x6 M Q) : o0 x0 x1 x5 x6 M Q := by
 rintro f rfl rfl rfl rfl
 exact ru (N := 102) (ct := (.two (.two (.two .no (.two .no (.here 1000))) .no) (.here 1001)))
  [⟨1002, fun a M => dfr a.defers (vd (a.get 0) (a.get 1) (a.get 5) (a.get 6) (a.get 7) M Q), Aa Try.f64 [1, 1, 0, 1, 0, 0, 1, 0, 0, 1, 1] Q⟩,
  ⟨1003, fun a M => dfr a.defers (ii (a.get 0) (a.get 1) (a.get 5) (a.get 6) M Q), Aa Try.f64 [1, 1, 0, 1, 0, 0, 1, 1] Q⟩]
  [1000, 1001] []
  ⟨en fun f M h => h f rfl rfl rfl rfl rfl,
  en fun f M h => h f rfl rfl rfl rfl,
  trivial⟩
  h
def vF (x5 : Value) (M : Store) (Q : KP) : Prop :=
 NTs [x5] ∧ Q x5 M
theorem C8 (h : vF x5 M Q) : pa x5 M Q := by
 rintro f rfl
 exact ru (N := 102) (ct := .no)
  [kE Try.f64 Q 1]
  [] [1]
  ⟨er,
  trivial⟩
  h
def vG (x0 x1 x5 x6 : Value) (M : Store) (Q : KP) : Prop :=
 OP (ad .add x6 (.int .i64 1)) fun t20 =>
 fP x0 x1 x5 t20 M Q
theorem C9 (h : vG x0 x1 x5 x6 M Q) : ii x0 x1 x5 x6 M Q := by
 rintro f rfl rfl rfl rfl
 exact ru (N := 102) (ct := .no)
  [⟨0, fun a M => dfr a.defers (fP (a.get 0) (a.get 1) (a.get 5) (a.get 6) M Q), Aa Try.f64 [1, 1, 0, 1, 0] Q⟩]
  [] [0]
  ⟨en fun f M h => h f rfl rfl rfl rfl,
  trivial⟩
  h
def gm (x0 x1 x2 x6 : Value) (M : Store) (Q : KP) : Prop :=
 ∀ f : Nat → Value, f 0 = x0 → f 1 = x1 → f 2 = x2 → f 6 = x6 → An Try.f67 [1, 1, 1] 104 f M Q
def eO (x0 x7 : Value) (M : Store) (Q : KP) : Prop :=
 ∀ f : Nat → Value, f 0 = x0 → f 7 = x7 → An Try.f67 [1, 1, 1, 1, 1, 1, 1] 104 f M Q
def eP (x0 x1 x7 x9 : Value) (M : Store) (Q : KP) : Prop :=
 ∀ f : Nat → Value, f 0 = x0 → f 1 = x1 → f 7 = x7 → f 9 = x9 → An Try.f67 [1, 1, 1, 1, 1, 1, 0, 1, 1, 1, 1] 104 f M Q
def xS (x0 x1 x2 : Value) (M : Store) (Q : KP) : Prop :=
 OP (cg x0) fun t11 =>
 OP (fad 0 t11) fun t12 =>
 OP (fad 0 t12) fun t13 =>
 OP (ld 1 false t13 M) fun t14 =>
 OP (lenV t14) fun t15 =>
 OP (ad .geq t15 (.int .i64 64)) fun t16 =>
 BR t16 (
 OP (ixA 4 x1 (.int .i64 0)) fun t19 =>
 OP (ld 4 true t19 M) fun t20 =>
 R F.a #[x0, (.int .i64 11), t20] M fun t21 M1 =>
 NTs [] ∧ Q (.tuple #[]) M1
 ) (
 BR x2 (
 gm x0 x1 x2 (.int .i64 1) M Q
 ) (
 gm x0 x1 x2 (.int .i64 4) M Q
 )
 )
theorem EB (h : xS x0 x1 x2 M Q) : R F.A #[x0, x1, x2] M Q := by
 refine ro Try.func67 ?_
 exact ru (N := 104) (ct := (.two .no (.two .no (.two .no (.here 1000)))))
  [⟨1002, fun a M => dfr a.defers (gm (a.get 0) (a.get 1) (a.get 2) (a.get 6) M Q), Aa Try.f67 [1, 1, 1] Q⟩,
  kE Try.f67 Q 1]
  [1000] [1]
  ⟨en fun f M h => h f rfl rfl rfl rfl,
  er,
  trivial⟩
  h
def tN (x0 x1 x2 x6 : Value) (M : Store) (Q : KP) : Prop :=
 OP (bB #[(.slice none 0 0), (.slice none 0 0), (.slice none 0 0), (.slice none 0 0), (.bool false)] [(0, 1), (1, 1), (2, 1), (3, 1), (4, 1)] [(4, x2)]) fun t24 =>
 LT (.pointer (some ⟨M.n, 0, none⟩)) (M.push (some (.inl ([(.slice none 0 0), (.slice none 0 0), (.slice none 0 0), (.slice none 0 0), (.bool false)], Ty.g, true)))) fun t7 M1 =>
 OP (st 5 t7 t24 M1) fun M2 =>
 R F.b1 #[x0, x1, x6] M2 fun t29 M3 =>
 OP (tup t29 0) fun t30 =>
 OP (tup t29 1) fun t31 =>
 OP (fad 0 t7) fun t33 =>
 OP (st 1 t33 t30 M3) fun M4 =>
 BR x2 (
 OP (lenV x1) fun t40 =>
 OP (fQ t31 t40) fun t41 =>
 R F.g #[x0, x1, t41, (.int .i64 8), (.bool true), (.string ⟨#[]⟩), (.string ⟨#[]⟩)] M4 fun t42 M5 =>
 OP (tup t42 0) fun t43 =>
 OP (tup t42 1) fun t44 =>
 OP (fad 1 t7) fun t45 =>
 OP (st 1 t45 t43 M5) fun M6 =>
 eO x0 t7 M6 Q
 ) (
 OP (lenV x1) fun t51 =>
 OP (fQ t31 t51) fun t52 =>
 R F.g #[x0, x1, t52, (.int .i64 8), (.bool true), (.string ⟨#[124]⟩), (.string ⟨#[61]⟩)] M4 fun t53 M7 =>
 OP (tup t53 0) fun t54 =>
 OP (tup t53 1) fun t55 =>
 OP (fad 1 t7) fun t56 =>
 OP (st 1 t56 t54 M7) fun M8 =>
 OP (lenV x1) fun t59 =>
 OP (ad .lss t55 t59) fun t60 =>
 BR t60 (
 OP (ixA 4 x1 t55) fun t64 =>
 OP (ld 4 true t64 M8) fun t65 =>
 R F.j #[t65, (.string ⟨#[124]⟩)] M8 fun t66 M9 =>
 BR t66 (
 OP (ad .add t55 (.int .i64 1)) fun t72 =>
 R F.g #[x0, x1, t72, (.int .i64 8), (.bool true), (.string ⟨#[61]⟩), (.string ⟨#[61]⟩)] M9 fun t73 M10 =>
 OP (tup t73 0) fun t74 =>
 OP (tup t73 1) fun t75 =>
 OP (fad 2 t7) fun t76 =>
 OP (st 1 t76 t74 M10) fun M11 =>
 eP x0 x1 t7 t75 M11 Q
 ) (
 eP x0 x1 t7 t55 M9 Q
 )
 ) (
 eP x0 x1 t7 t55 M8 Q
 )
 )
theorem Bs (h : tN x0 x1 x2 x6 M Q) : gm x0 x1 x2 x6 M Q := by
 rintro f rfl rfl rfl rfl
 exact ru (N := 104) (ct := (.two .no (.two .no (.two .no (.two (.two .no (.two .no (.two .no (.two .no (.here 1000))))) (.here 1001))))))
  [⟨1002, fun a M => dfr a.defers (eP (a.get 0) (a.get 1) (a.get 7) (a.get 9) M Q), Aa Try.f67 [1, 1, 1, 1, 1, 1, 0, 1, 1, 1, 1] Q⟩,
  ⟨1003, fun a M => dfr a.defers (eO (a.get 0) (a.get 7) M Q), Aa Try.f67 [1, 1, 1, 1, 1, 1, 1] Q⟩]
  [1000, 1001] []
  ⟨en fun f M h => h f rfl rfl rfl rfl,
  en fun f M h => h f rfl rfl,
  trivial⟩
  h
def tO (x0 x7 : Value) (M : Store) (Q : KP) : Prop :=
 OP (cg x0) fun t94 =>
 OP (fad 0 t94) fun t95 =>
 OP (fad 0 t95) fun t96 =>
 OP (ld 1 false t96 M) fun t97 =>
 OP (ld 5 true x7 M) fun t98 =>
 OP (al (.agg #[(.slice none 0 0), (.slice none 0 0), (.slice none 0 0), (.slice none 0 0), (.bool false)]) 5 1 [(0, t98)]) fun c =>
 LT (.slice (some ⟨M.n, 0, none⟩) 1 1) (M.push (some (.inl (c, Ty.g, true)))) fun t99 M1 =>
 OP2 (appV 5 Ty.g t97 t99 M1) fun t100 M2 =>
 TDx [0, 0, 2, 6, 14, 30, 0, 64, 254, 511, 1023, 2047, 4095] [M.n, M.n, M.n, M.n, M.n, M.n, M.n, M.n, M1.n] 8 M1 M2 ∧
 OP (cg x0) fun t101 =>
 OP (fad 0 t101) fun t102 =>
 OP (fad 0 t102) fun t103 =>
 OP (st 1 t103 t100 M2) fun M3 =>
 TDx [0, 0, 2, 6, 14, 30, 0, 64, 254, 511, 1023, 2047, 4095] [M.n, M.n, M.n, M.n, M.n, M.n, M.n, M.n, M1.n, M2.n, M2.n, M2.n, M2.n] 12 M2 M3 ∧
 NTs [] ∧ Q (.tuple #[]) M3
theorem Bt (h : tO x0 x7 M Q) : eO x0 x7 M Q := by
 rintro f rfl rfl
 exact ru (N := 104) (ct := .no)
  [kE Try.f67 Q 0]
  [] [0]
  ⟨er,
  trivial⟩
  h
def tP (x0 x1 x7 x9 : Value) (M : Store) (Q : KP) : Prop :=
 R F.q #[x0, x1, x9, (.string ⟨#[61]⟩)] M fun t80 M1 =>
 OP (lenV x1) fun t85 =>
 OP (fQ t80 t85) fun t86 =>
 OP (fad 0 x7) fun t87 =>
 OP (ld 1 false t87 M1) fun t88 =>
 OP (lenV t88) fun t89 =>
 R F.O #[x0, x1, t86, t89] M1 fun t90 M2 =>
 OP (fad 3 x7) fun t91 =>
 OP (st 1 t91 t90 M2) fun M3 =>
 eO x0 x7 M3 Q
theorem Bu (h : tP x0 x1 x7 x9 M Q) : eP x0 x1 x7 x9 M Q := by
 rintro f rfl rfl rfl rfl
 exact ru (N := 104) (ct := .no)
  [⟨0, fun a M => dfr a.defers (eO (a.get 0) (a.get 7) M Q), Aa Try.f67 [1, 1, 1, 1, 1, 1, 1] Q⟩]
  [] [0]
  ⟨en fun f M h => h f rfl rfl,
  trivial⟩
  h
end Go.G

open Go.RowKit
namespace Go.G
open Go.Ab Go.Proofs
set_option linter.unusedVariables false
set_option maxRecDepth 100000
variable {x0 x1 x2 x3 x4 x6 x7 x8 : Value} {M : Store} {Q : KP}
def dY (x2 x3 x4 x6 x7 : Value) (M : Store) (Q : KP) : Prop :=
 ∀ f : Nat → Value, f 2 = x2 → f 3 = x3 → f 4 = x4 → f 6 = x6 → f 7 = x7 → An Try.f19 [1, 1, 1, 1, 0, 1, 0] 118 f M Q
def fw (x2 x3 x6 : Value) (M : Store) (Q : KP) : Prop :=
 ∀ f : Nat → Value, f 2 = x2 → f 3 = x3 → f 6 = x6 → An Try.f19 [1, 1, 1, 1, 1] 118 f M Q
def lh (x2 x3 x6 x8 : Value) (M : Store) (Q : KP) : Prop :=
 ∀ f : Nat → Value, f 2 = x2 → f 3 = x3 → f 6 = x6 → f 8 = x8 → An Try.f19 [1, 1, 1, 1, 1, 0, 1, 0] 118 f M Q
def qH (x2 x3 x6 x8 : Value) (M : Store) (Q : KP) : Prop :=
 ∀ f : Nat → Value, f 2 = x2 → f 3 = x3 → f 6 = x6 → f 8 = x8 → An Try.f19 [1, 1, 1, 1, 1, 0, 1, 0, 0, 1] 118 f M Q
def ia (x2 x3 x6 : Value) (M : Store) (Q : KP) : Prop :=
 ∀ f : Nat → Value, f 2 = x2 → f 3 = x3 → f 6 = x6 → An Try.f19 [1, 1, 1, 1, 1, 1] 118 f M Q
def dZ (x2 x3 x6 : Value) (M : Store) (Q : KP) : Prop :=
 ∀ f : Nat → Value, f 2 = x2 → f 3 = x3 → f 6 = x6 → An Try.f19 [1, 1, 1, 1, 1, 1, 1] 118 f M Q
def vj (x0 : Value) (M : Store) (Q : KP) : Prop :=
 LT (.pointer (some ⟨M.n, 0, none⟩)) (M.push (some (.inl ([(.slice none 0 0), (.slice none 0 0)], Ty.d, true)))) fun t2 M1 =>
 LT (.pointer (some ⟨M1.n, 0, none⟩)) (M1.push (some (.inl ([(.int .i64 0), (.int .i64 0), (.int .i64 0)], Ty.h, true)))) fun t3 M2 =>
 R F.V #[x0] M2 fun t13 M3 =>
 OP (tup t13 0) fun t14 =>
 OP (tup t13 1) fun t15 =>
 LT (.pointer (some ⟨M3.n, 0, none⟩)) (M3.push (some (.inl ([(.int .i64 0), (.int .i64 0), (.int .i64 0)], Ty.h, true)))) fun t5 M4 =>
 OP (st 3 t5 t15 M4) fun M5 =>
 OP (fad 0 t5) fun t16 =>
 OP (ld 1 false t16 M5) fun t17 =>
 OP (ad .neq t17 (.int .i64 0)) fun t18 =>
 BR t18 (
 OP (bB #[(.slice none 0 0), (.slice none 0 0)] [(0, 1), (1, 1)] []) fun t19 =>
 OP (ld 3 true t5 M5) fun t20 =>
 OP (st 2 t2 t19 M5) fun M6 =>
 TDj [0] [M5.n, M5.n, M5.n] M5 M6 ∧
 OP (st 3 t3 t20 M6) fun M7 =>
 TDx [0, 0, 1, 7] [M5.n, M5.n, M5.n, M6.n] 3 M6 M7 ∧
 OP (ld 2 true t2 M7) fun r2 =>
 OP (ld 3 true t3 M7) fun r3 =>
 NTs [r2, r3] ∧ Q (.tuple #[r2, r3]) M7
 ) (
 OP (bB #[(.slice none 0 0), (.slice none 0 0), (.slice none 0 0), (.slice none 0 0), (.int .i64 0), (.int .i64 0), (.int .i64 0)] [(0, 2), (2, 1), (3, 1), (4, 3)] []) fun t21 =>
 OP (aX t21) fun c =>
 LT (.pointer (some ⟨M5.n, 0, none⟩)) (M5.push (some (.inl (c, Ty.s, true)))) fun t22 M8 =>
 dY t2 t3 t14 t22 (.int .i64 0) M8 Q
 )
theorem CO (h : vj x0 M Q) : R F.H #[x0] M Q := by
 refine ro Try.func19 ?_
 exact ru (N := 118) (ct := (.two .no (.two .no (.two .no (.two .no (.two (.two .no (.two (.here 1000) .no)) (.here 1001)))))))
  [⟨1002, fun a M => dfr a.defers (dY (a.get 2) (a.get 3) (a.get 4) (a.get 6) (a.get 7) M Q), Aa Try.f19 [1, 1, 1, 1, 0, 1, 0] Q⟩,
  ⟨1003, fF, Aa Try.f19 [1, 1, 1, 1, 1] Q⟩,
  kE Try.f19 Q 1]
  [1000, 1001] [1]
  ⟨en fun f M h => h f rfl rfl rfl rfl rfl,
  el,
  er,
  trivial⟩
  h
def lQ (x2 x3 x4 x6 x7 : Value) (M : Store) (Q : KP) : Prop :=
 OP (lenV x4) fun t25 =>
 OP (ad .lss x7 t25) fun t26 =>
 BR t26 (
 OP (cg x6) fun t29 =>
 OP (fad 4 t29) fun t30 =>
 OP (fad 0 t30) fun t31 =>
 OP (ld 1 false t31 M) fun t32 =>
 OP (ad .eql t32 (.int .i64 0)) fun t33 =>
 BR t33 (
 OP (ixA 1 x4 x7) fun t40 =>
 OP (ld 1 false t40 M) fun t41 =>
 R F.a1 #[x6, t41] M fun t42 M1 =>
 OP (ad .add x7 (.int .i64 1)) fun t36 =>
 dY x2 x3 x4 x6 t36 M1 Q
 ) (
 fw x2 x3 x6 M Q
 )
 ) (
 fw x2 x3 x6 M Q
 )
theorem rT (h : lQ x2 x3 x4 x6 x7 M Q) : dY x2 x3 x4 x6 x7 M Q := by
 rintro f rfl rfl rfl rfl rfl
 refine lp ?_
 exact ru (N := 118) (ct := .no)
  [⟨0, fun a M => dfr a.defers (dY (a.get 2) (a.get 3) (a.get 4) (a.get 6) (a.get 7) M Q), Aa Try.f19 [1, 1, 1, 1, 0, 1, 0] Q⟩,
  ⟨2, fun a M => dfr a.defers (fw (a.get 2) (a.get 3) (a.get 6) M Q), Aa Try.f19 [1, 1, 1, 1, 1] Q⟩]
  [] [0, 2]
  ⟨en fun f M h => h f rfl rfl rfl rfl rfl,
  en fun f M h => h f rfl rfl rfl,
  trivial⟩
  h
def rb (x2 x3 x6 : Value) (M : Store) (Q : KP) : Prop :=
 lh x2 x3 x6 (.int .i64 0) M Q
theorem zO (h : rb x2 x3 x6 M Q) : fw x2 x3 x6 M Q := by
 rintro f rfl rfl rfl
 exact ru (N := 118) (ct := (.two (.two .no (.two (.here 1000) .no)) (.here 1001)))
  [⟨1002, fun a M => dfr a.defers (lh (a.get 2) (a.get 3) (a.get 6) (a.get 8) M Q), Aa Try.f19 [1, 1, 1, 1, 1, 0, 1, 0] Q⟩,
  ⟨1003, fF, Aa Try.f19 [1, 1, 1, 1, 1, 1] Q⟩]
  [1000, 1001] []
  ⟨en fun f M h => h f rfl rfl rfl rfl,
  el,
  trivial⟩
  h
def re (x2 x3 x6 x8 : Value) (M : Store) (Q : KP) : Prop :=
 OP (cg x6) fun t45 =>
 OP (fad 3 t45) fun t46 =>
 OP (ld 1 false t46 M) fun t47 =>
 OP (lenV t47) fun t48 =>
 OP (ad .lss x8 t48) fun t49 =>
 BR t49 (
 OP (cg x6) fun t52 =>
 OP (fad 4 t52) fun t53 =>
 OP (fad 0 t53) fun t54 =>
 OP (ld 1 false t54 M) fun t55 =>
 OP (ad .eql t55 (.int .i64 0)) fun t56 =>
 BR t56 (
 qH x2 x3 x6 x8 M Q
 ) (
 ia x2 x3 x6 M Q
 )
 ) (
 ia x2 x3 x6 M Q
 )
theorem zP (h : re x2 x3 x6 x8 M Q) : lh x2 x3 x6 x8 M Q := by
 rintro f rfl rfl rfl rfl
 refine lp ?_
 exact ru (N := 118) (ct := (.two .no (.here 1000)))
  [⟨1002, fun a M => dfr a.defers (qH (a.get 2) (a.get 3) (a.get 6) (a.get 8) M Q), Aa Try.f19 [1, 1, 1, 1, 1, 0, 1, 0, 0, 1] Q⟩,
  ⟨4, fun a M => dfr a.defers (ia (a.get 2) (a.get 3) (a.get 6) M Q), Aa Try.f19 [1, 1, 1, 1, 1, 1] Q⟩]
  [1000] [4]
  ⟨en fun f M h => h f rfl rfl rfl rfl,
  en fun f M h => h f rfl rfl rfl,
  trivial⟩
  h
def rg (x2 x3 x6 : Value) (M : Store) (Q : KP) : Prop :=
 OP (cg x6) fun t82 =>
 OP (fad 0 t82) fun t83 =>
 OP (ld 2 true t83 M) fun t84 =>
 R F.U #[t84] M fun t85 M1 =>
 OP (tup t85 0) fun t86 =>
 OP (tup t85 1) fun t87 =>
 OP (aun .not t87) fun t89 =>
 BR t89 (
 OP (cg x6) fun t92 =>
 OP (fad 4 t92) fun t93 =>
 OP (fad 0 t93) fun t94 =>
 OP (ld 1 false t94 M1) fun t95 =>
 OP (ad .eql t95 (.int .i64 0)) fun t96 =>
 BR t96 (
 R F.i #[(.int .i64 12), (.int .i64 0), (.int .i64 0)] M1 fun t99 M2 =>
 OP (cg x6) fun t100 =>
 OP (fad 4 t100) fun t101 =>
 OP (st 3 t101 t99 M2) fun M3 =>
 dZ x2 x3 x6 M3 Q
 ) (
 dZ x2 x3 x6 M1 Q
 )
 ) (
 dZ x2 x3 x6 M1 Q
 )
theorem zQ (h : rg x2 x3 x6 M Q) : ia x2 x3 x6 M Q := by
 rintro f rfl rfl rfl
 exact ru (N := 118) (ct := (.two .no (.here 1000)))
  [⟨1002, fun a M => dfr a.defers (dZ (a.get 2) (a.get 3) (a.get 6) M Q), Aa Try.f19 [1, 1, 1, 1, 1, 1, 1] Q⟩]
  [1000] []
  ⟨en fun f M h => h f rfl rfl rfl,
  trivial⟩
  h
def rh (x2 x3 x6 : Value) (M : Store) (Q : KP) : Prop :=
 OP (cg x6) fun t103 =>
 OP (fad 4 t103) fun t104 =>
 OP (fad 0 t104) fun t105 =>
 OP (ld 1 false t105 M) fun t106 =>
 OP (ad .neq t106 (.int .i64 0)) fun t107 =>
 BR t107 (
 OP (bB #[(.slice none 0 0), (.slice none 0 0)] [(0, 1), (1, 1)] []) fun t108 =>
 OP (cg x6) fun t110 =>
 OP (fad 4 t110) fun t111 =>
 OP (ld 3 true t111 M) fun t112 =>
 OP (st 2 x2 t108 M) fun M1 =>
 TDj [0] [M.n, M.n, M.n, M.n, M.n, M.n] M M1 ∧
 OP (st 3 x3 t112 M1) fun M2 =>
 TDx [0, 0, 2, 6, 14, 1, 63] [M.n, M.n, M.n, M.n, M.n, M.n, M1.n] 6 M1 M2 ∧
 OP (ld 2 true x2 M2) fun r2 =>
 OP (ld 3 true x3 M2) fun r3 =>
 NTs [r2, r3] ∧ Q (.tuple #[r2, r3]) M2
 ) (
 OP (cg x6) fun t114 =>
 OP (fad 0 t114) fun t115 =>
 OP (ld 2 true t115 M) fun t116 =>
 OP (bB #[(.int .i64 0), (.int .i64 0), (.int .i64 0)] [(0, 1), (1, 1), (2, 1)] []) fun t117 =>
 OP (st 2 x2 t116 M) fun M3 =>
 OP (st 3 x3 t117 M3) fun M4 =>
 OP (ld 2 true x2 M4) fun r2_1 =>
 OP (ld 3 true x3 M4) fun r3_1 =>
 NTs [r2_1, r3_1] ∧ Q (.tuple #[r2_1, r3_1]) M4
 )
theorem zR (h : rh x2 x3 x6 M Q) : dZ x2 x3 x6 M Q := by
 rintro f rfl rfl rfl
 exact ru (N := 118) (ct := .no)
  [kE Try.f19 Q 1]
  [] [1]
  ⟨er,
  trivial⟩
  h
def nC (x0 x4 : Value) (M : Store) (Q : KP) : Prop :=
 ∀ f : Nat → Value, f 0 = x0 → f 4 = x4 → An Try.f46 [1, 1, 0, 1, 1, 1, 1, 1, 1, 1, 0, 1] 83 f M Q
def xQ (x0 x1 : Value) (M : Store) (Q : KP) : Prop :=
 R F.e1 #[x0, x1] M fun t7 M1 =>
 OP (cg x0) fun t9 =>
 OP (fad 4 t9) fun t10 =>
 OP (fad 0 t10) fun t11 =>
 OP (ld 1 false t11 M1) fun t12 =>
 OP (ad .neq t12 (.int .i64 0)) fun t13 =>
 BR t13 (
 NTs [] ∧ Q (.tuple #[]) M1
 ) (
 OP (ixA 4 t7 (.int .i64 0)) fun t21 =>
 OP (ld 4 true t21 M1) fun t22 =>
 R F.j #[t22, (.string ⟨#[108, 101, 116]⟩)] M1 fun t23 M2 =>
 BR t23 (
 R F.i1 #[x0, t7] M2 fun t26 M3 =>
 NTs [] ∧ Q (.tuple #[]) M3
 ) (
 OP (ixA 4 t7 (.int .i64 0)) fun t29 =>
 OP (ld 4 true t29 M2) fun t30 =>
 R F.j #[t30, (.string ⟨#[114, 117, 108, 101]⟩)] M2 fun t31 M4 =>
 BR t31 (
 R F.A #[x0, t7, (.bool false)] M4 fun t34 M5 =>
 NTs [] ∧ Q (.tuple #[]) M5
 ) (
 OP (ixA 4 t7 (.int .i64 0)) fun t37 =>
 OP (ld 4 true t37 M4) fun t38 =>
 R F.j #[t38, (.string ⟨#[112, 104, 111, 110, 121]⟩)] M4 fun t39 M6 =>
 BR t39 (
 R F.A #[x0, t7, (.bool true)] M6 fun t42 M7 =>
 NTs [] ∧ Q (.tuple #[]) M7
 ) (
 OP (ixA 4 t7 (.int .i64 0)) fun t45 =>
 OP (ld 4 true t45 M6) fun t46 =>
 R F.j #[t46, (.string ⟨#[100, 101, 102, 97, 117, 108, 116]⟩)] M6 fun t47 M8 =>
 BR t47 (
 OP (cg x0) fun t49 =>
 OP (fad 0 t49) fun t50 =>
 OP (fad 1 t50) fun t51 =>
 OP (ld 1 false t51 M8) fun t52 =>
 OP (lenV t52) fun t53 =>
 OP (ad .gtr t53 (.int .i64 0)) fun t54 =>
 BR t54 (
 OP (ixA 4 t7 (.int .i64 0)) fun t57 =>
 OP (ld 4 true t57 M8) fun t58 =>
 R F.a #[x0, (.int .i64 7), t58] M8 fun t59 M9 =>
 nC x0 t7 M9 Q
 ) (
 nC x0 t7 M8 Q
 )
 ) (
 OP (ixA 4 t7 (.int .i64 0)) fun t16 =>
 OP (ld 4 true t16 M8) fun t17 =>
 R F.a #[x0, (.int .i64 4), t17] M8 fun t18 M10 =>
 NTs [] ∧ Q (.tuple #[]) M10
 )
 )
 )
 )
 )
theorem Ez (h : xQ x0 x1 M Q) : R F.a1 #[x0, x1] M Q := by
 refine ro Try.func46 ?_
 exact ru (N := 83) (ct := (.two .no (.two .no (.two (.two .no (.two .no (.two .no (.two .no (.two .no (.two .no (.two .no (.two (.two .no (.here 1000)) .no)))))))) .no))))
  [⟨1002, fun a M => dfr a.defers (nC (a.get 0) (a.get 4) M Q), Aa Try.f46 [1, 1, 0, 1, 1, 1, 1, 1, 1, 1, 0, 1] Q⟩,
  kE Try.f46 Q 0,
  kE Try.f46 Q 1]
  [1000] [0, 1]
  ⟨en fun f M h => h f rfl rfl,
  er,
  er,
  trivial⟩
  h
end Go.G
