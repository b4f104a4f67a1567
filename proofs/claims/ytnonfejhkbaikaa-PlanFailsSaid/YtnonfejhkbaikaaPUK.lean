/- ... -/
import Derived.Test.YtnonfejhkbaikaaPGN
open Go.RowKit
namespace Go.G
open Go.Ab Go.Proofs
set_option linter.unusedVariables false
set_option maxRecDepth 100000
variable {x0 x1 x2 x4 x5 x6 x7 x8 x9 x10 x11 : Value} {M : Store} {Q : KP}
def dU (x1 x2 x5 x6 : Value) (M : Store) (Q : KP) : Prop :=
 ∀ f : Nat → Value, f 1 = x1 → f 2 = x2 → f 5 = x5 → f 6 = x6 → An Try.f22 [1, 1, 0, 1, 0] 95 f M Q
def dV (x1 x2 x5 x6 x7 x8 : Value) (M : Store) (Q : KP) : Prop :=
 ∀ f : Nat → Value, f 1 = x1 → f 2 = x2 → f 5 = x5 → f 6 = x6 → f 7 = x7 → f 8 = x8 → An Try.f22 [1, 1, 0, 1, 0, 0, 1, 0, 0, 1, 0, 1, 0] 95 f M Q
def la (x5 : Value) (M : Store) (Q : KP) : Prop :=
 ∀ f : Nat → Value, f 5 = x5 → An Try.f22 [1, 1, 1] 95 f M Q
def lb (x1 x2 x5 x6 x7 x8 : Value) (M : Store) (Q : KP) : Prop :=
 ∀ f : Nat → Value, f 1 = x1 → f 2 = x2 → f 5 = x5 → f 6 = x6 → f 7 = x7 → f 8 = x8 → An Try.f22 [1, 1, 0, 1, 0, 0, 1, 0, 0, 1, 0, 1, 0, 0, 1] 95 f M Q
def hX (x1 x2 x5 x6 x7 : Value) (M : Store) (Q : KP) : Prop :=
 ∀ f : Nat → Value, f 1 = x1 → f 2 = x2 → f 5 = x5 → f 6 = x6 → f 7 = x7 → An Try.f22 [1, 1, 0, 1, 0, 0, 1, 0, 0, 1, 1] 95 f M Q
def db (x1 x2 x5 x6 x7 x8 x9 x10 : Value) (M : Store) (Q : KP) : Prop :=
 ∀ f : Nat → Value, f 1 = x1 → f 2 = x2 → f 5 = x5 → f 6 = x6 → f 7 = x7 → f 8 = x8 → f 9 = x9 → f 10 = x10 → An Try.f22 [1, 1, 0, 1, 0, 0, 1, 0, 0, 1, 0, 1, 0, 0, 1, 0, 0, 1, 0, 1, 0] 95 f M Q
def ft (x1 x2 x5 x6 : Value) (M : Store) (Q : KP) : Prop :=
 ∀ f : Nat → Value, f 1 = x1 → f 2 = x2 → f 5 = x5 → f 6 = x6 → An Try.f22 [1, 1, 0, 1, 0, 0, 1, 1] 95 f M Q
def lc (x1 x2 x5 x6 x7 x8 x9 x10 : Value) (M : Store) (Q : KP) : Prop :=
 ∀ f : Nat → Value, f 1 = x1 → f 2 = x2 → f 5 = x5 → f 6 = x6 → f 7 = x7 → f 8 = x8 → f 9 = x9 → f 10 = x10 → An Try.f22 [1, 1, 0, 1, 0, 0, 1, 0, 0, 1, 0, 1, 0, 0, 1, 0, 0, 1, 0, 1, 0, 0, 1] 95 f M Q
def fu (x1 x2 x5 x6 x7 x8 x9 : Value) (M : Store) (Q : KP) : Prop :=
 ∀ f : Nat → Value, f 1 = x1 → f 2 = x2 → f 5 = x5 → f 6 = x6 → f 7 = x7 → f 8 = x8 → f 9 = x9 → An Try.f22 [1, 1, 0, 1, 0, 0, 1, 0, 0, 1, 0, 1, 0, 0, 1, 0, 0, 1, 1] 95 f M Q
def cT (x1 x2 x5 x6 x7 x8 x9 x11 : Value) (M : Store) (Q : KP) : Prop :=
 ∀ f : Nat → Value, f 1 = x1 → f 2 = x2 → f 5 = x5 → f 6 = x6 → f 7 = x7 → f 8 = x8 → f 9 = x9 → f 11 = x11 → An Try.f22 [1, 1, 0, 1, 0, 0, 1, 0, 0, 1, 0, 1, 0, 0, 1, 0, 0, 1, 1, 1, 0] 95 f M Q
def j0 (x1 x2 x5 x6 x7 x8 x9 x11 : Value) (M : Store) (Q : KP) : Prop :=
 ∀ f : Nat → Value, f 1 = x1 → f 2 = x2 → f 5 = x5 → f 6 = x6 → f 7 = x7 → f 8 = x8 → f 9 = x9 → f 11 = x11 → An Try.f22 [1, 1, 0, 1, 0, 0, 1, 0, 0, 1, 0, 1, 0, 0, 1, 0, 0, 1, 1, 1, 0, 0, 1] 95 f M Q
def gv (x1 x2 x5 x6 x7 x8 : Value) (M : Store) (Q : KP) : Prop :=
 ∀ f : Nat → Value, f 1 = x1 → f 2 = x2 → f 5 = x5 → f 6 = x6 → f 7 = x7 → f 8 = x8 → An Try.f22 [1, 1, 0, 1, 0, 0, 1, 0, 0, 1, 0, 1, 0, 0, 1, 1] 95 f M Q
def vh (x0 x1 : Value) (M : Store) (Q : KP) : Prop :=
 OP (aX x0) fun c =>
 LT (.pointer (some ⟨M.n, 0, none⟩)) (M.push (some (.inl (c, Ty.d, true)))) fun t2 M1 =>
 dU x1 t2 (.slice none 0 0) (.int .i64 0) M1 Q
theorem CM (h : vh x0 x1 M Q) : R F.G #[x0, x1] M Q := by
 refine ro Try.func22 ?_
 exact ru (N := 95) (ct := (.two .no (.two .no (.two (.two .no (.two (.here 1000) .no)) (.here 1001)))))
  [⟨1002, fun a M => dfr a.defers (dU (a.get 1) (a.get 2) (a.get 5) (a.get 6) M Q), Aa Try.f22 [1, 1, 0, 1, 0] Q⟩,
  ⟨1003, fF, Aa Try.f22 [1, 1, 1] Q⟩]
  [1000, 1001] []
  ⟨en fun f M h => h f rfl rfl rfl rfl,
  el,
  trivial⟩
  h
def lK (x1 x2 x5 x6 : Value) (M : Store) (Q : KP) : Prop :=
 OP (fad 0 x2) fun t13 =>
 OP (ld 1 false t13 M) fun t14 =>
 OP (lenV t14) fun t15 =>
 OP (ad .lss x6 t15) fun t16 =>
 BR t16 (
 dV x1 x2 x5 x6 (.bool false) (.int .i64 0) M Q
 ) (
 la x5 M Q
 )
theorem rP (h : lK x1 x2 x5 x6 M Q) : dU x1 x2 x5 x6 M Q := by
 rintro f rfl rfl rfl rfl
 refine lp ?_
 exact ru (N := 95) (ct := (.two .no (.two (.two (.two .no (.two (.two .no (.two (.here 1000) .no)) (.here 1001))) .no) (.here 1002))))
  [⟨1002, fun a M => dfr a.defers (dV (a.get 1) (a.get 2) (a.get 5) (a.get 6) (a.get 7) (a.get 8) M Q), Aa Try.f22 [1, 1, 0, 1, 0, 0, 1, 0, 0, 1, 0, 1, 0] Q⟩,
  ⟨1003, fF, Aa Try.f22 [1, 1, 0, 1, 0, 0, 1, 0, 0, 1, 1] Q⟩,
  ⟨1004, fF, Aa Try.f22 [1, 1, 0, 1, 0, 0, 1, 1] Q⟩,
  ⟨2, fun a M => dfr a.defers (la (a.get 5) M Q), Aa Try.f22 [1, 1, 1] Q⟩]
  [1000, 1001, 1002] [2]
  ⟨en fun f M h => h f rfl rfl rfl rfl rfl rfl,
  el,
  el,
  en fun f M h => h f rfl,
  trivial⟩
  h
def lL (x1 x2 x5 x6 x7 x8 : Value) (M : Store) (Q : KP) : Prop :=
 OP (fad 0 x2) fun t20 =>
 OP (ld 1 false t20 M) fun t21 =>
 OP (ixA 5 t21 x6) fun t23 =>
 OP (fad 0 t23) fun t24 =>
 OP (ld 1 false t24 M) fun t25 =>
 OP (lenV t25) fun t26 =>
 OP (ad .lss x8 t26) fun t27 =>
 BR t27 (
 lb x1 x2 x5 x6 x7 x8 M Q
 ) (
 hX x1 x2 x5 x6 x7 M Q
 )
theorem rQ (h : lL x1 x2 x5 x6 x7 x8 M Q) : dV x1 x2 x5 x6 x7 x8 M Q := by
 rintro f rfl rfl rfl rfl rfl rfl
 refine lp ?_
 exact ru (N := 95) (ct := (.two .no (.here 1000)))
  [⟨1002, fun a M => dfr a.defers (lb (a.get 1) (a.get 2) (a.get 5) (a.get 6) (a.get 7) (a.get 8) M Q), Aa Try.f22 [1, 1, 0, 1, 0, 0, 1, 0, 0, 1, 0, 1, 0, 0, 1] Q⟩,
  ⟨4, fun a M => dfr a.defers (hX (a.get 1) (a.get 2) (a.get 5) (a.get 6) (a.get 7) M Q), Aa Try.f22 [1, 1, 0, 1, 0, 0, 1, 0, 0, 1, 1] Q⟩]
  [1000] [4]
  ⟨en fun f M h => h f rfl rfl rfl rfl rfl rfl,
  en fun f M h => h f rfl rfl rfl rfl rfl,
  trivial⟩
  h
def qQ (x5 : Value) (M : Store) (Q : KP) : Prop :=
 NTs [x5] ∧ Q x5 M
theorem zD (h : qQ x5 M Q) : la x5 M Q := by
 rintro f rfl
 exact ru (N := 95) (ct := .no)
  [kE Try.f22 Q 1]
  [] [1]
  ⟨er,
  trivial⟩
  h
def qR (x1 x2 x5 x6 x7 x8 : Value) (M : Store) (Q : KP) : Prop :=
 OP (fad 0 x2) fun t30 =>
 OP (ld 1 false t30 M) fun t31 =>
 OP (ixA 5 t31 x6) fun t33 =>
 OP (fad 0 t33) fun t34 =>
 OP (ld 1 false t34 M) fun t35 =>
 OP (ixA 1 t35 x8) fun t37 =>
 OP (ld 1 false t37 M) fun t38 =>
 db x1 x2 x5 x6 x7 x8 t38 (.int .i64 0) M Q
theorem zE (h : qR x1 x2 x5 x6 x7 x8 M Q) : lb x1 x2 x5 x6 x7 x8 M Q := by
 rintro f rfl rfl rfl rfl rfl rfl
 exact ru (N := 95) (ct := (.two (.two (.two .no (.two (.two .no (.two (.here 1000) .no)) (.here 1001))) .no) (.here 1002)))
  [⟨1002, fun a M => dfr a.defers (db (a.get 1) (a.get 2) (a.get 5) (a.get 6) (a.get 7) (a.get 8) (a.get 9) (a.get 10) M Q), Aa Try.f22 [1, 1, 0, 1, 0, 0, 1, 0, 0, 1, 0, 1, 0, 0, 1, 0, 0, 1, 0, 1, 0] Q⟩,
  ⟨1003, fF, Aa Try.f22 [1, 1, 0, 1, 0, 0, 1, 0, 0, 1, 0, 1, 0, 0, 1, 0, 0, 1, 1] Q⟩,
  ⟨1004, fF, Aa Try.f22 [1, 1, 0, 1, 0, 0, 1, 0, 0, 1, 0, 1, 0, 0, 1, 1] Q⟩]
  [1000, 1001, 1002] []
  ⟨en fun f M h => h f rfl rfl rfl rfl rfl rfl rfl rfl,
  el,
  el,
  trivial⟩
  h
def qT (x1 x2 x5 x6 x7 : Value) (M : Store) (Q : KP) : Prop :=
 BR x7 (
 OP (al (.int .i64 0) 1 1 [(0, x6)]) fun c =>
 LT (.slice (some ⟨M.n, 0, none⟩) 1 1) (M.push (some (.inl (c, Ty.b, true)))) fun t92 M1 =>
 OP2 (appV 1 Ty.b x5 t92 M1) fun t93 M2 =>
 ft x1 x2 t93 x6 M2 Q
 ) (
 ft x1 x2 x5 x6 M Q
 )
theorem zF (h : qT x1 x2 x5 x6 x7 M Q) : hX x1 x2 x5 x6 x7 M Q := by
 rintro f rfl rfl rfl rfl rfl
 exact ru (N := 95) (ct := .no)
  [⟨0, fun a M => dfr a.defers (ft (a.get 1) (a.get 2) (a.get 5) (a.get 6) M Q), Aa Try.f22 [1, 1, 0, 1, 0, 0, 1, 1] Q⟩]
  [] [0]
  ⟨en fun f M h => h f rfl rfl rfl rfl,
  trivial⟩
  h
def lN (x1 x2 x5 x6 x7 x8 x9 x10 : Value) (M : Store) (Q : KP) : Prop :=
 OP (fad 0 x2) fun t40 =>
 OP (ld 1 false t40 M) fun t41 =>
 OP (ixA 5 t41 x1) fun t43 =>
 OP (fad 1 t43) fun t44 =>
 OP (ld 1 false t44 M) fun t45 =>
 OP (lenV t45) fun t46 =>
 OP (ad .lss x10 t46) fun t47 =>
 BR t47 (
 lc x1 x2 x5 x6 x7 x8 x9 x10 M Q
 ) (
 fu x1 x2 x5 x6 x7 x8 x9 M Q
 )
theorem rR (h : lN x1 x2 x5 x6 x7 x8 x9 x10 M Q) : db x1 x2 x5 x6 x7 x8 x9 x10 M Q := by
 rintro f rfl rfl rfl rfl rfl rfl rfl rfl
 refine lp ?_
 exact ru (N := 95) (ct := (.two .no (.here 1000)))
  [⟨1002, fun a M => dfr a.defers (lc (a.get 1) (a.get 2) (a.get 5) (a.get 6) (a.get 7) (a.get 8) (a.get 9) (a.get 10) M Q), Aa Try.f22 [1, 1, 0, 1, 0, 0, 1, 0, 0, 1, 0, 1, 0, 0, 1, 0, 0, 1, 0, 1, 0, 0, 1] Q⟩,
  ⟨6, fun a M => dfr a.defers (fu (a.get 1) (a.get 2) (a.get 5) (a.get 6) (a.get 7) (a.get 8) (a.get 9) M Q), Aa Try.f22 [1, 1, 0, 1, 0, 0, 1, 0, 0, 1, 0, 1, 0, 0, 1, 0, 0, 1, 1] Q⟩]
  [1000] [6]
  ⟨en fun f M h => h f rfl rfl rfl rfl rfl rfl rfl rfl,
  en fun f M h => h f rfl rfl rfl rfl rfl rfl rfl,
  trivial⟩
  h
def qU (x1 x2 x5 x6 : Value) (M : Store) (Q : KP) : Prop :=
 OP (ad .add x6 (.int .i64 1)) fun t18 =>
 dU x1 x2 x5 t18 M Q
theorem zG (h : qU x1 x2 x5 x6 M Q) : ft x1 x2 x5 x6 M Q := by
 rintro f rfl rfl rfl rfl
 exact ru (N := 95) (ct := .no)
  [⟨0, fun a M => dfr a.defers (dU (a.get 1) (a.get 2) (a.get 5) (a.get 6) M Q), Aa Try.f22 [1, 1, 0, 1, 0] Q⟩]
  [] [0]
  ⟨en fun f M h => h f rfl rfl rfl rfl,
  trivial⟩
  h
def qV (x1 x2 x5 x6 x7 x8 x9 x10 : Value) (M : Store) (Q : KP) : Prop :=
 BR x7 (
 OP (ad .add x10 (.int .i64 1)) fun t49 =>
 db x1 x2 x5 x6 (.bool true) x8 x9 t49 M Q
 ) (
 OP (fad 0 x2) fun t52 =>
 OP (ld 1 false t52 M) fun t53 =>
 OP (ixA 5 t53 x1) fun t55 =>
 OP (fad 1 t55) fun t56 =>
 OP (ld 1 false t56 M) fun t57 =>
 OP (ixA 1 t57 x10) fun t59 =>
 OP (ld 1 false t59 M) fun t60 =>
 OP (ao .eql t60 x9) fun t62 =>
 OP (ad .add x10 (.int .i64 1)) fun t49_1 =>
 db x1 x2 x5 x6 t62 x8 x9 t49_1 M Q
 )
theorem zH (h : qV x1 x2 x5 x6 x7 x8 x9 x10 M Q) : lc x1 x2 x5 x6 x7 x8 x9 x10 M Q := by
 rintro f rfl rfl rfl rfl rfl rfl rfl rfl
 exact ru (N := 95) (ct := .no)
  [⟨0, fun a M => dfr a.defers (db (a.get 1) (a.get 2) (a.get 5) (a.get 6) (a.get 7) (a.get 8) (a.get 9) (a.get 10) M Q), Aa Try.f22 [1, 1, 0, 1, 0, 0, 1, 0, 0, 1, 0, 1, 0, 0, 1, 0, 0, 1, 0, 1, 0] Q⟩]
  [] [0]
  ⟨en fun f M h => h f rfl rfl rfl rfl rfl rfl rfl rfl,
  trivial⟩
  h
def qW (x1 x2 x5 x6 x7 x8 x9 : Value) (M : Store) (Q : KP) : Prop :=
 cT x1 x2 x5 x6 x7 x8 x9 (.int .i64 0) M Q
theorem zI (h : qW x1 x2 x5 x6 x7 x8 x9 M Q) : fu x1 x2 x5 x6 x7 x8 x9 M Q := by
 rintro f rfl rfl rfl rfl rfl rfl rfl
 exact ru (N := 95) (ct := (.two .no (.two (.here 1000) .no)))
  [⟨1002, fun a M => dfr a.defers (cT (a.get 1) (a.get 2) (a.get 5) (a.get 6) (a.get 7) (a.get 8) (a.get 9) (a.get 11) M Q), Aa Try.f22 [1, 1, 0, 1, 0, 0, 1, 0, 0, 1, 0, 1, 0, 0, 1, 0, 0, 1, 1, 1, 0] Q⟩]
  [1000] []
  ⟨en fun f M h => h f rfl rfl rfl rfl rfl rfl rfl rfl,
  trivial⟩
  h
def j8 (x1 x2 x5 x6 x7 x8 x9 x11 : Value) (M : Store) (Q : KP) : Prop :=
 OP (fad 0 x2) fun t65 =>
 OP (ld 1 false t65 M) fun t66 =>
 OP (ixA 5 t66 x1) fun t68 =>
 OP (fad 2 t68) fun t69 =>
 OP (ld 1 false t69 M) fun t70 =>
 OP (lenV t70) fun t71 =>
 OP (ad .lss x11 t71) fun t72 =>
 BR t72 (
 j0 x1 x2 x5 x6 x7 x8 x9 x11 M Q
 ) (
 gv x1 x2 x5 x6 x7 x8 M Q
 )
theorem qq (h : j8 x1 x2 x5 x6 x7 x8 x9 x11 M Q) : cT x1 x2 x5 x6 x7 x8 x9 x11 M Q := by
 rintro f rfl rfl rfl rfl rfl rfl rfl rfl
 refine lp ?_
 exact ru (N := 95) (ct := (.two .no (.here 1000)))
  [⟨1002, fun a M => dfr a.defers (j0 (a.get 1) (a.get 2) (a.get 5) (a.get 6) (a.get 7) (a.get 8) (a.get 9) (a.get 11) M Q), Aa Try.f22 [1, 1, 0, 1, 0, 0, 1, 0, 0, 1, 0, 1, 0, 0, 1, 0, 0, 1, 1, 1, 0, 0, 1] Q⟩,
  ⟨8, fun a M => dfr a.defers (gv (a.get 1) (a.get 2) (a.get 5) (a.get 6) (a.get 7) (a.get 8) M Q), Aa Try.f22 [1, 1, 0, 1, 0, 0, 1, 0, 0, 1, 0, 1, 0, 0, 1, 1] Q⟩]
  [1000] [8]
  ⟨en fun f M h => h f rfl rfl rfl rfl rfl rfl rfl rfl,
  en fun f M h => h f rfl rfl rfl rfl rfl rfl,
  trivial⟩
  h
def qd (x1 x2 x5 x6 x7 x8 x9 x11 : Value) (M : Store) (Q : KP) : Prop :=
 BR x7 (
 OP (ad .add x11 (.int .i64 1)) fun t74 =>
 cT x1 x2 x5 x6 (.bool true) x8 x9 t74 M Q
 ) (
 OP (fad 0 x2) fun t77 =>
 OP (ld 1 false t77 M) fun t78 =>
 OP (ixA 5 t78 x1) fun t80 =>
 OP (fad 2 t80) fun t81 =>
 OP (ld 1 false t81 M) fun t82 =>
 OP (ixA 1 t82 x11) fun t84 =>
 OP (ld 1 false t84 M) fun t85 =>
 OP (ao .eql t85 x9) fun t87 =>
 OP (ad .add x11 (.int .i64 1)) fun t74_1 =>
 cT x1 x2 x5 x6 t87 x8 x9 t74_1 M Q
 )
theorem yP (h : qd x1 x2 x5 x6 x7 x8 x9 x11 M Q) : j0 x1 x2 x5 x6 x7 x8 x9 x11 M Q := by
 rintro f rfl rfl rfl rfl rfl rfl rfl rfl
 exact ru (N := 95) (ct := .no)
  [⟨0, fun a M => dfr a.defers (cT (a.get 1) (a.get 2) (a.get 5) (a.get 6) (a.get 7) (a.get 8) (a.get 9) (a.get 11) M Q), Aa Try.f22 [1, 1, 0, 1, 0, 0, 1, 0, 0, 1, 0, 1, 0, 0, 1, 0, 0, 1, 1, 1, 0] Q⟩]
  [] [0]
  ⟨en fun f M h => h f rfl rfl rfl rfl rfl rfl rfl rfl,
  trivial⟩
  h
def qe (x1 x2 x5 x6 x7 x8 : Value) (M : Store) (Q : KP) : Prop :=
 OP (ad .add x8 (.int .i64 1)) fun t29 =>
 dV x1 x2 x5 x6 x7 t29 M Q
theorem yQ (h : qe x1 x2 x5 x6 x7 x8 M Q) : gv x1 x2 x5 x6 x7 x8 M Q := by
 rintro f rfl rfl rfl rfl rfl rfl
 exact ru (N := 95) (ct := .no)
  [⟨0, fun a M => dfr a.defers (dV (a.get 1) (a.get 2) (a.get 5) (a.get 6) (a.get 7) (a.get 8) M Q), Aa Try.f22 [1, 1, 0, 1, 0, 0, 1, 0, 0, 1, 0, 1, 0] Q⟩]
  [] [0]
  ⟨en fun f M h => h f rfl rfl rfl rfl rfl rfl,
  trivial⟩
  h
def d2 (x1 x4 x5 : Value) (M : Store) (Q : KP) : Prop :=
 ∀ f : Nat → Value, f 1 = x1 → f 4 = x4 → f 5 = x5 → An Try.f27 [1, 1, 1, 0, 0] 65 f M Q
def li (x1 x4 x5 : Value) (M : Store) (Q : KP) : Prop :=
 ∀ f : Nat → Value, f 1 = x1 → f 4 = x4 → f 5 = x5 → An Try.f27 [1, 1, 1, 0, 0, 0, 1] 65 f M Q
def lm (x5 : Value) (M : Store) (Q : KP) : Prop :=
 ∀ f : Nat → Value, f 5 = x5 → An Try.f27 [1, 1, 1, 1] 65 f M Q
def d3 (x1 x4 x5 x6 x7 : Value) (M : Store) (Q : KP) : Prop :=
 ∀ f : Nat → Value, f 1 = x1 → f 4 = x4 → f 5 = x5 → f 6 = x6 → f 7 = x7 → An Try.f27 [1, 1, 1, 0, 0, 0, 1, 0, 1, 0, 1, 0] 65 f M Q
def lq (x1 x4 x5 x6 x7 : Value) (M : Store) (Q : KP) : Prop :=
 ∀ f : Nat → Value, f 1 = x1 → f 4 = x4 → f 5 = x5 → f 6 = x6 → f 7 = x7 → An Try.f27 [1, 1, 1, 0, 0, 0, 1, 0, 1, 0, 1, 0, 0, 1] 65 f M Q
def ic (x1 x4 x5 x6 : Value) (M : Store) (Q : KP) : Prop :=
 ∀ f : Nat → Value, f 1 = x1 → f 4 = x4 → f 5 = x5 → f 6 = x6 → An Try.f27 [1, 1, 1, 0, 0, 0, 1, 0, 1, 1] 65 f M Q
def dc (x1 x4 x5 x6 x7 x8 x9 x10 : Value) (M : Store) (Q : KP) : Prop :=
 ∀ f : Nat → Value, f 1 = x1 → f 4 = x4 → f 5 = x5 → f 6 = x6 → f 7 = x7 → f 8 = x8 → f 9 = x9 → f 10 = x10 → An Try.f27 [1, 1, 1, 0, 0, 0, 1, 0, 1, 0, 1, 0, 0, 1, 0, 0, 1, 1, 0, 1, 0] 65 f M Q
def ie (x1 x4 x5 x6 x7 x8 : Value) (M : Store) (Q : KP) : Prop :=
 ∀ f : Nat → Value, f 1 = x1 → f 4 = x4 → f 5 = x5 → f 6 = x6 → f 7 = x7 → f 8 = x8 → An Try.f27 [1, 1, 1, 0, 0, 0, 1, 0, 1, 0, 1, 0, 0, 1, 0, 0, 1, 1, 1] 65 f M Q
def fx (x1 x4 x5 x6 x7 : Value) (M : Store) (Q : KP) : Prop :=
 ∀ f : Nat → Value, f 1 = x1 → f 4 = x4 → f 5 = x5 → f 6 = x6 → f 7 = x7 → An Try.f27 [1, 1, 1, 0, 0, 0, 1, 0, 1, 0, 1, 0, 0, 1, 1] 65 f M Q
def vk (x0 : Value) (M : Store) (Q : KP) : Prop :=
 OP (aX x0) fun c =>
 LT (.pointer (some ⟨M.n, 0, none⟩)) (M.push (some (.inl (c, Ty.d, true)))) fun t1 M1 =>
 OP (fad 0 t1) fun t11 =>
 OP (ld 1 false t11 M1) fun t12 =>
 OP (lenV t12) fun t13 =>
 OP2 (mkS (.bool false) 1 1 Ty.j t13 t13 M1) fun t14 M2 =>
 d2 t1 t14 (.slice none 0 0) M2 Q
theorem CP (h : vk x0 M Q) : R F.U #[x0] M Q := by
 refine ro Try.func27 ?_
 exact ru (N := 65) (ct := (.two .no (.two .no (.two .no (.two (.two (.here 1000) .no) (.here 1001))))))
  [⟨1002, fun a M => dfr a.defers (d2 (a.get 1) (a.get 4) (a.get 5) M Q), Aa Try.f27 [1, 1, 1, 0, 0] Q⟩,
  ⟨1003, fF, Aa Try.f27 [1, 1, 1, 1] Q⟩]
  [1000, 1001] []
  ⟨en fun f M h => h f rfl rfl rfl,
  el,
  trivial⟩
  h
def lR (x1 x4 x5 : Value) (M : Store) (Q : KP) : Prop :=
 OP (lenV x5) fun t16 =>
 OP (fad 0 x1) fun t17 =>
 OP (ld 1 false t17 M) fun t18 =>
 OP (lenV t18) fun t19 =>
 OP (ad .lss t16 t19) fun t20 =>
 BR t20 (
 li x1 x4 x5 M Q
 ) (
 lm x5 M Q
 )
theorem rU (h : lR x1 x4 x5 M Q) : d2 x1 x4 x5 M Q := by
 rintro f rfl rfl rfl
 refine lp ?_
 exact ru (N := 65) (ct := (.two .no (.here 1000)))
  [⟨1002, fun a M => dfr a.defers (li (a.get 1) (a.get 4) (a.get 5) M Q), Aa Try.f27 [1, 1, 1, 0, 0, 0, 1] Q⟩,
  ⟨2, fun a M => dfr a.defers (lm (a.get 5) M Q), Aa Try.f27 [1, 1, 1, 1] Q⟩]
  [1000] [2]
  ⟨en fun f M h => h f rfl rfl rfl,
  en fun f M h => h f rfl,
  trivial⟩
  h
def ri (x1 x4 x5 : Value) (M : Store) (Q : KP) : Prop :=
 OP (fad 0 x1) fun t21 =>
 OP (ld 1 false t21 M) fun t22 =>
 OP (lenV t22) fun t23 =>
 OP (ad .sub t23 (.int .i64 1)) fun t24 =>
 d3 x1 x4 x5 (.int .i64 (-1)) t24 M Q
theorem zS (h : ri x1 x4 x5 M Q) : li x1 x4 x5 M Q := by
 rintro f rfl rfl rfl
 exact ru (N := 65) (ct := (.two (.two .no (.two (.two .no (.two (.here 1000) .no)) (.here 1001))) .no))
  [⟨1002, fun a M => dfr a.defers (d3 (a.get 1) (a.get 4) (a.get 5) (a.get 6) (a.get 7) M Q), Aa Try.f27 [1, 1, 1, 0, 0, 0, 1, 0, 1, 0, 1, 0] Q⟩,
  ⟨1003, fF, Aa Try.f27 [1, 1, 1, 0, 0, 0, 1, 0, 1, 1] Q⟩]
  [1000, 1001] []
  ⟨en fun f M h => h f rfl rfl rfl rfl rfl,
  el,
  trivial⟩
  h
def rj (x5 : Value) (M : Store) (Q : KP) : Prop :=
 NTs [x5, (.bool true)] ∧ Q (.tuple #[x5, (.bool true)]) M
theorem zT (h : rj x5 M Q) : lm x5 M Q := by
 rintro f rfl
 exact ru (N := 65) (ct := .no)
  [kE Try.f27 Q 1]
  [] [1]
  ⟨er,
  trivial⟩
  h
def lS (x1 x4 x5 x6 x7 : Value) (M : Store) (Q : KP) : Prop :=
 OP (ad .geq x7 (.int .i64 0)) fun t26 =>
 BR t26 (
 lq x1 x4 x5 x6 x7 M Q
 ) (
 ic x1 x4 x5 x6 M Q
 )
theorem rV (h : lS x1 x4 x5 x6 x7 M Q) : d3 x1 x4 x5 x6 x7 M Q := by
 rintro f rfl rfl rfl rfl rfl
 refine lp ?_
 exact ru (N := 65) (ct := (.two .no (.here 1000)))
  [⟨1002, fun a M => dfr a.defers (lq (a.get 1) (a.get 4) (a.get 5) (a.get 6) (a.get 7) M Q), Aa Try.f27 [1, 1, 1, 0, 0, 0, 1, 0, 1, 0, 1, 0, 0, 1] Q⟩,
  ⟨4, fun a M => dfr a.defers (ic (a.get 1) (a.get 4) (a.get 5) (a.get 6) M Q), Aa Try.f27 [1, 1, 1, 0, 0, 0, 1, 0, 1, 1] Q⟩]
  [1000] [4]
  ⟨en fun f M h => h f rfl rfl rfl rfl rfl,
  en fun f M h => h f rfl rfl rfl rfl,
  trivial⟩
  h
def rk (x1 x4 x5 x6 x7 : Value) (M : Store) (Q : KP) : Prop :=
 OP (ixA 1 x4 x7) fun t31 =>
 OP (ld 1 false t31 M) fun t32 =>
 OP (aun .not t32) fun t33 =>
 OP (ld 2 true x1 M) fun t34 =>
 R F.G #[t34, x7] M fun t36 M1 =>
 dc x1 x4 x5 x6 x7 t33 t36 (.int .i64 0) M1 Q
theorem zU (h : rk x1 x4 x5 x6 x7 M Q) : lq x1 x4 x5 x6 x7 M Q := by
 rintro f rfl rfl rfl rfl rfl
 exact ru (N := 65) (ct := (.two (.two (.two .no (.two .no (.two (.two .no (.two (.here 1000) .no)) (.here 1001)))) .no) (.here 1002)))
  [⟨1002, fun a M => dfr a.defers (dc (a.get 1) (a.get 4) (a.get 5) (a.get 6) (a.get 7) (a.get 8) (a.get 9) (a.get 10) M Q), Aa Try.f27 [1, 1, 1, 0, 0, 0, 1, 0, 1, 0, 1, 0, 0, 1, 0, 0, 1, 1, 0, 1, 0] Q⟩,
  ⟨1003, fF, Aa Try.f27 [1, 1, 1, 0, 0, 0, 1, 0, 1, 0, 1, 0, 0, 1, 0, 0, 1, 1, 1] Q⟩,
  ⟨1004, fF, Aa Try.f27 [1, 1, 1, 0, 0, 0, 1, 0, 1, 0, 1, 0, 0, 1, 1] Q⟩]
  [1000, 1001, 1002] []
  ⟨en fun f M h => h f rfl rfl rfl rfl rfl rfl rfl rfl,
  el,
  el,
  trivial⟩
  h
def rl (x1 x4 x5 x6 : Value) (M : Store) (Q : KP) : Prop :=
 OP (ad .lss x6 (.int .i64 0)) fun t56 =>
 BR t56 (
 NTs [(.slice none 0 0), (.bool false)] ∧ Q (.tuple #[(.slice none 0 0), (.bool false)]) M
 ) (
 OP (ixA 1 x4 x6) fun t59 =>
 OP (st 1 t59 (.bool true) M) fun M1 =>
 OP (al (.int .i64 0) 1 1 [(0, x6)]) fun c =>
 LT (.slice (some ⟨M1.n, 0, none⟩) 1 1) (M1.push (some (.inl (c, Ty.b, true)))) fun t62 M2 =>
 OP2 (appV 1 Ty.b x5 t62 M2) fun t63 M3 =>
 d2 x1 x4 t63 M3 Q
 )
theorem zV (h : rl x1 x4 x5 x6 M Q) : ic x1 x4 x5 x6 M Q := by
 rintro f rfl rfl rfl rfl
 exact ru (N := 65) (ct := .no)
  [⟨0, fun a M => dfr a.defers (d2 (a.get 1) (a.get 4) (a.get 5) M Q), Aa Try.f27 [1, 1, 1, 0, 0] Q⟩,
  kE Try.f27 Q 1]
  [] [0, 1]
  ⟨en fun f M h => h f rfl rfl rfl,
  er,
  trivial⟩
  h
def lT (x1 x4 x5 x6 x7 x8 x9 x10 : Value) (M : Store) (Q : KP) : Prop :=
 OP (lenV x9) fun t39 =>
 OP (ad .lss x10 t39) fun t40 =>
 BR t40 (
 BR x8 (
 OP (ixA 1 x9 x10) fun t48 =>
 OP (ld 1 false t48 M) fun t49 =>
 OP (ixA 1 x4 t49) fun t50 =>
 OP (ld 1 false t50 M) fun t51 =>
 OP (ad .add x10 (.int .i64 1)) fun t42 =>
 dc x1 x4 x5 x6 x7 t51 x9 t42 M Q
 ) (
 OP (ad .add x10 (.int .i64 1)) fun t42_1 =>
 dc x1 x4 x5 x6 x7 (.bool false) x9 t42_1 M Q
 )
 ) (
 ie x1 x4 x5 x6 x7 x8 M Q
 )
theorem rW (h : lT x1 x4 x5 x6 x7 x8 x9 x10 M Q) : dc x1 x4 x5 x6 x7 x8 x9 x10 M Q := by
 rintro f rfl rfl rfl rfl rfl rfl rfl rfl
 refine lp ?_
 exact ru (N := 65) (ct := .no)
  [⟨0, fun a M => dfr a.defers (dc (a.get 1) (a.get 4) (a.get 5) (a.get 6) (a.get 7) (a.get 8) (a.get 9) (a.get 10) M Q), Aa Try.f27 [1, 1, 1, 0, 0, 0, 1, 0, 1, 0, 1, 0, 0, 1, 0, 0, 1, 1, 0, 1, 0] Q⟩,
  ⟨6, fun a M => dfr a.defers (ie (a.get 1) (a.get 4) (a.get 5) (a.get 6) (a.get 7) (a.get 8) M Q), Aa Try.f27 [1, 1, 1, 0, 0, 0, 1, 0, 1, 0, 1, 0, 0, 1, 0, 0, 1, 1, 1] Q⟩]
  [] [0, 6]
  ⟨en fun f M h => h f rfl rfl rfl rfl rfl rfl rfl rfl,
  en fun f M h => h f rfl rfl rfl rfl rfl rfl,
  trivial⟩
  h
def rm (x1 x4 x5 x6 x7 x8 : Value) (M : Store) (Q : KP) : Prop :=
 BR x8 (
 fx x1 x4 x5 x7 x7 M Q
 ) (
 fx x1 x4 x5 x6 x7 M Q
 )
theorem zW (h : rm x1 x4 x5 x6 x7 x8 M Q) : ie x1 x4 x5 x6 x7 x8 M Q := by
 rintro f rfl rfl rfl rfl rfl rfl
 exact ru (N := 65) (ct := .no)
  [⟨0, fun a M => dfr a.defers (fx (a.get 1) (a.get 4) (a.get 5) (a.get 6) (a.get 7) M Q), Aa Try.f27 [1, 1, 1, 0, 0, 0, 1, 0, 1, 0, 1, 0, 0, 1, 1] Q⟩]
  [] [0]
  ⟨en fun f M h => h f rfl rfl rfl rfl rfl,
  trivial⟩
  h
def rn (x1 x4 x5 x6 x7 : Value) (M : Store) (Q : KP) : Prop :=
 OP (ad .sub x7 (.int .i64 1)) fun t28 =>
 d3 x1 x4 x5 x6 t28 M Q
theorem zX (h : rn x1 x4 x5 x6 x7 M Q) : fx x1 x4 x5 x6 x7 M Q := by
 rintro f rfl rfl rfl rfl rfl
 exact ru (N := 65) (ct := .no)
  [⟨0, fun a M => dfr a.defers (d3 (a.get 1) (a.get 4) (a.get 5) (a.get 6) (a.get 7) M Q), Aa Try.f27 [1, 1, 1, 0, 0, 0, 1, 0, 1, 0, 1, 0] Q⟩]
  [] [0]
  ⟨en fun f M h => h f rfl rfl rfl rfl rfl,
  trivial⟩
  h
end Go.G

open Go.RowKit
namespace Go.G
open Go.Ab Go.Proofs
set_option linter.unusedVariables false
set_option maxRecDepth 100000
variable {x0 x1 x2 x3 x4 x5 x6 x7 x8 x9 x10 x11 x12 x14 x15 x16 x18 x19 x20 x25 x26 x27 x30 x31 x32 : Value} {M : Store} {Q : KP}
def e9 (ds : List Deferred) (x5 x7 x23 : Value) (M : Store) (Q : KP) : Prop :=
 ∀ f : Nat → Value, f 5 = x5 → f 7 = x7 → f 23 = x23 → At Try.prog Ex none Try.f21 [1, 1, 1, 0, 1, 0] ⟨⟨43, f⟩, ds⟩ M Q
def gY (l : Nat) (x7 x8 : Value) (M : Store) (Q : KP) : Prop :=
 ∀ f : Nat → Value, f 7 = x7 → f 8 = x8 → AtY Try.prog Ex l Try.f21 [1, 1, 1, 0, 1, 0, 1] [] ⟨⟨43, f⟩, []⟩ M Q
def gZ (ds : List Deferred) (x5 x7 : Value) (M : Store) (Q : KP) : Prop :=
 ∀ f : Nat → Value, f 5 = x5 → f 7 = x7 → At Try.prog Ex none Try.f21 [1, 1, 1, 1] ⟨⟨43, f⟩, ds⟩ M Q
def bM (ds : List Deferred) (x7 x9 x27 x28 x29 : Value) (M : Store) (Q : KP) : Prop :=
 ∀ f : Nat → Value, f 7 = x7 → f 9 = x9 → f 27 = x27 → f 28 = x28 → f 29 = x29 → At Try.prog Ex none Try.f21 [1, 1, 1, 1, 1, 0, 1, 0] ⟨⟨43, f⟩, ds⟩ M Q
def g8 (ds : List Deferred) (x7 x9 x27 x28 x29 : Value) (M : Store) (Q : KP) : Prop :=
 ∀ f : Nat → Value, f 7 = x7 → f 9 = x9 → f 27 = x27 → f 28 = x28 → f 29 = x29 → At Try.prog Ex none Try.f21 [1, 1, 1, 1, 1, 0, 1, 0, 0, 1, 1] ⟨⟨43, f⟩, ds⟩ M Q
def fa (ds : List Deferred) (x9 : Value) (M : Store) (Q : KP) : Prop :=
 ∀ f : Nat → Value, f 9 = x9 → At Try.prog Ex none Try.f21 [1, 1, 1, 1, 1, 1] ⟨⟨43, f⟩, ds⟩ M Q
def pZ (x0 x1 : Value) (M : Store) (Q : KP) : Prop :=
 OP (aX x0) fun c =>
 LT (.pointer (some ⟨M.n, 0, none⟩)) (M.push (some (.inl (c, Ty.d, true)))) fun t2 M1 =>
 OP (ld 2 true t2 M1) fun t13 =>
 R F.D #[t13] M1 fun t14 M2 =>
 OP (tup t14 0) fun t15 =>
 OP (tup t14 1) fun t16 =>
 LT (.map (some M2.n)) (M2.push (some (.inr (.inl [])))) fun t17 M3 =>
 LT (.pointer (some ⟨M3.n, 0, none⟩)) (M3.push (some (.inl ([(.map none)], Ty.q, true)))) fun t7 M4 =>
 OP (st 1 t7 t17 M4) fun M5 =>
 OP (ld 2 true t2 M5) fun t18 =>
 R F.E #[t18, x1] M5 fun t20 M6 =>
 TDj [0, 1] [M5.n, M5.n, M5.n] M5 M6 ∧
 OP (ld 2 true t2 M6) fun t21 =>
 R F.t #[t21] M6 fun t22 M7 =>
 TDx [0, 0, 3, 0, 15, 31] [M5.n, M5.n, M5.n, M6.n, M6.n] 4 M6 M7 ∧
 R F.p #[t20, t22] M7 fun t23 M8 =>
 TDx [0, 0, 3, 0, 15, 31] [M5.n, M5.n, M5.n, M6.n, M6.n, M7.n] 5 M7 M8 ∧
 e9 [] t15 t7 t23 M8 Q
theorem yH (h : pZ x0 x1 M Q) : R F.w #[x0, x1] M Q := by
 refine ro Try.func21 ?_
 exact ru (N := 43) (ct := (.two .no (.two .no (.two .no (.two (.two .no (.two (.here 1000) .no)) (.here 1001))))))
  [⟨1002, fun a M => e9 a.defers (a.get 5) (a.get 7) (a.get 23) M Q, Aa Try.f21 [1, 1, 1, 0, 1, 0] Q⟩,
  ⟨1003, fF, Aa Try.f21 [1, 1, 1, 1] Q⟩]
  [1000, 1001] []
  ⟨ed fun f ds M h => h f rfl rfl rfl,
  el,
  trivial⟩
  h
def gI (x7 : Value) (st : LoopState) (pe : Nat) (rc : dF) : Prop := ∃ f : Nat → Value, f 7 = x7 ∧ rc = ⟨st, pe, ⟨43, f⟩, #[24], (sub (bt Try.f21) [1, 1, 1, 0, 1, 0, 0]), (sub (bt Try.f21) [1, 1, 1, 0, 1, 0, 1])⟩
def lE (l : Nat) (x7 : Value) (y24 : Value) (M : Store) (Q : KP) : Prop :=
 OP (cR M l) fun r => r.st = .ready ∧
 gY l x7 y24 (bf M l { r with st := .busy }) Q
theorem wh {l pe : Nat} {x7 : Value} {y24 : Value} {M : Store} {Q : KP} {rc : dF} (hr : cR M l = some rc) (hc : gI x7 .ready pe rc) (h : lE l x7 y24 M Q) : RunsY Try.prog Ex l #[y24] M Q := by
 obtain ⟨f, h7, hc⟩ := hc; subst h7; subst hc
 refine GI (args := [y24]) hr (by kernel_rfl) ?_
 exact ru (N := 43) (ct := .no)
  [⟨0, fun a M => OP (cR M l) fun r => r.st = .ready ∧ dfr a.defers (gY l (a.get 7) (a.get 8) (bf M l { r with st := .busy }) Q), fun a M => Gi Try.prog Ex l (sub (bt Try.f21) [1, 1, 1, 0, 1, 0, 1]) Q 0 a M⟩]
  [] [0]
  ⟨fun a M hn h => by obtain ⟨⟨n, f⟩, ds⟩ := a; have hn : n = 43 := hn; subst hn; obtain ⟨r, hr, hs, h⟩ := dt.1 h; obtain ⟨hd, h⟩ := Cl h; have hd : ds = [] := hd; subst hd; exact dt.2 ⟨r, hr, hs, cast (by kernel_rfl) (h f rfl rfl)⟩, trivial⟩
  h
def mE (ds : List Deferred) (x5 x7 x23 : Value) (M : Store) (Q : KP) : Prop :=
 ∀ rc : dF, gI x7 .ready 0 rc →
 rfc Try.prog Ex x23 (M.n + 1) ((M.push (some (.inr (.inr none)))).push (some (.inr (.inr (some rc))))) fun _ M1 =>
 OP (cR M1 (M.n + 1)) fun r => r.st ≠ .busy ∧
 bif Nat.beq 0 r.pe then (
 gZ ({ target := .collected M.n, args := #[] } :: ds) x5 x7 (bf M1 (M.n + 1) { r with st := .exhausted }) Q
 ) else
 False
theorem vL {ds : List Deferred} {x5 x7 x23 : Value} {M : Store} {Q : KP} (h : mE ds x5 x7 x23 M Q) : e9 ds x5 x7 x23 M Q := by
 rintro f rfl rfl rfl
 unfold At
 refine cast (by kernel_rfl) (CW.rf (P := Try.prog) (E := Ex) (g := .tmp 23) (ps := #[24]) (x := (sub (bt Try.f21) [1, 1, 1, 0, 1, 0, 0])) (y := (sub (bt Try.f21) [1, 1, 1, 0, 1, 0, 1])) (a := ⟨⟨43, f⟩, ds⟩) (M := M) (K := fV Try.prog Ex none (bt Try.f21) [1, 1, 1, 0, 1, 0] (nS Try.prog Try.f21.results.toList Q)) ?_)
 refine cast (by kernel_rfl) (GD (k' := fun _ M' => OP (cR M' (M.n + 1)) fun r => r.st ≠ .busy ∧ fV Try.prog Ex none (bt Try.f21) [1, 1, 1, 0, 1, 0] (nS Try.prog Try.f21.results.toList Q) r.pe ⟨⟨43, f⟩, { target := .collected M.n, args := #[] } :: ds⟩ (bf M' (M.n + 1) { r with st := .exhausted })) (h ⟨.ready, 0, ⟨43, f⟩, #[24], (sub (bt Try.f21) [1, 1, 1, 0, 1, 0, 0]), (sub (bt Try.f21) [1, 1, 1, 0, 1, 0, 1])⟩ ⟨f, rfl, rfl⟩) ?_)
 intro _ M1 h
 obtain ⟨r, hr, hs, h⟩ := dt.1 h
 refine dt.2 ⟨r, hr, hs, ?_⟩
 exact IC (N := 43) (L := [⟨0, fun a M => gZ a.defers (a.get 5) (a.get 7) M Q, Aa Try.f21 [1, 1, 1, 1] Q⟩])
  [0] (by kernel_rfl) (by kernel_rfl)
  ⟨ed fun f ds M h => h f rfl rfl,
  trivial⟩
  rfl (cast (by kernel_rfl) h)
def mF (l : Nat) (x7 x8 : Value) (M : Store) (Q : KP) : Prop :=
 OP (ld 1 false x7 M) fun t25 =>
 OP (mup (.int .i64) t25 x8 (.int .i64 1) M) fun M1 =>
 YE l 0 M1 Q
theorem vM {l : Nat} {x7 x8 : Value} {M : Store} {Q : KP} (h : mF l x7 x8 M Q) : gY l x7 x8 M Q := by
 rintro f rfl rfl
 unfold AtY
 exact ru (N := 43) (ct := .no)
  [⟨0, fun a M => wG l Q 0 a M, fun a M => wG l Q 0 a M⟩]
  [] [0]
  ⟨er,
  trivial⟩
  h
def mG (ds : List Deferred) (x5 x7 : Value) (M : Store) (Q : KP) : Prop :=
 OP (lenV x5) fun t28 =>
 bM ds x7 (.slice none 0 0) x5 t28 (.int .i64 0) M Q
theorem vN {ds : List Deferred} {x5 x7 : Value} {M : Store} {Q : KP} (h : mG ds x5 x7 M Q) : gZ ds x5 x7 M Q := by
 rintro f rfl rfl
 exact ru (N := 43) (ct := (.two .no (.two (.two .no (.two (.here 1000) .no)) (.here 1001))))
  [⟨1002, fun a M => bM a.defers (a.get 7) (a.get 9) (a.get 27) (a.get 28) (a.get 29) M Q, Aa Try.f21 [1, 1, 1, 1, 1, 0, 1, 0] Q⟩,
  ⟨1003, fF, Aa Try.f21 [1, 1, 1, 1, 1, 1] Q⟩]
  [1000, 1001] []
  ⟨ed fun f ds M h => h f rfl rfl rfl rfl rfl,
  el,
  trivial⟩
  h
def il (ds : List Deferred) (x7 x9 x27 x28 x29 : Value) (M : Store) (Q : KP) : Prop :=
 OP (ad .lss x29 x28) fun t30 =>
 BR t30 (
 g8 ds x7 x9 x27 x28 x29 M Q
 ) (
 fa ds x9 M Q
 )
theorem mU {ds : List Deferred} {x7 x9 x27 x28 x29 : Value} {M : Store} {Q : KP} (h : il ds x7 x9 x27 x28 x29 M Q) : bM ds x7 x9 x27 x28 x29 M Q := by
 rintro f rfl rfl rfl rfl rfl
 refine lp ?_
 exact ru (N := 43) (ct := (.two .no (.two .no (.here 1000))))
  [⟨1002, fun a M => g8 a.defers (a.get 7) (a.get 9) (a.get 27) (a.get 28) (a.get 29) M Q, Aa Try.f21 [1, 1, 1, 1, 1, 0, 1, 0, 0, 1, 1] Q⟩,
  ⟨4, fun a M => fa a.defers (a.get 9) M Q, Aa Try.f21 [1, 1, 1, 1, 1, 1] Q⟩]
  [1000] [4]
  ⟨ed fun f ds M h => h f rfl rfl rfl rfl rfl,
  ed fun f ds M h => h f rfl,
  trivial⟩
  h
def mH (ds : List Deferred) (x7 x9 x27 x28 x29 : Value) (M : Store) (Q : KP) : Prop :=
 OP (ixA 1 x27 x29) fun t31 =>
 OP (ld 1 false t31 M) fun t32 =>
 OP (ld 1 false x7 M) fun t33 =>
 OP (lku (.int .i64) (.int .i64 0) t33 t32 false M) fun t35 =>
 OP (ad .eql t35 (.int .i64 1)) fun t36 =>
 BR t36 (
 OP (al (.int .i64 0) 1 1 [(0, t32)]) fun c =>
 LT (.slice (some ⟨M.n, 0, none⟩) 1 1) (M.push (some (.inl (c, Ty.b, true)))) fun t39 M1 =>
 OP2 (appV 1 Ty.b x9 t39 M1) fun t40 M2 =>
 OP (ad .add x29 (.int .i64 1)) fun t41 =>
 bM ds x7 t40 x27 x28 t41 M2 Q
 ) (
 OP (ad .add x29 (.int .i64 1)) fun t41_1 =>
 bM ds x7 x9 x27 x28 t41_1 M Q
 )
theorem vO {ds : List Deferred} {x7 x9 x27 x28 x29 : Value} {M : Store} {Q : KP} (h : mH ds x7 x9 x27 x28 x29 M Q) : g8 ds x7 x9 x27 x28 x29 M Q := by
 rintro f rfl rfl rfl rfl rfl
 exact ru (N := 43) (ct := .no)
  [⟨0, fun a M => bM a.defers (a.get 7) (a.get 9) (a.get 27) (a.get 28) (a.get 29) M Q, Aa Try.f21 [1, 1, 1, 1, 1, 0, 1, 0] Q⟩]
  [] [0]
  ⟨ed fun f ds M h => h f rfl rfl rfl rfl rfl,
  trivial⟩
  h
def mI (ds : List Deferred) (x9 : Value) (M : Store) (Q : KP) : Prop :=
 OP (gA ds M) fun M1 =>
 NTs [x9] ∧ Q x9 M1
theorem vP {ds : List Deferred} {x9 : Value} {M : Store} {Q : KP} (h : mI ds x9 M Q) : fa ds x9 M Q := by
 rintro f rfl
 exact ru (N := 43) (ct := .no)
  [kE Try.f21 Q 1]
  [] [1]
  ⟨er,
  trivial⟩
  h
def c8 (x1 x4 x8 x9 : Value) (M : Store) (Q : KP) : Prop :=
 ∀ f : Nat → Value, f 1 = x1 → f 4 = x4 → f 8 = x8 → f 9 = x9 → An Try.f26 [1, 1, 0, 1, 0] 23 f M Q
def fK (x1 x4 : Value) (M : Store) (Q : KP) : Prop :=
 ∀ f : Nat → Value, f 1 = x1 → f 4 = x4 → An Try.f26 [1, 1, 1] 23 f M Q
def qJ (x0 : Value) (M : Store) (Q : KP) : Prop :=
 OP (aX x0) fun c =>
 LT (.pointer (some ⟨M.n, 0, none⟩)) (M.push (some (.inl (c, Ty.d, true)))) fun t1 M1 =>
 OP (fad 0 t1) fun t6 =>
 OP (ld 1 false t6 M1) fun t7 =>
 OP (lenV t7) fun t8 =>
 c8 t1 (.slice none 0 0) t8 (.int .i64 0) M1 Q
theorem zw (h : qJ x0 M Q) : R F.D #[x0] M Q := by
 refine ro Try.func26 ?_
 exact ru (N := 23) (ct := (.two .no (.two .no (.two (.two .no (.two (.here 1000) .no)) (.here 1001)))))
  [⟨1002, fun a M => dfr a.defers (c8 (a.get 1) (a.get 4) (a.get 8) (a.get 9) M Q), Aa Try.f26 [1, 1, 0, 1, 0] Q⟩,
  ⟨1003, fF, Aa Try.f26 [1, 1, 1] Q⟩]
  [1000, 1001] []
  ⟨en fun f M h => h f rfl rfl rfl rfl,
  el,
  trivial⟩
  h
def i2 (x1 x4 x8 x9 : Value) (M : Store) (Q : KP) : Prop :=
 OP (ad .lss x9 x8) fun t10 =>
 BR t10 (
 OP (al (.int .i64 0) 1 1 [(0, x9)]) fun c =>
 LT (.slice (some ⟨M.n, 0, none⟩) 1 1) (M.push (some (.inl (c, Ty.b, true)))) fun t14 M1 =>
 OP2 (appV 1 Ty.b x4 t14 M1) fun t15 M2 =>
 OP (ad .add x9 (.int .i64 1)) fun t16 =>
 c8 x1 t15 x8 t16 M2 Q
 ) (
 fK x1 x4 M Q
 )
theorem oz (h : i2 x1 x4 x8 x9 M Q) : c8 x1 x4 x8 x9 M Q := by
 rintro f rfl rfl rfl rfl
 refine lp ?_
 exact ru (N := 23) (ct := .no)
  [⟨0, fun a M => dfr a.defers (c8 (a.get 1) (a.get 4) (a.get 8) (a.get 9) M Q), Aa Try.f26 [1, 1, 0, 1, 0] Q⟩,
  ⟨2, fun a M => dfr a.defers (fK (a.get 1) (a.get 4) M Q), Aa Try.f26 [1, 1, 1] Q⟩]
  [] [0, 2]
  ⟨en fun f M h => h f rfl rfl rfl rfl,
  en fun f M h => h f rfl rfl,
  trivial⟩
  h
def og (x1 x4 : Value) (M : Store) (Q : KP) : Prop :=
 OP (ld 2 true x1 M) fun t18 =>
 R F.t #[t18] M fun t19 M1 =>
 R F.o #[x4, t19] M1 fun t20 M2 =>
 OP (tup t20 0) fun t21 =>
 OP (tup t20 1) fun t22 =>
 NTs [t21, t22] ∧ Q (.tuple #[t21, t22]) M2
theorem xc (h : og x1 x4 M Q) : fK x1 x4 M Q := by
 rintro f rfl rfl
 exact ru (N := 23) (ct := .no)
  [kE Try.f26 Q 1]
  [] [1]
  ⟨er,
  trivial⟩
  h
def aT (x3 x5 x14 x15 x16 : Value) (M : Store) (Q : KP) : Prop :=
 ∀ f : Nat → Value, f 3 = x3 → f 5 = x5 → f 14 = x14 → f 15 = x15 → f 16 = x16 → An Try.f50 [1, 1, 1, 0, 1, 0] 36 f M Q
def iV (x3 x5 x14 x15 x16 : Value) (M : Store) (Q : KP) : Prop :=
 ∀ f : Nat → Value, f 3 = x3 → f 5 = x5 → f 14 = x14 → f 15 = x15 → f 16 = x16 → An Try.f50 [1, 1, 1, 0, 1, 0, 0, 1, 1] 36 f M Q
def iW (x5 : Value) (M : Store) (Q : KP) : Prop :=
 ∀ f : Nat → Value, f 5 = x5 → An Try.f50 [1, 1, 1, 1] 36 f M Q
def qK (x0 x1 : Value) (M : Store) (Q : KP) : Prop :=
 OP (aX x0) fun c =>
 LT (.pointer (some ⟨M.n, 0, none⟩)) (M.push (some (.inl (c, Ty.d, true)))) fun t2 M1 =>
 OP (aX x1) fun c_1 =>
 LT (.pointer (some ⟨M1.n, 0, none⟩)) (M1.push (some (.inl (c_1, Ty.m, true)))) fun t3 M2 =>
 OP (ld 1 false t3 M2) fun t8 =>
 OP (lenV t8) fun t9 =>
 OP (ad .eql t9 (.int .i64 0)) fun t10 =>
 BR t10 (
 OP (fad 1 t2) fun t11 =>
 OP (ld 1 false t11 M2) fun t12 =>
 OP (st 1 t3 t12 M2) fun M3 =>
 OP (fad 0 t2) fun t13 =>
 OP (ld 1 false t13 M3) fun t14 =>
 OP (lenV t14) fun t15 =>
 aT t3 (.slice none 0 0) t14 t15 (.int .i64 0) M3 Q
 ) (
 OP (fad 0 t2) fun t13_1 =>
 OP (ld 1 false t13_1 M2) fun t14_1 =>
 OP (lenV t14_1) fun t15_1 =>
 aT t3 (.slice none 0 0) t14_1 t15_1 (.int .i64 0) M2 Q
 )
theorem zx (h : qK x0 x1 M Q) : R F.E #[x0, x1] M Q := by
 refine ro Try.func50 ?_
 exact ru (N := 36) (ct := (.two .no (.two .no (.two .no (.two (.two .no (.two (.here 1000) .no)) (.here 1001))))))
  [⟨1002, fun a M => dfr a.defers (aT (a.get 3) (a.get 5) (a.get 14) (a.get 15) (a.get 16) M Q), Aa Try.f50 [1, 1, 1, 0, 1, 0] Q⟩,
  ⟨1003, fF, Aa Try.f50 [1, 1, 1, 1] Q⟩]
  [1000, 1001] []
  ⟨en fun f M h => h f rfl rfl rfl rfl rfl,
  el,
  trivial⟩
  h
def i3 (x3 x5 x14 x15 x16 : Value) (M : Store) (Q : KP) : Prop :=
 OP (ad .lss x16 x15) fun t17 =>
 BR t17 (
 iV x3 x5 x14 x15 x16 M Q
 ) (
 iW x5 M Q
 )
theorem oC (h : i3 x3 x5 x14 x15 x16 M Q) : aT x3 x5 x14 x15 x16 M Q := by
 rintro f rfl rfl rfl rfl rfl
 refine lp ?_
 exact ru (N := 36) (ct := (.two .no (.two .no (.here 1000))))
  [⟨1002, fun a M => dfr a.defers (iV (a.get 3) (a.get 5) (a.get 14) (a.get 15) (a.get 16) M Q), Aa Try.f50 [1, 1, 1, 0, 1, 0, 0, 1, 1] Q⟩,
  ⟨2, fun a M => dfr a.defers (iW (a.get 5) M Q), Aa Try.f50 [1, 1, 1, 1] Q⟩]
  [1000] [2]
  ⟨en fun f M h => h f rfl rfl rfl rfl rfl,
  en fun f M h => h f rfl,
  trivial⟩
  h
def oh (x3 x5 x14 x15 x16 : Value) (M : Store) (Q : KP) : Prop :=
 OP (ixA 5 x14 x16) fun t19 =>
 OP (ld 5 true t19 M) fun t20 =>
 LT (.pointer (some ⟨M.n, 0, none⟩)) (M.push (some (.inl ([(.slice none 0 0), (.slice none 0 0), (.slice none 0 0), (.slice none 0 0), (.bool false)], Ty.g, true)))) fun t7 M1 =>
 OP (st 5 t7 t20 M1) fun M2 =>
 OP (ld 1 false x3 M2) fun t21 =>
 OP (lenV t21) fun t22 =>
 OP (ad .eql t22 (.int .i64 0)) fun t23 =>
 BR t23 (
 OP (al (.int .i64 0) 1 1 [(0, x16)]) fun c =>
 LT (.slice (some ⟨M2.n, 0, none⟩) 1 1) (M2.push (some (.inl (c, Ty.b, true)))) fun t32 M3 =>
 OP2 (appV 1 Ty.b x5 t32 M3) fun t33 M4 =>
 OP (ad .add x16 (.int .i64 1)) fun t34 =>
 aT x3 t33 x14 x15 t34 M4 Q
 ) (
 OP (fad 0 t7) fun t25 =>
 OP (ld 1 false t25 M2) fun t26 =>
 OP (mkF (.func F.c) [] [x3]) fun t27 =>
 R F.r #[t26, t27] M2 fun t28 M5 =>
 BR t28 (
 OP (al (.int .i64 0) 1 1 [(0, x16)]) fun c_1 =>
 LT (.slice (some ⟨M5.n, 0, none⟩) 1 1) (M5.push (some (.inl (c_1, Ty.b, true)))) fun t32_1 M6 =>
 OP2 (appV 1 Ty.b x5 t32_1 M6) fun t33_1 M7 =>
 OP (ad .add x16 (.int .i64 1)) fun t34_1 =>
 aT x3 t33_1 x14 x15 t34_1 M7 Q
 ) (
 OP (ad .add x16 (.int .i64 1)) fun t34_2 =>
 aT x3 x5 x14 x15 t34_2 M5 Q
 )
 )
theorem xd (h : oh x3 x5 x14 x15 x16 M Q) : iV x3 x5 x14 x15 x16 M Q := by
 rintro f rfl rfl rfl rfl rfl
 exact ru (N := 36) (ct := .no)
  [⟨0, fun a M => dfr a.defers (aT (a.get 3) (a.get 5) (a.get 14) (a.get 15) (a.get 16) M Q), Aa Try.f50 [1, 1, 1, 0, 1, 0] Q⟩]
  [] [0]
  ⟨en fun f M h => h f rfl rfl rfl rfl rfl,
  trivial⟩
  h
def oi (x5 : Value) (M : Store) (Q : KP) : Prop :=
 NTs [x5] ∧ Q x5 M
theorem xe (h : oi x5 M Q) : iW x5 M Q := by
 rintro f rfl
 exact ru (N := 36) (ct := .no)
  [kE Try.f50 Q 1]
  [] [1]
  ⟨er,
  trivial⟩
  h
def qI (x0 : Value) (M : Store) (Q : KP) : Prop :=
 OP (aX x0) fun c =>
 LT (.pointer (some ⟨M.n, 0, none⟩)) (M.push (some (.inl (c, Ty.d, true)))) fun t1 M1 =>
 OP (ld 2 true t1 M1) fun t4 =>
 R F.L #[t4] M1 fun t5 M2 =>
 LT (.pointer (some ⟨M2.n, 0, none⟩)) (M2.push (some (.inl ([(.map none)], Ty.p, true)))) fun t3 M3 =>
 OP (st 1 t3 t5 M3) fun M4 =>
 OP (mkF (.func F.e) [] [t1, t3]) fun t6 =>
 NTs [t6] ∧ Q t6 M4
theorem zv (h : qI x0 M Q) : R F.t #[x0] M Q := by
 refine ro Try.func51 ?_
 exact ru (N := 7) (ct := .no)
  [kE Try.f51 Q 1]
  [] [1]
  ⟨er,
  trivial⟩
  h
def l9 (x0 x1 : Value) (M : Store) (Q : KP) : Prop :=
 R F.P #[x0, x1] M fun t7 M1 =>
 OP (ad .geq t7 (.int .i64 0)) fun t8 =>
 NTs [t8] ∧ Q t8 M1
theorem uA (h : l9 x0 x1 M Q) : R F.r #[x0, x1] M Q := by
 refine ro Try.func69 ?_
 exact ru (N := 9) (ct := .no)
  [kE Try.f69 Q 1]
  [] [1]
  ⟨er,
  trivial⟩
  h
def mJ (x0 x1 : Value) (M : Store) (Q : KP) : Prop :=
 OP (ld 1 false x1 M) fun t4 =>
 R F.u #[t4, x0] M fun t6 M1 =>
 NTs [t6] ∧ Q t6 M1
theorem vQ (h : mJ x0 x1 M Q) : R F.c #[x0, x1] M Q := by
 refine ro Try.func70 ?_
 exact ru (N := 7) (ct := .no)
  [kE Try.f70 Q 1]
  [] [1]
  ⟨er,
  trivial⟩
  h
def rC (x0 x1 : Value) (M : Store) (Q : KP) : Prop :=
 R F.g1 #[x0, x1] M fun t7 M1 =>
 OP (ad .geq t7 (.int .i64 0)) fun t8 =>
 NTs [t8] ∧ Q t8 M1
theorem Ac (h : rC x0 x1 M Q) : R F.u #[x0, x1] M Q := by
 refine ro Try.func71 ?_
 exact ru (N := 9) (ct := .no)
  [kE Try.f71 Q 1]
  [] [1]
  ⟨er,
  trivial⟩
  h
def dm (x3 x10 x11 x12 : Value) (M : Store) (Q : KP) : Prop :=
 ∀ f : Nat → Value, f 3 = x3 → f 10 = x10 → f 11 = x11 → f 12 = x12 → An Try.f72 [1, 1, 0, 1, 0] 35 f M Q
def jX (x3 x10 x11 x12 : Value) (M : Store) (Q : KP) : Prop :=
 ∀ f : Nat → Value, f 3 = x3 → f 10 = x10 → f 11 = x11 → f 12 = x12 → An Try.f72 [1, 1, 0, 1, 0, 0, 1, 1] 35 f M Q
def jY (x3 : Value) (M : Store) (Q : KP) : Prop :=
 ∀ f : Nat → Value, f 3 = x3 → An Try.f72 [1, 1, 1] 35 f M Q
def dn (x3 x4 x10 x11 x12 x18 x19 x20 : Value) (M : Store) (Q : KP) : Prop :=
 ∀ f : Nat → Value, f 3 = x3 → f 4 = x4 → f 10 = x10 → f 11 = x11 → f 12 = x12 → f 18 = x18 → f 19 = x19 → f 20 = x20 → An Try.f72 [1, 1, 0, 1, 0, 0, 1, 1, 0, 0, 1, 1, 0] 35 f M Q
def jZ (x3 x4 x10 x11 x12 x18 x19 x20 : Value) (M : Store) (Q : KP) : Prop :=
 ∀ f : Nat → Value, f 3 = x3 → f 4 = x4 → f 10 = x10 → f 11 = x11 → f 12 = x12 → f 18 = x18 → f 19 = x19 → f 20 = x20 → An Try.f72 [1, 1, 0, 1, 0, 0, 1, 1, 0, 0, 1, 1, 0, 0, 1, 1] 35 f M Q
def gu (x3 x10 x11 x12 : Value) (M : Store) (Q : KP) : Prop :=
 ∀ f : Nat → Value, f 3 = x3 → f 10 = x10 → f 11 = x11 → f 12 = x12 → An Try.f72 [1, 1, 0, 1, 0, 0, 1, 1, 1] 35 f M Q
def tz (x0 : Value) (M : Store) (Q : KP) : Prop :=
 OP (aX x0) fun c =>
 LT (.pointer (some ⟨M.n, 0, none⟩)) (M.push (some (.inl (c, Ty.d, true)))) fun t1 M1 =>
 LT (.map (some M1.n)) (M1.push (some (.inr (.inl [])))) fun t8 M2 =>
 OP (fad 0 t1) fun t9 =>
 OP (ld 1 false t9 M2) fun t10 =>
 OP (lenV t10) fun t11 =>
 dm t8 t10 t11 (.int .i64 0) M2 Q
theorem Be (h : tz x0 M Q) : R F.L #[x0] M Q := by
 refine ro Try.func72 ?_
 exact ru (N := 35) (ct := (.two .no (.two .no (.two (.two .no (.two (.here 1000) .no)) (.here 1001)))))
  [⟨1002, fun a M => dfr a.defers (dm (a.get 3) (a.get 10) (a.get 11) (a.get 12) M Q), Aa Try.f72 [1, 1, 0, 1, 0] Q⟩,
  ⟨1003, fF, Aa Try.f72 [1, 1, 1] Q⟩]
  [1000, 1001] []
  ⟨en fun f M h => h f rfl rfl rfl rfl,
  el,
  trivial⟩
  h
def j6 (x3 x10 x11 x12 : Value) (M : Store) (Q : KP) : Prop :=
 OP (ad .lss x12 x11) fun t13 =>
 BR t13 (
 jX x3 x10 x11 x12 M Q
 ) (
 jY x3 M Q
 )
theorem qo (h : j6 x3 x10 x11 x12 M Q) : dm x3 x10 x11 x12 M Q := by
 rintro f rfl rfl rfl rfl
 refine lp ?_
 exact ru (N := 35) (ct := (.two .no (.two .no (.here 1000))))
  [⟨1002, fun a M => dfr a.defers (jX (a.get 3) (a.get 10) (a.get 11) (a.get 12) M Q), Aa Try.f72 [1, 1, 0, 1, 0, 0, 1, 1] Q⟩,
  ⟨2, fun a M => dfr a.defers (jY (a.get 3) M Q), Aa Try.f72 [1, 1, 1] Q⟩]
  [1000] [2]
  ⟨en fun f M h => h f rfl rfl rfl rfl,
  en fun f M h => h f rfl,
  trivial⟩
  h
def p6 (x3 x10 x11 x12 : Value) (M : Store) (Q : KP) : Prop :=
 OP (ixA 5 x10 x12) fun t15 =>
 OP (ld 5 true t15 M) fun t16 =>
 LT (.pointer (some ⟨M.n, 0, none⟩)) (M.push (some (.inl ([(.slice none 0 0), (.slice none 0 0), (.slice none 0 0), (.slice none 0 0), (.bool false)], Ty.g, true)))) fun t5 M1 =>
 OP (st 5 t5 t16 M1) fun M2 =>
 OP (fad 0 t5) fun t17 =>
 OP (ld 1 false t17 M2) fun t18 =>
 OP (lenV t18) fun t19 =>
 dn x3 x12 x10 x11 x12 t18 t19 (.int .i64 0) M2 Q
theorem yK (h : p6 x3 x10 x11 x12 M Q) : jX x3 x10 x11 x12 M Q := by
 rintro f rfl rfl rfl rfl
 exact ru (N := 35) (ct := (.two (.two (.two .no (.two .no (.two (.here 1000) .no))) .no) (.here 1001)))
  [⟨1002, fun a M => dfr a.defers (dn (a.get 3) (a.get 4) (a.get 10) (a.get 11) (a.get 12) (a.get 18) (a.get 19) (a.get 20) M Q), Aa Try.f72 [1, 1, 0, 1, 0, 0, 1, 1, 0, 0, 1, 1, 0] Q⟩,
  ⟨1003, fF, Aa Try.f72 [1, 1, 0, 1, 0, 0, 1, 1, 1] Q⟩]
  [1000, 1001] []
  ⟨en fun f M h => h f rfl rfl rfl rfl rfl rfl rfl rfl,
  el,
  trivial⟩
  h
def p7 (x3 : Value) (M : Store) (Q : KP) : Prop :=
 NTs [x3] ∧ Q x3 M
theorem yL (h : p7 x3 M Q) : jY x3 M Q := by
 rintro f rfl
 exact ru (N := 35) (ct := .no)
  [kE Try.f72 Q 1]
  [] [1]
  ⟨er,
  trivial⟩
  h
def j7 (x3 x4 x10 x11 x12 x18 x19 x20 : Value) (M : Store) (Q : KP) : Prop :=
 OP (ad .lss x20 x19) fun t21 =>
 BR t21 (
 jZ x3 x4 x10 x11 x12 x18 x19 x20 M Q
 ) (
 gu x3 x10 x11 x12 M Q
 )
theorem qp (h : j7 x3 x4 x10 x11 x12 x18 x19 x20 M Q) : dn x3 x4 x10 x11 x12 x18 x19 x20 M Q := by
 rintro f rfl rfl rfl rfl rfl rfl rfl rfl
 refine lp ?_
 exact ru (N := 35) (ct := (.two .no (.two .no (.here 1000))))
  [⟨1002, fun a M => dfr a.defers (jZ (a.get 3) (a.get 4) (a.get 10) (a.get 11) (a.get 12) (a.get 18) (a.get 19) (a.get 20) M Q), Aa Try.f72 [1, 1, 0, 1, 0, 0, 1, 1, 0, 0, 1, 1, 0, 0, 1, 1] Q⟩,
  ⟨4, fun a M => dfr a.defers (gu (a.get 3) (a.get 10) (a.get 11) (a.get 12) M Q), Aa Try.f72 [1, 1, 0, 1, 0, 0, 1, 1, 1] Q⟩]
  [1000] [4]
  ⟨en fun f M h => h f rfl rfl rfl rfl rfl rfl rfl rfl,
  en fun f M h => h f rfl rfl rfl rfl,
  trivial⟩
  h
def p8 (x3 x4 x10 x11 x12 x18 x19 x20 : Value) (M : Store) (Q : KP) : Prop :=
 OP (ixA 1 x18 x20) fun t22 =>
 OP (ld 1 false t22 M) fun t23 =>
 OP (lku .string (.slice none 0 0) x3 t23 false M) fun t28 =>
 OP (al (.int .i64 0) 1 1 [(0, x4)]) fun c =>
 LT (.slice (some ⟨M.n, 0, none⟩) 1 1) (M.push (some (.inl (c, Ty.b, true)))) fun t30 M1 =>
 OP2 (appV 1 Ty.b t28 t30 M1) fun t31 M2 =>
 OP (mup .string x3 t23 t31 M2) fun M3 =>
 OP (ad .add x20 (.int .i64 1)) fun t32 =>
 dn x3 x4 x10 x11 x12 x18 x19 t32 M3 Q
theorem yM (h : p8 x3 x4 x10 x11 x12 x18 x19 x20 M Q) : jZ x3 x4 x10 x11 x12 x18 x19 x20 M Q := by
 rintro f rfl rfl rfl rfl rfl rfl rfl rfl
 exact ru (N := 35) (ct := .no)
  [⟨0, fun a M => dfr a.defers (dn (a.get 3) (a.get 4) (a.get 10) (a.get 11) (a.get 12) (a.get 18) (a.get 19) (a.get 20) M Q), Aa Try.f72 [1, 1, 0, 1, 0, 0, 1, 1, 0, 0, 1, 1, 0] Q⟩]
  [] [0]
  ⟨en fun f M h => h f rfl rfl rfl rfl rfl rfl rfl rfl,
  trivial⟩
  h
def p9 (x3 x10 x11 x12 : Value) (M : Store) (Q : KP) : Prop :=
 OP (ad .add x12 (.int .i64 1)) fun t33 =>
 dm x3 x10 x11 t33 M Q
theorem yN (h : p9 x3 x10 x11 x12 M Q) : gu x3 x10 x11 x12 M Q := by
 rintro f rfl rfl rfl rfl
 exact ru (N := 35) (ct := .no)
  [⟨0, fun a M => dfr a.defers (dm (a.get 3) (a.get 10) (a.get 11) (a.get 12) M Q), Aa Try.f72 [1, 1, 0, 1, 0] Q⟩]
  [] [0]
  ⟨en fun f M h => h f rfl rfl rfl rfl,
  trivial⟩
  h
def bS (x2 x5 x30 x31 x32 : Value) (M : Store) (Q : KP) : Prop :=
 ∀ f : Nat → Value, f 2 = x2 → f 5 = x5 → f 30 = x30 → f 31 = x31 → f 32 = x32 → An Try.f73 [1, 1, 1, 0, 1, 0] 43 f M Q
def fZ (x5 : Value) (M : Store) (Q : KP) : Prop :=
 ∀ f : Nat → Value, f 5 = x5 → An Try.f73 [1, 1, 1, 1] 43 f M Q
def mD (x0 x1 x2 : Value) (M : Store) (Q : KP) : Prop :=
 OP (ad .lss x0 (.int .i64 0)) fun t9 =>
 BR t9 (
 NTs [(.slice none 0 0)] ∧ Q (.slice none 0 0) M
 ) (
 OP (fad 0 x1) fun t12 =>
 OP (ld 1 false t12 M) fun t13 =>
 OP (lenV t13) fun t14 =>
 OP (ad .geq x0 t14) fun t15 =>
 BR t15 (
 NTs [(.slice none 0 0)] ∧ Q (.slice none 0 0) M
 ) (
 OP (fad 0 x1) fun t17 =>
 OP (ld 1 false t17 M) fun t18 =>
 OP (ixA 5 t18 x0) fun t20 =>
 OP (fad 1 t20) fun t21 =>
 OP (ld 1 false t21 M) fun t22 =>
 OP (fad 0 x1) fun t23 =>
 OP (ld 1 false t23 M) fun t24 =>
 OP (ixA 5 t24 x0) fun t26 =>
 OP (fad 2 t26) fun t27 =>
 OP (ld 1 false t27 M) fun t28 =>
 OP (al (.slice none 0 0) 1 2 [(0, t22), (1, t28)]) fun c =>
 LT (.slice (some ⟨M.n, 0, none⟩) 2 2) (M.push (some (.inl (c, Ty.m, true)))) fun t29 M1 =>
 R F.I #[t29] M1 fun t30 M2 =>
 TDx [0, 1, 0, 7, 15, 31, 0, 64, 0, 448, 960, 1984, 4095, 8191, 16383, 0] [M.n, M.n, M.n, M.n, M.n, M.n, M.n, M.n, M.n, M.n, M.n, M.n, M.n, M1.n] 13 M1 M2 ∧
 OP (lenV t30) fun t31 =>
 bS x2 (.slice none 0 0) t30 t31 (.int .i64 0) M2 Q
 )
 )
theorem vK (h : mD x0 x1 x2 M Q) : R F.e #[x0, x1, x2] M Q := by
 refine ro Try.func73 ?_
 exact ru (N := 43) (ct := (.two .no (.two .no (.two .no (.two (.two .no (.two (.here 1000) .no)) (.here 1001))))))
  [⟨1002, fun a M => dfr a.defers (bS (a.get 2) (a.get 5) (a.get 30) (a.get 31) (a.get 32) M Q), Aa Try.f73 [1, 1, 1, 0, 1, 0] Q⟩,
  ⟨1003, fF, Aa Try.f73 [1, 1, 1, 1] Q⟩,
  kE Try.f73 Q 1]
  [1000, 1001] [1]
  ⟨en fun f M h => h f rfl rfl rfl rfl rfl,
  el,
  er,
  trivial⟩
  h
def f5 (x2 x5 x30 x31 x32 : Value) (M : Store) (Q : KP) : Prop :=
 OP (ad .lss x32 x31) fun t33 =>
 BR t33 (
 OP (ixA 1 x30 x32) fun t34 =>
 OP (ld 1 false t34 M) fun t35 =>
 OP (ld 1 false x2 M) fun t37 =>
 OP (lku .string (.slice none 0 0) t37 t35 false M) fun t39 =>
 OP2 (appV 1 Ty.b x5 t39 M) fun t40 M1 =>
 OP (ad .add x32 (.int .i64 1)) fun t41 =>
 bS x2 t40 x30 x31 t41 M1 Q
 ) (
 fZ x5 M Q
 )
theorem kr (h : f5 x2 x5 x30 x31 x32 M Q) : bS x2 x5 x30 x31 x32 M Q := by
 rintro f rfl rfl rfl rfl rfl
 refine lp ?_
 exact ru (N := 43) (ct := .no)
  [⟨0, fun a M => dfr a.defers (bS (a.get 2) (a.get 5) (a.get 30) (a.get 31) (a.get 32) M Q), Aa Try.f73 [1, 1, 1, 0, 1, 0] Q⟩,
  ⟨2, fun a M => dfr a.defers (fZ (a.get 5) M Q), Aa Try.f73 [1, 1, 1, 1] Q⟩]
  [] [0, 2]
  ⟨en fun f M h => h f rfl rfl rfl rfl rfl,
  en fun f M h => h f rfl,
  trivial⟩
  h
def ki (x5 : Value) (M : Store) (Q : KP) : Prop :=
 NTs [x5] ∧ Q x5 M
theorem ti (h : ki x5 M Q) : fZ x5 M Q := by
 rintro f rfl
 exact ru (N := 43) (ct := .no)
  [kE Try.f73 Q 1]
  [] [1]
  ⟨er,
  trivial⟩
  h
def d8 (x0 x3 x9 x10 x11 : Value) (M : Store) (Q : KP) : Prop :=
 ∀ f : Nat → Value, f 0 = x0 → f 3 = x3 → f 9 = x9 → f 10 = x10 → f 11 = x11 → An Try.f74 [1, 1, 0, 1, 0] 36 f M Q
def lB (x0 x3 x9 x10 x11 : Value) (M : Store) (Q : KP) : Prop :=
 ∀ f : Nat → Value, f 0 = x0 → f 3 = x3 → f 9 = x9 → f 10 = x10 → f 11 = x11 → An Try.f74 [1, 1, 0, 1, 0, 0, 1, 1] 36 f M Q
def lC (x0 x3 : Value) (M : Store) (Q : KP) : Prop :=
 ∀ f : Nat → Value, f 0 = x0 → f 3 = x3 → An Try.f74 [1, 1, 1] 36 f M Q
def d9 (x6 x25 x26 x27 : Value) (M : Store) (Q : KP) : Prop :=
 ∀ f : Nat → Value, f 6 = x6 → f 25 = x25 → f 26 = x26 → f 27 = x27 → An Try.f74 [1, 1, 1, 1, 0, 1, 0] 36 f M Q
def lD (x6 : Value) (M : Store) (Q : KP) : Prop :=
 ∀ f : Nat → Value, f 6 = x6 → An Try.f74 [1, 1, 1, 1, 1] 36 f M Q
def vH (x0 : Value) (M : Store) (Q : KP) : Prop :=
 OP (lenV x0) fun t10 =>
 d8 x0 (.int .i64 0) x0 t10 (.int .i64 0) M Q
theorem Da (h : vH x0 M Q) : R F.I #[x0] M Q := by
 refine ro Try.func74 ?_
 exact ru (N := 36) (ct := (.two .no (.two .no (.two (.two .no (.two (.here 1000) .no)) (.here 1001)))))
  [⟨1002, fun a M => dfr a.defers (d8 (a.get 0) (a.get 3) (a.get 9) (a.get 10) (a.get 11) M Q), Aa Try.f74 [1, 1, 0, 1, 0] Q⟩,
  ⟨1003, fF, Aa Try.f74 [1, 1, 1] Q⟩]
  [1000, 1001] []
  ⟨en fun f M h => h f rfl rfl rfl rfl rfl,
  el,
  trivial⟩
  h
def ir (x0 x3 x9 x10 x11 : Value) (M : Store) (Q : KP) : Prop :=
 OP (ad .lss x11 x10) fun t12 =>
 BR t12 (
 lB x0 x3 x9 x10 x11 M Q
 ) (
 lC x0 x3 M Q
 )
theorem ma (h : ir x0 x3 x9 x10 x11 M Q) : d8 x0 x3 x9 x10 x11 M Q := by
 rintro f rfl rfl rfl rfl rfl
 refine lp ?_
 exact ru (N := 36) (ct := (.two .no (.two .no (.here 1000))))
  [⟨1002, fun a M => dfr a.defers (lB (a.get 0) (a.get 3) (a.get 9) (a.get 10) (a.get 11) M Q), Aa Try.f74 [1, 1, 0, 1, 0, 0, 1, 1] Q⟩,
  ⟨2, fun a M => dfr a.defers (lC (a.get 0) (a.get 3) M Q), Aa Try.f74 [1, 1, 1] Q⟩]
  [1000] [2]
  ⟨en fun f M h => h f rfl rfl rfl rfl rfl,
  en fun f M h => h f rfl rfl,
  trivial⟩
  h
def lZ (x0 x3 x9 x10 x11 : Value) (M : Store) (Q : KP) : Prop :=
 OP (ixA 1 x9 x11) fun t13 =>
 OP (ld 1 false t13 M) fun t14 =>
 OP (lenV t14) fun t17 =>
 OP (ad .add x3 t17) fun t18 =>
 OP (ad .lss t18 (.int .i64 0)) fun t20 =>
 BR t20 (
 OP (mkI Ty.a (.string ⟨#[108, 101, 110, 32, 111, 117, 116, 32, 111, 102, 32, 114, 97, 110, 103, 101]⟩)) fun t21 =>
 False
 ) (
 OP (ad .add x11 (.int .i64 1)) fun t22 =>
 d8 x0 t18 x9 x10 t22 M Q
 )
theorem r9 (h : lZ x0 x3 x9 x10 x11 M Q) : lB x0 x3 x9 x10 x11 M Q := by
 rintro f rfl rfl rfl rfl rfl
 exact ru (N := 36) (ct := .no)
  [⟨0, fun a M => dfr a.defers (d8 (a.get 0) (a.get 3) (a.get 9) (a.get 10) (a.get 11) M Q), Aa Try.f74 [1, 1, 0, 1, 0] Q⟩]
  [] [0]
  ⟨en fun f M h => h f rfl rfl rfl rfl rfl,
  trivial⟩
  h
def rA (x0 x3 : Value) (M : Store) (Q : KP) : Prop :=
 R F.f1 #[(.slice none 0 0), x3] M fun t24 M1 =>
 OP (lenV x0) fun t26 =>
 d9 t24 x0 t26 (.int .i64 0) M1 Q
theorem z8 (h : rA x0 x3 M Q) : lC x0 x3 M Q := by
 rintro f rfl rfl
 exact ru (N := 36) (ct := (.two .no (.two (.two .no (.two (.here 1000) .no)) (.here 1001))))
  [⟨1002, fun a M => dfr a.defers (d9 (a.get 6) (a.get 25) (a.get 26) (a.get 27) M Q), Aa Try.f74 [1, 1, 1, 1, 0, 1, 0] Q⟩,
  ⟨1003, fF, Aa Try.f74 [1, 1, 1, 1, 1] Q⟩]
  [1000, 1001] []
  ⟨en fun f M h => h f rfl rfl rfl rfl,
  el,
  trivial⟩
  h
def iw (x6 x25 x26 x27 : Value) (M : Store) (Q : KP) : Prop :=
 OP (ad .lss x27 x26) fun t28 =>
 BR t28 (
 OP (ixA 1 x25 x27) fun t29 =>
 OP (ld 1 false t29 M) fun t30 =>
 OP2 (appV 1 Ty.a x6 t30 M) fun t33 M1 =>
 OP (ad .add x27 (.int .i64 1)) fun t34 =>
 d9 t33 x25 x26 t34 M1 Q
 ) (
 lD x6 M Q
 )
theorem mc (h : iw x6 x25 x26 x27 M Q) : d9 x6 x25 x26 x27 M Q := by
 rintro f rfl rfl rfl rfl
 refine lp ?_
 exact ru (N := 36) (ct := .no)
  [⟨0, fun a M => dfr a.defers (d9 (a.get 6) (a.get 25) (a.get 26) (a.get 27) M Q), Aa Try.f74 [1, 1, 1, 1, 0, 1, 0] Q⟩,
  ⟨4, fun a M => dfr a.defers (lD (a.get 6) M Q), Aa Try.f74 [1, 1, 1, 1, 1] Q⟩]
  [] [0, 4]
  ⟨en fun f M h => h f rfl rfl rfl rfl,
  en fun f M h => h f rfl,
  trivial⟩
  h
def rB (x6 : Value) (M : Store) (Q : KP) : Prop :=
 NTs [x6] ∧ Q x6 M
theorem z9 (h : rB x6 M Q) : lD x6 M Q := by
 rintro f rfl
 exact ru (N := 36) (ct := .no)
  [kE Try.f74 Q 1]
  [] [1]
  ⟨er,
  trivial⟩
  h
def cL (x0 x1 x7 x8 : Value) (M : Store) (Q : KP) : Prop :=
 ∀ f : Nat → Value, f 0 = x0 → f 1 = x1 → f 7 = x7 → f 8 = x8 → An Try.f83 [1, 0, 1, 0] 19 f M Q
def ik (M : Store) (Q : KP) : Prop :=
 ∀ f : Nat → Value, An Try.f83 [1, 1] 19 f M Q
def qm (x0 x1 : Value) (M : Store) (Q : KP) : Prop :=
 OP (lenV x0) fun t7 =>
 cL x0 x1 t7 (.int .i64 0) M Q
theorem yX (h : qm x0 x1 M Q) : R F.P #[x0, x1] M Q := by
 refine ro Try.func83 ?_
 exact ru (N := 19) (ct := (.two .no (.two (.two .no (.two (.here 1000) .no)) (.here 1001))))
  [⟨1002, fun a M => dfr a.defers (cL (a.get 0) (a.get 1) (a.get 7) (a.get 8) M Q), Aa Try.f83 [1, 0, 1, 0] Q⟩,
  ⟨1003, fF, Aa Try.f83 [1, 1] Q⟩]
  [1000, 1001] []
  ⟨en fun f M h => h f rfl rfl rfl rfl,
  el,
  trivial⟩
  h
def iz (x0 x1 x7 x8 : Value) (M : Store) (Q : KP) : Prop :=
 OP (ad .lss x8 x7) fun t9 =>
 BR t9 (
 OP (ixA 1 x0 x8) fun t14 =>
 OP (ld 1 false t14 M) fun t15 =>
 KC x1 [t15] M fun t16 M1 =>
 BR t16 (
 NTs [x8] ∧ Q x8 M1
 ) (
 OP (ad .add x8 (.int .i64 1)) fun t18 =>
 cL x0 x1 x7 t18 M1 Q
 )
 ) (
 ik M Q
 )
theorem mZ (h : iz x0 x1 x7 x8 M Q) : cL x0 x1 x7 x8 M Q := by
 rintro f rfl rfl rfl rfl
 refine lp ?_
 exact ru (N := 19) (ct := .no)
  [⟨0, fun a M => dfr a.defers (cL (a.get 0) (a.get 1) (a.get 7) (a.get 8) M Q), Aa Try.f83 [1, 0, 1, 0] Q⟩,
  kE Try.f83 Q 1,
  ⟨2, fun a M => dfr a.defers (ik M Q), Aa Try.f83 [1, 1] Q⟩]
  [] [0, 1, 2]
  ⟨en fun f M h => h f rfl rfl rfl rfl,
  er,
  en fun f M h => h f,
  trivial⟩
  h
def mT (M : Store) (Q : KP) : Prop :=
 NTs [(.int .i64 (-1))] ∧ Q (.int .i64 (-1)) M
theorem wg (h : mT M Q) : ik M Q := by
 intro f 
 exact ru (N := 19) (ct := .no)
  [kE Try.f83 Q 1]
  [] [1]
  ⟨er,
  trivial⟩
  h
def eR (x0 x1 x7 x8 : Value) (M : Store) (Q : KP) : Prop :=
 ∀ f : Nat → Value, f 0 = x0 → f 1 = x1 → f 7 = x7 → f 8 = x8 → An Try.f84 [1, 0, 1, 0] 19 f M Q
def nH (M : Store) (Q : KP) : Prop :=
 ∀ f : Nat → Value, An Try.f84 [1, 1] 19 f M Q
def xW (x0 x1 : Value) (M : Store) (Q : KP) : Prop :=
 OP (lenV x0) fun t7 =>
 eR x0 x1 t7 (.int .i64 0) M Q
theorem EG (h : xW x0 x1 M Q) : R F.g1 #[x0, x1] M Q := by
 refine ro Try.func84 ?_
 exact ru (N := 19) (ct := (.two .no (.two (.two .no (.two (.here 1000) .no)) (.here 1001))))
  [⟨1002, fun a M => dfr a.defers (eR (a.get 0) (a.get 1) (a.get 7) (a.get 8) M Q), Aa Try.f84 [1, 0, 1, 0] Q⟩,
  ⟨1003, fF, Aa Try.f84 [1, 1] Q⟩]
  [1000, 1001] []
  ⟨en fun f M h => h f rfl rfl rfl rfl,
  el,
  trivial⟩
  h
def nN (x0 x1 x7 x8 : Value) (M : Store) (Q : KP) : Prop :=
 OP (ad .lss x8 x7) fun t9 =>
 BR t9 (
 OP (ixA 1 x0 x8) fun t14 =>
 OP (ld 1 false t14 M) fun t15 =>
 OP (ao .eql x1 t15) fun t16 =>
 BR t16 (
 NTs [x8] ∧ Q x8 M
 ) (
 OP (ad .add x8 (.int .i64 1)) fun t18 =>
 eR x0 x1 x7 t18 M Q
 )
 ) (
 nH M Q
 )
theorem tX (h : nN x0 x1 x7 x8 M Q) : eR x0 x1 x7 x8 M Q := by
 rintro f rfl rfl rfl rfl
 refine lp ?_
 exact ru (N := 19) (ct := .no)
  [⟨0, fun a M => dfr a.defers (eR (a.get 0) (a.get 1) (a.get 7) (a.get 8) M Q), Aa Try.f84 [1, 0, 1, 0] Q⟩,
  kE Try.f84 Q 1,
  ⟨2, fun a M => dfr a.defers (nH M Q), Aa Try.f84 [1, 1] Q⟩]
  [] [0, 1, 2]
  ⟨en fun f M h => h f rfl rfl rfl rfl,
  er,
  en fun f M h => h f,
  trivial⟩
  h
def tR (M : Store) (Q : KP) : Prop :=
 NTs [(.int .i64 (-1))] ∧ Q (.int .i64 (-1)) M
theorem Bw (h : tR M Q) : nH M Q := by
 intro f 
 exact ru (N := 19) (ct := .no)
  [kE Try.f84 Q 1]
  [] [1]
  ⟨er,
  trivial⟩
  h
def pb (x0 x1 : Value) (M : Store) (Q : KP) : Prop :=
 ∀ f : Nat → Value, f 0 = x0 → f 1 = x1 → An Try.f85 [1, 1] 27 f M Q
def zu (x0 x1 : Value) (M : Store) (Q : KP) : Prop :=
 OP (ad .lss x1 (.int .i64 0)) fun t6 =>
 BR t6 (
 OP (mkI Ty.a (.string ⟨#[99, 97, 110, 110, 111, 116, 32, 98, 101, 32, 110, 101, 103, 97, 116, 105, 118, 101]⟩)) fun t7 =>
 False
 ) (
 pb x0 x1 M Q
 )
theorem FR (h : zu x0 x1 M Q) : R F.f1 #[x0, x1] M Q := by
 refine ro Try.func85 ?_
 exact ru (N := 27) (ct := (.two .no (.two .no (.here 1000))))
  [⟨1002, fun a M => dfr a.defers (pb (a.get 0) (a.get 1) M Q), Aa Try.f85 [1, 1] Q⟩]
  [1000] []
  ⟨en fun f M h => h f rfl rfl,
  trivial⟩
  h
def vI (x0 x1 : Value) (M : Store) (Q : KP) : Prop :=
 OP (Ay x0) fun t10 =>
 OP (lenV x0) fun t12 =>
 OP (ad .sub t10 t12) fun t13 =>
 OP (ad .sub x1 t13) fun t14 =>
 OP (ad .gtr t14 (.int .i64 0)) fun t16 =>
 BR t16 (
 OP (Ay x0) fun t19 =>
 OP (slV 1 Ty.a x0 none (some t19) M) fun t20 =>
 OP2 (xp (.string ⟨#[]⟩) 1 Ty.a t20 t14 M) fun t22 M1 =>
 OP (lenV x0) fun t24 =>
 OP (slV 1 Ty.a t22 none (some t24) M1) fun t25 =>
 NTs [t25] ∧ Q t25 M1
 ) (
 NTs [x0] ∧ Q x0 M
 )
theorem Db (h : vI x0 x1 M Q) : pb x0 x1 M Q := by
 rintro f rfl rfl
 exact ru (N := 27) (ct := .no)
  [kE Try.f85 Q 1]
  [] [1]
  ⟨er,
  trivial⟩
  h
end Go.G
