/- ... -/
import Derived.Test.YtnonfejhkbaikaaPGN
open Go.RowKit
namespace Go.G
open Go.Ab Go.Proofs
set_option linter.unusedVariables false
set_option maxRecDepth 100000
variable {x0 x1 x2 x4 x5 x6 x7 x8 x9 x10 x11 x12 x14 x15 : Value} {M : Store} {Q : KP}
def dZ (x1 x2 x5 x6 : Value) (M : Store) (Q : KP) : Prop :=
 ∀ f : Nat → Value, f 1 = x1 → f 2 = x2 → f 5 = x5 → f 6 = x6 → An Try.f22 [1, 1, 0, 1, 0] 95 f M Q
def d3 (x1 x2 x5 x6 x7 x8 : Value) (M : Store) (Q : KP) : Prop :=
 ∀ f : Nat → Value, f 1 = x1 → f 2 = x2 → f 5 = x5 → f 6 = x6 → f 7 = x7 → f 8 = x8 → An Try.f22 [1, 1, 0, 1, 0, 0, 1, 0, 0, 1, 0, 1, 0] 95 f M Q
def lK (x5 : Value) (M : Store) (Q : KP) : Prop :=
 ∀ f : Nat → Value, f 5 = x5 → An Try.f22 [1, 1, 1] 95 f M Q
def lL (x1 x2 x5 x6 x7 x8 : Value) (M : Store) (Q : KP) : Prop :=
 ∀ f : Nat → Value, f 1 = x1 → f 2 = x2 → f 5 = x5 → f 6 = x6 → f 7 = x7 → f 8 = x8 → An Try.f22 [1, 1, 0, 1, 0, 0, 1, 0, 0, 1, 0, 1, 0, 0, 1] 95 f M Q
def iz (x1 x2 x5 x6 x7 : Value) (M : Store) (Q : KP) : Prop :=
 ∀ f : Nat → Value, f 1 = x1 → f 2 = x2 → f 5 = x5 → f 6 = x6 → f 7 = x7 → An Try.f22 [1, 1, 0, 1, 0, 0, 1, 0, 0, 1, 1] 95 f M Q
def dg (x1 x2 x5 x6 x7 x8 x9 x10 : Value) (M : Store) (Q : KP) : Prop :=
 ∀ f : Nat → Value, f 1 = x1 → f 2 = x2 → f 5 = x5 → f 6 = x6 → f 7 = x7 → f 8 = x8 → f 9 = x9 → f 10 = x10 → An Try.f22 [1, 1, 0, 1, 0, 0, 1, 0, 0, 1, 0, 1, 0, 0, 1, 0, 0, 1, 0, 1, 0] 95 f M Q
def fH (x1 x2 x5 x6 : Value) (M : Store) (Q : KP) : Prop :=
 ∀ f : Nat → Value, f 1 = x1 → f 2 = x2 → f 5 = x5 → f 6 = x6 → An Try.f22 [1, 1, 0, 1, 0, 0, 1, 1] 95 f M Q
def lN (x1 x2 x5 x6 x7 x8 x9 x10 : Value) (M : Store) (Q : KP) : Prop :=
 ∀ f : Nat → Value, f 1 = x1 → f 2 = x2 → f 5 = x5 → f 6 = x6 → f 7 = x7 → f 8 = x8 → f 9 = x9 → f 10 = x10 → An Try.f22 [1, 1, 0, 1, 0, 0, 1, 0, 0, 1, 0, 1, 0, 0, 1, 0, 0, 1, 0, 1, 0, 0, 1] 95 f M Q
def fI (x1 x2 x5 x6 x7 x8 x9 : Value) (M : Store) (Q : KP) : Prop :=
 ∀ f : Nat → Value, f 1 = x1 → f 2 = x2 → f 5 = x5 → f 6 = x6 → f 7 = x7 → f 8 = x8 → f 9 = x9 → An Try.f22 [1, 1, 0, 1, 0, 0, 1, 0, 0, 1, 0, 1, 0, 0, 1, 0, 0, 1, 1] 95 f M Q
def cX (x1 x2 x5 x6 x7 x8 x9 x11 : Value) (M : Store) (Q : KP) : Prop :=
 ∀ f : Nat → Value, f 1 = x1 → f 2 = x2 → f 5 = x5 → f 6 = x6 → f 7 = x7 → f 8 = x8 → f 9 = x9 → f 11 = x11 → An Try.f22 [1, 1, 0, 1, 0, 0, 1, 0, 0, 1, 0, 1, 0, 0, 1, 0, 0, 1, 1, 1, 0] 95 f M Q
def kx (x1 x2 x5 x6 x7 x8 x9 x11 : Value) (M : Store) (Q : KP) : Prop :=
 ∀ f : Nat → Value, f 1 = x1 → f 2 = x2 → f 5 = x5 → f 6 = x6 → f 7 = x7 → f 8 = x8 → f 9 = x9 → f 11 = x11 → An Try.f22 [1, 1, 0, 1, 0, 0, 1, 0, 0, 1, 0, 1, 0, 0, 1, 0, 0, 1, 1, 1, 0, 0, 1] 95 f M Q
def gG (x1 x2 x5 x6 x7 x8 : Value) (M : Store) (Q : KP) : Prop :=
 ∀ f : Nat → Value, f 1 = x1 → f 2 = x2 → f 5 = x5 → f 6 = x6 → f 7 = x7 → f 8 = x8 → An Try.f22 [1, 1, 0, 1, 0, 0, 1, 0, 0, 1, 0, 1, 0, 0, 1, 1] 95 f M Q
def wF (x0 x1 : Value) (M : Store) (Q : KP) : Prop :=
 OP (aJ x0) fun c =>
 LT (.pointer (some ⟨M.n, 0, none⟩)) (M.push (some (.inl (c, Ty.d, true)))) fun t2 M1 =>
 dZ x1 t2 (.slice none 0 0) (.int .i64 0) M1 Q
theorem Ew (h : wF x0 x1 M Q) : R F.x #[x0, x1] M Q := by
 refine ro Try.func22 ?_
 exact ru (N := 95) (ct := (.two .no (.two .no (.two (.two .no (.two (.here 1000) .no)) (.here 1001)))))
  [⟨1002, fun a M => dfr a.defers (dZ (a.get 1) (a.get 2) (a.get 5) (a.get 6) M Q), Aa Try.f22 [1, 1, 0, 1, 0] Q⟩,
  ⟨1003, fF, Aa Try.f22 [1, 1, 1] Q⟩]
  [1000, 1001] []
  ⟨en fun f M h => h f rfl rfl rfl rfl,
  el,
  trivial⟩
  h
def mq (x1 x2 x5 x6 : Value) (M : Store) (Q : KP) : Prop :=
 OP (fad 0 x2) fun t13 =>
 OP (ld 1 false t13 M) fun t14 =>
 OP (lenV t14) fun t15 =>
 OP (ad .lss x6 t15) fun t16 =>
 BR t16 (
 d3 x1 x2 x5 x6 (.bool false) (.int .i64 0) M Q
 ) (
 lK x5 M Q
 )
theorem tc (h : mq x1 x2 x5 x6 M Q) : dZ x1 x2 x5 x6 M Q := by
 rintro f rfl rfl rfl rfl
 refine lp ?_
 exact ru (N := 95) (ct := (.two .no (.two (.two (.two .no (.two (.two .no (.two (.here 1000) .no)) (.here 1001))) .no) (.here 1002))))
  [⟨1002, fun a M => dfr a.defers (d3 (a.get 1) (a.get 2) (a.get 5) (a.get 6) (a.get 7) (a.get 8) M Q), Aa Try.f22 [1, 1, 0, 1, 0, 0, 1, 0, 0, 1, 0, 1, 0] Q⟩,
  ⟨1003, fF, Aa Try.f22 [1, 1, 0, 1, 0, 0, 1, 0, 0, 1, 1] Q⟩,
  ⟨1004, fF, Aa Try.f22 [1, 1, 0, 1, 0, 0, 1, 1] Q⟩,
  ⟨2, fun a M => dfr a.defers (lK (a.get 5) M Q), Aa Try.f22 [1, 1, 1] Q⟩]
  [1000, 1001, 1002] [2]
  ⟨en fun f M h => h f rfl rfl rfl rfl rfl rfl,
  el,
  el,
  en fun f M h => h f rfl,
  trivial⟩
  h
def mr (x1 x2 x5 x6 x7 x8 : Value) (M : Store) (Q : KP) : Prop :=
 OP (fad 0 x2) fun t20 =>
 OP (ld 1 false t20 M) fun t21 =>
 OP (ixA 5 t21 x6) fun t23 =>
 OP (fad 0 t23) fun t24 =>
 OP (ld 1 false t24 M) fun t25 =>
 OP (lenV t25) fun t26 =>
 OP (ad .lss x8 t26) fun t27 =>
 BR t27 (
 lL x1 x2 x5 x6 x7 x8 M Q
 ) (
 iz x1 x2 x5 x6 x7 M Q
 )
theorem td (h : mr x1 x2 x5 x6 x7 x8 M Q) : d3 x1 x2 x5 x6 x7 x8 M Q := by
 rintro f rfl rfl rfl rfl rfl rfl
 refine lp ?_
 exact ru (N := 95) (ct := (.two .no (.here 1000)))
  [⟨1002, fun a M => dfr a.defers (lL (a.get 1) (a.get 2) (a.get 5) (a.get 6) (a.get 7) (a.get 8) M Q), Aa Try.f22 [1, 1, 0, 1, 0, 0, 1, 0, 0, 1, 0, 1, 0, 0, 1] Q⟩,
  ⟨4, fun a M => dfr a.defers (iz (a.get 1) (a.get 2) (a.get 5) (a.get 6) (a.get 7) M Q), Aa Try.f22 [1, 1, 0, 1, 0, 0, 1, 0, 0, 1, 1] Q⟩]
  [1000] [4]
  ⟨en fun f M h => h f rfl rfl rfl rfl rfl rfl,
  en fun f M h => h f rfl rfl rfl rfl rfl,
  trivial⟩
  h
def rZ (x5 : Value) (M : Store) (Q : KP) : Prop :=
 NTs [x5] ∧ Q x5 M
theorem Be (h : rZ x5 M Q) : lK x5 M Q := by
 rintro f rfl
 exact ru (N := 95) (ct := .no)
  [kE Try.f22 Q 1]
  [] [1]
  ⟨er,
  trivial⟩
  h
def r5 (x1 x2 x5 x6 x7 x8 : Value) (M : Store) (Q : KP) : Prop :=
 OP (fad 0 x2) fun t30 =>
 OP (ld 1 false t30 M) fun t31 =>
 OP (ixA 5 t31 x6) fun t33 =>
 OP (fad 0 t33) fun t34 =>
 OP (ld 1 false t34 M) fun t35 =>
 OP (ixA 1 t35 x8) fun t37 =>
 OP (ld 1 false t37 M) fun t38 =>
 dg x1 x2 x5 x6 x7 x8 t38 (.int .i64 0) M Q
theorem Bf (h : r5 x1 x2 x5 x6 x7 x8 M Q) : lL x1 x2 x5 x6 x7 x8 M Q := by
 rintro f rfl rfl rfl rfl rfl rfl
 exact ru (N := 95) (ct := (.two (.two (.two .no (.two (.two .no (.two (.here 1000) .no)) (.here 1001))) .no) (.here 1002)))
  [⟨1002, fun a M => dfr a.defers (dg (a.get 1) (a.get 2) (a.get 5) (a.get 6) (a.get 7) (a.get 8) (a.get 9) (a.get 10) M Q), Aa Try.f22 [1, 1, 0, 1, 0, 0, 1, 0, 0, 1, 0, 1, 0, 0, 1, 0, 0, 1, 0, 1, 0] Q⟩,
  ⟨1003, fF, Aa Try.f22 [1, 1, 0, 1, 0, 0, 1, 0, 0, 1, 0, 1, 0, 0, 1, 0, 0, 1, 1] Q⟩,
  ⟨1004, fF, Aa Try.f22 [1, 1, 0, 1, 0, 0, 1, 0, 0, 1, 0, 1, 0, 0, 1, 1] Q⟩]
  [1000, 1001, 1002] []
  ⟨en fun f M h => h f rfl rfl rfl rfl rfl rfl rfl rfl,
  el,
  el,
  trivial⟩
  h
def r7 (x1 x2 x5 x6 x7 : Value) (M : Store) (Q : KP) : Prop :=
 BR x7 (
 OP (al (.int .i64 0) 1 1 [(0, x6)]) fun c =>
 LT (.slice (some ⟨M.n, 0, none⟩) 1 1) (M.push (some (.inl (c, Ty.b, true)))) fun t92 M1 =>
 OP2 (appV 1 Ty.b x5 t92 M1) fun t93 M2 =>
 fH x1 x2 t93 x6 M2 Q
 ) (
 fH x1 x2 x5 x6 M Q
 )
theorem Bg (h : r7 x1 x2 x5 x6 x7 M Q) : iz x1 x2 x5 x6 x7 M Q := by
 rintro f rfl rfl rfl rfl rfl
 exact ru (N := 95) (ct := .no)
  [⟨0, fun a M => dfr a.defers (fH (a.get 1) (a.get 2) (a.get 5) (a.get 6) M Q), Aa Try.f22 [1, 1, 0, 1, 0, 0, 1, 1] Q⟩]
  [] [0]
  ⟨en fun f M h => h f rfl rfl rfl rfl,
  trivial⟩
  h
def mt (x1 x2 x5 x6 x7 x8 x9 x10 : Value) (M : Store) (Q : KP) : Prop :=
 OP (fad 0 x2) fun t40 =>
 OP (ld 1 false t40 M) fun t41 =>
 OP (ixA 5 t41 x1) fun t43 =>
 OP (fad 1 t43) fun t44 =>
 OP (ld 1 false t44 M) fun t45 =>
 OP (lenV t45) fun t46 =>
 OP (ad .lss x10 t46) fun t47 =>
 BR t47 (
 lN x1 x2 x5 x6 x7 x8 x9 x10 M Q
 ) (
 fI x1 x2 x5 x6 x7 x8 x9 M Q
 )
theorem te (h : mt x1 x2 x5 x6 x7 x8 x9 x10 M Q) : dg x1 x2 x5 x6 x7 x8 x9 x10 M Q := by
 rintro f rfl rfl rfl rfl rfl rfl rfl rfl
 refine lp ?_
 exact ru (N := 95) (ct := (.two .no (.here 1000)))
  [⟨1002, fun a M => dfr a.defers (lN (a.get 1) (a.get 2) (a.get 5) (a.get 6) (a.get 7) (a.get 8) (a.get 9) (a.get 10) M Q), Aa Try.f22 [1, 1, 0, 1, 0, 0, 1, 0, 0, 1, 0, 1, 0, 0, 1, 0, 0, 1, 0, 1, 0, 0, 1] Q⟩,
  ⟨6, fun a M => dfr a.defers (fI (a.get 1) (a.get 2) (a.get 5) (a.get 6) (a.get 7) (a.get 8) (a.get 9) M Q), Aa Try.f22 [1, 1, 0, 1, 0, 0, 1, 0, 0, 1, 0, 1, 0, 0, 1, 0, 0, 1, 1] Q⟩]
  [1000] [6]
  ⟨en fun f M h => h f rfl rfl rfl rfl rfl rfl rfl rfl,
  en fun f M h => h f rfl rfl rfl rfl rfl rfl rfl,
  trivial⟩
  h
def r9 (x1 x2 x5 x6 : Value) (M : Store) (Q : KP) : Prop :=
 OP (ad .add x6 (.int .i64 1)) fun t18 =>
 dZ x1 x2 x5 t18 M Q
theorem Bh (h : r9 x1 x2 x5 x6 M Q) : fH x1 x2 x5 x6 M Q := by
 rintro f rfl rfl rfl rfl
 exact ru (N := 95) (ct := .no)
  [⟨0, fun a M => dfr a.defers (dZ (a.get 1) (a.get 2) (a.get 5) (a.get 6) M Q), Aa Try.f22 [1, 1, 0, 1, 0] Q⟩]
  [] [0]
  ⟨en fun f M h => h f rfl rfl rfl rfl,
  trivial⟩
  h
def sc (x1 x2 x5 x6 x7 x8 x9 x10 : Value) (M : Store) (Q : KP) : Prop :=
 BR x7 (
 OP (ad .add x10 (.int .i64 1)) fun t49 =>
 dg x1 x2 x5 x6 (.bool true) x8 x9 t49 M Q
 ) (
 OP (fad 0 x2) fun t52 =>
 OP (ld 1 false t52 M) fun t53 =>
 OP (ixA 5 t53 x1) fun t55 =>
 OP (fad 1 t55) fun t56 =>
 OP (ld 1 false t56 M) fun t57 =>
 OP (ixA 1 t57 x10) fun t59 =>
 OP (ld 1 false t59 M) fun t60 =>
 OP (ap .eql t60 x9) fun t62 =>
 OP (ad .add x10 (.int .i64 1)) fun t49_1 =>
 dg x1 x2 x5 x6 t62 x8 x9 t49_1 M Q
 )
theorem Bi (h : sc x1 x2 x5 x6 x7 x8 x9 x10 M Q) : lN x1 x2 x5 x6 x7 x8 x9 x10 M Q := by
 rintro f rfl rfl rfl rfl rfl rfl rfl rfl
 exact ru (N := 95) (ct := .no)
  [⟨0, fun a M => dfr a.defers (dg (a.get 1) (a.get 2) (a.get 5) (a.get 6) (a.get 7) (a.get 8) (a.get 9) (a.get 10) M Q), Aa Try.f22 [1, 1, 0, 1, 0, 0, 1, 0, 0, 1, 0, 1, 0, 0, 1, 0, 0, 1, 0, 1, 0] Q⟩]
  [] [0]
  ⟨en fun f M h => h f rfl rfl rfl rfl rfl rfl rfl rfl,
  trivial⟩
  h
def se (x1 x2 x5 x6 x7 x8 x9 : Value) (M : Store) (Q : KP) : Prop :=
 cX x1 x2 x5 x6 x7 x8 x9 (.int .i64 0) M Q
theorem Bj (h : se x1 x2 x5 x6 x7 x8 x9 M Q) : fI x1 x2 x5 x6 x7 x8 x9 M Q := by
 rintro f rfl rfl rfl rfl rfl rfl rfl
 exact ru (N := 95) (ct := (.two .no (.two (.here 1000) .no)))
  [⟨1002, fun a M => dfr a.defers (cX (a.get 1) (a.get 2) (a.get 5) (a.get 6) (a.get 7) (a.get 8) (a.get 9) (a.get 11) M Q), Aa Try.f22 [1, 1, 0, 1, 0, 0, 1, 0, 0, 1, 0, 1, 0, 0, 1, 0, 0, 1, 1, 1, 0] Q⟩]
  [1000] []
  ⟨en fun f M h => h f rfl rfl rfl rfl rfl rfl rfl rfl,
  trivial⟩
  h
def kH (x1 x2 x5 x6 x7 x8 x9 x11 : Value) (M : Store) (Q : KP) : Prop :=
 OP (fad 0 x2) fun t65 =>
 OP (ld 1 false t65 M) fun t66 =>
 OP (ixA 5 t66 x1) fun t68 =>
 OP (fad 2 t68) fun t69 =>
 OP (ld 1 false t69 M) fun t70 =>
 OP (lenV t70) fun t71 =>
 OP (ad .lss x11 t71) fun t72 =>
 BR t72 (
 kx x1 x2 x5 x6 x7 x8 x9 x11 M Q
 ) (
 gG x1 x2 x5 x6 x7 x8 M Q
 )
theorem rx (h : kH x1 x2 x5 x6 x7 x8 x9 x11 M Q) : cX x1 x2 x5 x6 x7 x8 x9 x11 M Q := by
 rintro f rfl rfl rfl rfl rfl rfl rfl rfl
 refine lp ?_
 exact ru (N := 95) (ct := (.two .no (.here 1000)))
  [⟨1002, fun a M => dfr a.defers (kx (a.get 1) (a.get 2) (a.get 5) (a.get 6) (a.get 7) (a.get 8) (a.get 9) (a.get 11) M Q), Aa Try.f22 [1, 1, 0, 1, 0, 0, 1, 0, 0, 1, 0, 1, 0, 0, 1, 0, 0, 1, 1, 1, 0, 0, 1] Q⟩,
  ⟨8, fun a M => dfr a.defers (gG (a.get 1) (a.get 2) (a.get 5) (a.get 6) (a.get 7) (a.get 8) M Q), Aa Try.f22 [1, 1, 0, 1, 0, 0, 1, 0, 0, 1, 0, 1, 0, 0, 1, 1] Q⟩]
  [1000] [8]
  ⟨en fun f M h => h f rfl rfl rfl rfl rfl rfl rfl rfl,
  en fun f M h => h f rfl rfl rfl rfl rfl rfl,
  trivial⟩
  h
def q8 (x1 x2 x5 x6 x7 x8 x9 x11 : Value) (M : Store) (Q : KP) : Prop :=
 BR x7 (
 OP (ad .add x11 (.int .i64 1)) fun t74 =>
 cX x1 x2 x5 x6 (.bool true) x8 x9 t74 M Q
 ) (
 OP (fad 0 x2) fun t77 =>
 OP (ld 1 false t77 M) fun t78 =>
 OP (ixA 5 t78 x1) fun t80 =>
 OP (fad 2 t80) fun t81 =>
 OP (ld 1 false t81 M) fun t82 =>
 OP (ixA 1 t82 x11) fun t84 =>
 OP (ld 1 false t84 M) fun t85 =>
 OP (ap .eql t85 x9) fun t87 =>
 OP (ad .add x11 (.int .i64 1)) fun t74_1 =>
 cX x1 x2 x5 x6 t87 x8 x9 t74_1 M Q
 )
theorem Ah (h : q8 x1 x2 x5 x6 x7 x8 x9 x11 M Q) : kx x1 x2 x5 x6 x7 x8 x9 x11 M Q := by
 rintro f rfl rfl rfl rfl rfl rfl rfl rfl
 exact ru (N := 95) (ct := .no)
  [⟨0, fun a M => dfr a.defers (cX (a.get 1) (a.get 2) (a.get 5) (a.get 6) (a.get 7) (a.get 8) (a.get 9) (a.get 11) M Q), Aa Try.f22 [1, 1, 0, 1, 0, 0, 1, 0, 0, 1, 0, 1, 0, 0, 1, 0, 0, 1, 1, 1, 0] Q⟩]
  [] [0]
  ⟨en fun f M h => h f rfl rfl rfl rfl rfl rfl rfl rfl,
  trivial⟩
  h
def q9 (x1 x2 x5 x6 x7 x8 : Value) (M : Store) (Q : KP) : Prop :=
 OP (ad .add x8 (.int .i64 1)) fun t29 =>
 d3 x1 x2 x5 x6 x7 t29 M Q
theorem Ai (h : q9 x1 x2 x5 x6 x7 x8 M Q) : gG x1 x2 x5 x6 x7 x8 M Q := by
 rintro f rfl rfl rfl rfl rfl rfl
 exact ru (N := 95) (ct := .no)
  [⟨0, fun a M => dfr a.defers (d3 (a.get 1) (a.get 2) (a.get 5) (a.get 6) (a.get 7) (a.get 8) M Q), Aa Try.f22 [1, 1, 0, 1, 0, 0, 1, 0, 0, 1, 0, 1, 0] Q⟩]
  [] [0]
  ⟨en fun f M h => h f rfl rfl rfl rfl rfl rfl,
  trivial⟩
  h
def ea (x1 x4 x5 : Value) (M : Store) (Q : KP) : Prop :=
 ∀ f : Nat → Value, f 1 = x1 → f 4 = x4 → f 5 = x5 → An Try.f27 [1, 1, 1, 0, 0] 65 f M Q
def lU (x1 x4 x5 : Value) (M : Store) (Q : KP) : Prop :=
 ∀ f : Nat → Value, f 1 = x1 → f 4 = x4 → f 5 = x5 → An Try.f27 [1, 1, 1, 0, 0, 0, 1] 65 f M Q
def lV (x5 : Value) (M : Store) (Q : KP) : Prop :=
 ∀ f : Nat → Value, f 5 = x5 → An Try.f27 [1, 1, 1, 1] 65 f M Q
def ee (x1 x4 x5 x6 x7 : Value) (M : Store) (Q : KP) : Prop :=
 ∀ f : Nat → Value, f 1 = x1 → f 4 = x4 → f 5 = x5 → f 6 = x6 → f 7 = x7 → An Try.f27 [1, 1, 1, 0, 0, 0, 1, 0, 1, 0, 1, 0] 65 f M Q
def lW (x1 x4 x5 x6 x7 : Value) (M : Store) (Q : KP) : Prop :=
 ∀ f : Nat → Value, f 1 = x1 → f 4 = x4 → f 5 = x5 → f 6 = x6 → f 7 = x7 → An Try.f27 [1, 1, 1, 0, 0, 0, 1, 0, 1, 0, 1, 0, 0, 1] 65 f M Q
def iE (x1 x4 x5 x6 : Value) (M : Store) (Q : KP) : Prop :=
 ∀ f : Nat → Value, f 1 = x1 → f 4 = x4 → f 5 = x5 → f 6 = x6 → An Try.f27 [1, 1, 1, 0, 0, 0, 1, 0, 1, 1] 65 f M Q
def dh (x1 x4 x5 x6 x7 x8 x9 x10 : Value) (M : Store) (Q : KP) : Prop :=
 ∀ f : Nat → Value, f 1 = x1 → f 4 = x4 → f 5 = x5 → f 6 = x6 → f 7 = x7 → f 8 = x8 → f 9 = x9 → f 10 = x10 → An Try.f27 [1, 1, 1, 0, 0, 0, 1, 0, 1, 0, 1, 0, 0, 1, 0, 0, 1, 1, 0, 1, 0] 65 f M Q
def iF (x1 x4 x5 x6 x7 x8 : Value) (M : Store) (Q : KP) : Prop :=
 ∀ f : Nat → Value, f 1 = x1 → f 4 = x4 → f 5 = x5 → f 6 = x6 → f 7 = x7 → f 8 = x8 → An Try.f27 [1, 1, 1, 0, 0, 0, 1, 0, 1, 0, 1, 0, 0, 1, 0, 0, 1, 1, 1] 65 f M Q
def fK (x1 x4 x5 x6 x7 : Value) (M : Store) (Q : KP) : Prop :=
 ∀ f : Nat → Value, f 1 = x1 → f 4 = x4 → f 5 = x5 → f 6 = x6 → f 7 = x7 → An Try.f27 [1, 1, 1, 0, 0, 0, 1, 0, 1, 0, 1, 0, 0, 1, 1] 65 f M Q
def wJ (x0 : Value) (M : Store) (Q : KP) : Prop :=
 OP (aJ x0) fun c =>
 LT (.pointer (some ⟨M.n, 0, none⟩)) (M.push (some (.inl (c, Ty.d, true)))) fun t1 M1 =>
 OP (fad 0 t1) fun t11 =>
 OP (ld 1 false t11 M1) fun t12 =>
 OP (lenV t12) fun t13 =>
 OP2 (mkS (.bool false) 1 1 Ty.k t13 t13 M1) fun t14 M2 =>
 ea t1 t14 (.slice none 0 0) M2 Q
theorem EB (h : wJ x0 M Q) : R F.K #[x0] M Q := by
 refine ro Try.func27 ?_
 exact ru (N := 65) (ct := (.two .no (.two .no (.two .no (.two (.two (.here 1000) .no) (.here 1001))))))
  [⟨1002, fun a M => dfr a.defers (ea (a.get 1) (a.get 4) (a.get 5) M Q), Aa Try.f27 [1, 1, 1, 0, 0] Q⟩,
  ⟨1003, fF, Aa Try.f27 [1, 1, 1, 1] Q⟩]
  [1000, 1001] []
  ⟨en fun f M h => h f rfl rfl rfl,
  el,
  trivial⟩
  h
def mC (x1 x4 x5 : Value) (M : Store) (Q : KP) : Prop :=
 OP (lenV x5) fun t16 =>
 OP (fad 0 x1) fun t17 =>
 OP (ld 1 false t17 M) fun t18 =>
 OP (lenV t18) fun t19 =>
 OP (ad .lss t16 t19) fun t20 =>
 BR t20 (
 lU x1 x4 x5 M Q
 ) (
 lV x5 M Q
 )
theorem tk (h : mC x1 x4 x5 M Q) : ea x1 x4 x5 M Q := by
 rintro f rfl rfl rfl
 refine lp ?_
 exact ru (N := 65) (ct := (.two .no (.here 1000)))
  [⟨1002, fun a M => dfr a.defers (lU (a.get 1) (a.get 4) (a.get 5) M Q), Aa Try.f27 [1, 1, 1, 0, 0, 0, 1] Q⟩,
  ⟨2, fun a M => dfr a.defers (lV (a.get 5) M Q), Aa Try.f27 [1, 1, 1, 1] Q⟩]
  [1000] [2]
  ⟨en fun f M h => h f rfl rfl rfl,
  en fun f M h => h f rfl,
  trivial⟩
  h
def sF (x1 x4 x5 : Value) (M : Store) (Q : KP) : Prop :=
 OP (fad 0 x1) fun t21 =>
 OP (ld 1 false t21 M) fun t22 =>
 OP (lenV t22) fun t23 =>
 OP (ad .sub t23 (.int .i64 1)) fun t24 =>
 ee x1 x4 x5 (.int .i64 (-1)) t24 M Q
theorem Bx (h : sF x1 x4 x5 M Q) : lU x1 x4 x5 M Q := by
 rintro f rfl rfl rfl
 exact ru (N := 65) (ct := (.two (.two .no (.two (.two .no (.two (.here 1000) .no)) (.here 1001))) .no))
  [⟨1002, fun a M => dfr a.defers (ee (a.get 1) (a.get 4) (a.get 5) (a.get 6) (a.get 7) M Q), Aa Try.f27 [1, 1, 1, 0, 0, 0, 1, 0, 1, 0, 1, 0] Q⟩,
  ⟨1003, fF, Aa Try.f27 [1, 1, 1, 0, 0, 0, 1, 0, 1, 1] Q⟩]
  [1000, 1001] []
  ⟨en fun f M h => h f rfl rfl rfl rfl rfl,
  el,
  trivial⟩
  h
def sG (x5 : Value) (M : Store) (Q : KP) : Prop :=
 NTs [x5, (.bool true)] ∧ Q (.tuple #[x5, (.bool true)]) M
theorem Bz (h : sG x5 M Q) : lV x5 M Q := by
 rintro f rfl
 exact ru (N := 65) (ct := .no)
  [kE Try.f27 Q 1]
  [] [1]
  ⟨er,
  trivial⟩
  h
def mD (x1 x4 x5 x6 x7 : Value) (M : Store) (Q : KP) : Prop :=
 OP (ad .geq x7 (.int .i64 0)) fun t26 =>
 BR t26 (
 lW x1 x4 x5 x6 x7 M Q
 ) (
 iE x1 x4 x5 x6 M Q
 )
theorem tl (h : mD x1 x4 x5 x6 x7 M Q) : ee x1 x4 x5 x6 x7 M Q := by
 rintro f rfl rfl rfl rfl rfl
 refine lp ?_
 exact ru (N := 65) (ct := (.two .no (.here 1000)))
  [⟨1002, fun a M => dfr a.defers (lW (a.get 1) (a.get 4) (a.get 5) (a.get 6) (a.get 7) M Q), Aa Try.f27 [1, 1, 1, 0, 0, 0, 1, 0, 1, 0, 1, 0, 0, 1] Q⟩,
  ⟨4, fun a M => dfr a.defers (iE (a.get 1) (a.get 4) (a.get 5) (a.get 6) M Q), Aa Try.f27 [1, 1, 1, 0, 0, 0, 1, 0, 1, 1] Q⟩]
  [1000] [4]
  ⟨en fun f M h => h f rfl rfl rfl rfl rfl,
  en fun f M h => h f rfl rfl rfl rfl,
  trivial⟩
  h
def sH (x1 x4 x5 x6 x7 : Value) (M : Store) (Q : KP) : Prop :=
 OP (ixA 1 x4 x7) fun t31 =>
 OP (ld 1 false t31 M) fun t32 =>
 OP (aun .not t32) fun t33 =>
 OP (ld 2 true x1 M) fun t34 =>
 R F.x #[t34, x7] M fun t36 M1 =>
 dh x1 x4 x5 x6 x7 t33 t36 (.int .i64 0) M1 Q
theorem BA (h : sH x1 x4 x5 x6 x7 M Q) : lW x1 x4 x5 x6 x7 M Q := by
 rintro f rfl rfl rfl rfl rfl
 exact ru (N := 65) (ct := (.two (.two (.two .no (.two .no (.two (.two .no (.two (.here 1000) .no)) (.here 1001)))) .no) (.here 1002)))
  [⟨1002, fun a M => dfr a.defers (dh (a.get 1) (a.get 4) (a.get 5) (a.get 6) (a.get 7) (a.get 8) (a.get 9) (a.get 10) M Q), Aa Try.f27 [1, 1, 1, 0, 0, 0, 1, 0, 1, 0, 1, 0, 0, 1, 0, 0, 1, 1, 0, 1, 0] Q⟩,
  ⟨1003, fF, Aa Try.f27 [1, 1, 1, 0, 0, 0, 1, 0, 1, 0, 1, 0, 0, 1, 0, 0, 1, 1, 1] Q⟩,
  ⟨1004, fF, Aa Try.f27 [1, 1, 1, 0, 0, 0, 1, 0, 1, 0, 1, 0, 0, 1, 1] Q⟩]
  [1000, 1001, 1002] []
  ⟨en fun f M h => h f rfl rfl rfl rfl rfl rfl rfl rfl,
  el,
  el,
  trivial⟩
  h
def sI (x1 x4 x5 x6 : Value) (M : Store) (Q : KP) : Prop :=
 OP (ad .lss x6 (.int .i64 0)) fun t56 =>
 BR t56 (
 NTs [(.slice none 0 0), (.bool false)] ∧ Q (.tuple #[(.slice none 0 0), (.bool false)]) M
 ) (
 OP (ixA 1 x4 x6) fun t59 =>
 OP (st 1 t59 (.bool true) M) fun M1 =>
 OP (al (.int .i64 0) 1 1 [(0, x6)]) fun c =>
 LT (.slice (some ⟨M1.n, 0, none⟩) 1 1) (M1.push (some (.inl (c, Ty.b, true)))) fun t62 M2 =>
 OP2 (appV 1 Ty.b x5 t62 M2) fun t63 M3 =>
 ea x1 x4 t63 M3 Q
 )
theorem BB (h : sI x1 x4 x5 x6 M Q) : iE x1 x4 x5 x6 M Q := by
 rintro f rfl rfl rfl rfl
 exact ru (N := 65) (ct := .no)
  [⟨0, fun a M => dfr a.defers (ea (a.get 1) (a.get 4) (a.get 5) M Q), Aa Try.f27 [1, 1, 1, 0, 0] Q⟩,
  kE Try.f27 Q 1]
  [] [0, 1]
  ⟨en fun f M h => h f rfl rfl rfl,
  er,
  trivial⟩
  h
def mE (x1 x4 x5 x6 x7 x8 x9 x10 : Value) (M : Store) (Q : KP) : Prop :=
 OP (lenV x9) fun t39 =>
 OP (ad .lss x10 t39) fun t40 =>
 BR t40 (
 BR x8 (
 OP (ixA 1 x9 x10) fun t48 =>
 OP (ld 1 false t48 M) fun t49 =>
 OP (ixA 1 x4 t49) fun t50 =>
 OP (ld 1 false t50 M) fun t51 =>
 OP (ad .add x10 (.int .i64 1)) fun t42 =>
 dh x1 x4 x5 x6 x7 t51 x9 t42 M Q
 ) (
 OP (ad .add x10 (.int .i64 1)) fun t42_1 =>
 dh x1 x4 x5 x6 x7 (.bool false) x9 t42_1 M Q
 )
 ) (
 iF x1 x4 x5 x6 x7 x8 M Q
 )
theorem tm (h : mE x1 x4 x5 x6 x7 x8 x9 x10 M Q) : dh x1 x4 x5 x6 x7 x8 x9 x10 M Q := by
 rintro f rfl rfl rfl rfl rfl rfl rfl rfl
 refine lp ?_
 exact ru (N := 65) (ct := .no)
  [⟨0, fun a M => dfr a.defers (dh (a.get 1) (a.get 4) (a.get 5) (a.get 6) (a.get 7) (a.get 8) (a.get 9) (a.get 10) M Q), Aa Try.f27 [1, 1, 1, 0, 0, 0, 1, 0, 1, 0, 1, 0, 0, 1, 0, 0, 1, 1, 0, 1, 0] Q⟩,
  ⟨6, fun a M => dfr a.defers (iF (a.get 1) (a.get 4) (a.get 5) (a.get 6) (a.get 7) (a.get 8) M Q), Aa Try.f27 [1, 1, 1, 0, 0, 0, 1, 0, 1, 0, 1, 0, 0, 1, 0, 0, 1, 1, 1] Q⟩]
  [] [0, 6]
  ⟨en fun f M h => h f rfl rfl rfl rfl rfl rfl rfl rfl,
  en fun f M h => h f rfl rfl rfl rfl rfl rfl,
  trivial⟩
  h
def sJ (x1 x4 x5 x6 x7 x8 : Value) (M : Store) (Q : KP) : Prop :=
 BR x8 (
 fK x1 x4 x5 x7 x7 M Q
 ) (
 fK x1 x4 x5 x6 x7 M Q
 )
theorem BC (h : sJ x1 x4 x5 x6 x7 x8 M Q) : iF x1 x4 x5 x6 x7 x8 M Q := by
 rintro f rfl rfl rfl rfl rfl rfl
 exact ru (N := 65) (ct := .no)
  [⟨0, fun a M => dfr a.defers (fK (a.get 1) (a.get 4) (a.get 5) (a.get 6) (a.get 7) M Q), Aa Try.f27 [1, 1, 1, 0, 0, 0, 1, 0, 1, 0, 1, 0, 0, 1, 1] Q⟩]
  [] [0]
  ⟨en fun f M h => h f rfl rfl rfl rfl rfl,
  trivial⟩
  h
def sK (x1 x4 x5 x6 x7 : Value) (M : Store) (Q : KP) : Prop :=
 OP (ad .sub x7 (.int .i64 1)) fun t28 =>
 ee x1 x4 x5 x6 t28 M Q
theorem BD (h : sK x1 x4 x5 x6 x7 M Q) : fK x1 x4 x5 x6 x7 M Q := by
 rintro f rfl rfl rfl rfl rfl
 exact ru (N := 65) (ct := .no)
  [⟨0, fun a M => dfr a.defers (ee (a.get 1) (a.get 4) (a.get 5) (a.get 6) (a.get 7) M Q), Aa Try.f27 [1, 1, 1, 0, 0, 0, 1, 0, 1, 0, 1, 0] Q⟩]
  [] [0]
  ⟨en fun f M h => h f rfl rfl rfl rfl rfl,
  trivial⟩
  h
def eR (x1 x2 : Value) (M : Store) (Q : KP) : Prop :=
 ∀ f : Nat → Value, f 1 = x1 → f 2 = x2 → An Try.f28 [1, 1] 135 f M Q
def dy (x1 x2 x5 x6 : Value) (M : Store) (Q : KP) : Prop :=
 ∀ f : Nat → Value, f 1 = x1 → f 2 = x2 → f 5 = x5 → f 6 = x6 → An Try.f28 [1, 1, 1, 0, 1, 0] 135 f M Q
def bV (x1 x2 x5 x6 x7 : Value) (M : Store) (Q : KP) : Prop :=
 ∀ f : Nat → Value, f 1 = x1 → f 2 = x2 → f 5 = x5 → f 6 = x6 → f 7 = x7 → An Try.f28 [1, 1, 1, 0, 1, 0, 0, 1, 0, 0, 1, 1, 0] 135 f M Q
def gH (x2 x5 : Value) (M : Store) (Q : KP) : Prop :=
 ∀ f : Nat → Value, f 2 = x2 → f 5 = x5 → An Try.f28 [1, 1, 1, 1] 135 f M Q
def kA (x1 x2 x5 x6 x7 : Value) (M : Store) (Q : KP) : Prop :=
 ∀ f : Nat → Value, f 1 = x1 → f 2 = x2 → f 5 = x5 → f 6 = x6 → f 7 = x7 → An Try.f28 [1, 1, 1, 0, 1, 0, 0, 1, 0, 0, 1, 1, 0, 0, 1] 135 f M Q
def gI (x1 x2 x5 x6 : Value) (M : Store) (Q : KP) : Prop :=
 ∀ f : Nat → Value, f 1 = x1 → f 2 = x2 → f 5 = x5 → f 6 = x6 → An Try.f28 [1, 1, 1, 0, 1, 0, 0, 1, 1] 135 f M Q
def bW (x2 x5 x8 : Value) (M : Store) (Q : KP) : Prop :=
 ∀ f : Nat → Value, f 2 = x2 → f 5 = x5 → f 8 = x8 → An Try.f28 [1, 1, 1, 1, 0, 1, 0] 135 f M Q
def dz (x2 x5 x8 x9 : Value) (M : Store) (Q : KP) : Prop :=
 ∀ f : Nat → Value, f 2 = x2 → f 5 = x5 → f 8 = x8 → f 9 = x9 → An Try.f28 [1, 1, 1, 1, 0, 1, 0, 0, 1, 0, 1, 1, 0] 135 f M Q
def kB (x2 x5 : Value) (M : Store) (Q : KP) : Prop :=
 ∀ f : Nat → Value, f 2 = x2 → f 5 = x5 → An Try.f28 [1, 1, 1, 1, 1] 135 f M Q
def bI (x2 x5 x8 x9 x10 x11 : Value) (M : Store) (Q : KP) : Prop :=
 ∀ f : Nat → Value, f 2 = x2 → f 5 = x5 → f 8 = x8 → f 9 = x9 → f 10 = x10 → f 11 = x11 → An Try.f28 [1, 1, 1, 1, 0, 1, 0, 0, 1, 0, 1, 1, 0, 0, 1, 0, 0, 1, 1, 0] 135 f M Q
def cb (x5 x12 x14 x15 : Value) (M : Store) (Q : KP) : Prop :=
 ∀ f : Nat → Value, f 5 = x5 → f 12 = x12 → f 14 = x14 → f 15 = x15 → An Try.f28 [1, 1, 1, 1, 1, 1, 1, 0, 1, 0] 135 f M Q
def jy (x2 x5 x8 x9 x10 x11 : Value) (M : Store) (Q : KP) : Prop :=
 ∀ f : Nat → Value, f 2 = x2 → f 5 = x5 → f 8 = x8 → f 9 = x9 → f 10 = x10 → f 11 = x11 → An Try.f28 [1, 1, 1, 1, 0, 1, 0, 0, 1, 0, 1, 1, 0, 0, 1, 0, 0, 1, 1, 0, 0, 1] 135 f M Q
def eh (x2 x5 x8 x9 : Value) (M : Store) (Q : KP) : Prop :=
 ∀ f : Nat → Value, f 2 = x2 → f 5 = x5 → f 8 = x8 → f 9 = x9 → An Try.f28 [1, 1, 1, 1, 0, 1, 0, 0, 1, 0, 1, 1, 0, 0, 1, 1] 135 f M Q
def jz (x5 x12 x14 x15 : Value) (M : Store) (Q : KP) : Prop :=
 ∀ f : Nat → Value, f 5 = x5 → f 12 = x12 → f 14 = x14 → f 15 = x15 → An Try.f28 [1, 1, 1, 1, 1, 1, 1, 0, 1, 0, 0, 1] 135 f M Q
def jA (x14 : Value) (M : Store) (Q : KP) : Prop :=
 ∀ f : Nat → Value, f 14 = x14 → An Try.f28 [1, 1, 1, 1, 1, 1, 1, 1] 135 f M Q
def uS (x0 x1 : Value) (M : Store) (Q : KP) : Prop :=
 OP (aJ x0) fun c =>
 LT (.pointer (some ⟨M.n, 0, none⟩)) (M.push (some (.inl (c, Ty.d, true)))) fun t2 M1 =>
 OP (lenV x1) fun t17 =>
 OP (ad .eql t17 (.int .i64 0)) fun t18 =>
 BR t18 (
 OP (fad 1 t2) fun t19 =>
 OP (ld 1 false t19 M1) fun t20 =>
 eR t20 t2 M1 Q
 ) (
 eR x1 t2 M1 Q
 )
theorem CU (h : uS x0 x1 M Q) : R F.P #[x0, x1] M Q := by
 refine ro Try.func28 ?_
 exact ru (N := 135) (ct := (.two .no (.two .no (.here 1000))))
  [⟨1002, fun a M => dfr a.defers (eR (a.get 1) (a.get 2) M Q), Aa Try.f28 [1, 1] Q⟩]
  [1000] []
  ⟨en fun f M h => h f rfl rfl,
  trivial⟩
  h
def rh (x1 x2 : Value) (M : Store) (Q : KP) : Prop :=
 OP (fad 0 x2) fun t21 =>
 OP (ld 1 false t21 M) fun t22 =>
 OP (lenV t22) fun t23 =>
 OP2 (mkS (.bool false) 1 1 Ty.k t23 t23 M) fun t24 M1 =>
 dy x1 x2 t24 (.int .i64 0) M1 Q
theorem Ao (h : rh x1 x2 M Q) : eR x1 x2 M Q := by
 rintro f rfl rfl
 exact ru (N := 135) (ct := (.two .no (.two (.two .no (.two (.here 1000) .no)) (.here 1001))))
  [⟨1002, fun a M => dfr a.defers (dy (a.get 1) (a.get 2) (a.get 5) (a.get 6) M Q), Aa Try.f28 [1, 1, 1, 0, 1, 0] Q⟩,
  ⟨1003, fF, Aa Try.f28 [1, 1, 1, 1] Q⟩]
  [1000, 1001] []
  ⟨en fun f M h => h f rfl rfl rfl rfl,
  el,
  trivial⟩
  h
def kK (x1 x2 x5 x6 : Value) (M : Store) (Q : KP) : Prop :=
 OP (fad 0 x2) fun t26 =>
 OP (ld 1 false t26 M) fun t27 =>
 OP (lenV t27) fun t28 =>
 OP (ad .lss x6 t28) fun t29 =>
 BR t29 (
 OP (lenV x1) fun t35 =>
 OP (ad .eql t35 (.int .i64 0)) fun t36 =>
 OP (ixA 1 x5 x6) fun t37 =>
 OP (st 1 t37 t36 M) fun M1 =>
 bV x1 x2 x5 x6 (.int .i64 0) M1 Q
 ) (
 gH x2 x5 M Q
 )
theorem rz (h : kK x1 x2 x5 x6 M Q) : dy x1 x2 x5 x6 M Q := by
 rintro f rfl rfl rfl rfl
 refine lp ?_
 exact ru (N := 135) (ct := (.two .no (.two (.two (.two .no (.two .no (.two (.here 1000) .no))) .no) (.here 1001))))
  [⟨1002, fun a M => dfr a.defers (bV (a.get 1) (a.get 2) (a.get 5) (a.get 6) (a.get 7) M Q), Aa Try.f28 [1, 1, 1, 0, 1, 0, 0, 1, 0, 0, 1, 1, 0] Q⟩,
  ⟨1003, fF, Aa Try.f28 [1, 1, 1, 0, 1, 0, 0, 1, 1] Q⟩,
  ⟨2, fun a M => dfr a.defers (gH (a.get 2) (a.get 5) M Q), Aa Try.f28 [1, 1, 1, 1] Q⟩]
  [1000, 1001] [2]
  ⟨en fun f M h => h f rfl rfl rfl rfl rfl,
  el,
  en fun f M h => h f rfl rfl,
  trivial⟩
  h
def kL (x1 x2 x5 x6 x7 : Value) (M : Store) (Q : KP) : Prop :=
 OP (fad 0 x2) fun t39 =>
 OP (ld 1 false t39 M) fun t40 =>
 OP (ixA 5 t40 x6) fun t42 =>
 OP (fad 0 t42) fun t43 =>
 OP (ld 1 false t43 M) fun t44 =>
 OP (lenV t44) fun t45 =>
 OP (ad .lss x7 t45) fun t46 =>
 BR t46 (
 kA x1 x2 x5 x6 x7 M Q
 ) (
 gI x1 x2 x5 x6 M Q
 )
theorem rA (h : kL x1 x2 x5 x6 x7 M Q) : bV x1 x2 x5 x6 x7 M Q := by
 rintro f rfl rfl rfl rfl rfl
 refine lp ?_
 exact ru (N := 135) (ct := (.two .no (.here 1000)))
  [⟨1002, fun a M => dfr a.defers (kA (a.get 1) (a.get 2) (a.get 5) (a.get 6) (a.get 7) M Q), Aa Try.f28 [1, 1, 1, 0, 1, 0, 0, 1, 0, 0, 1, 1, 0, 0, 1] Q⟩,
  ⟨4, fun a M => dfr a.defers (gI (a.get 1) (a.get 2) (a.get 5) (a.get 6) M Q), Aa Try.f28 [1, 1, 1, 0, 1, 0, 0, 1, 1] Q⟩]
  [1000] [4]
  ⟨en fun f M h => h f rfl rfl rfl rfl rfl,
  en fun f M h => h f rfl rfl rfl rfl,
  trivial⟩
  h
def ri (x2 x5 : Value) (M : Store) (Q : KP) : Prop :=
 bW x2 x5 (.bool true) M Q
theorem Ap (h : ri x2 x5 M Q) : gH x2 x5 M Q := by
 rintro f rfl rfl
 exact ru (N := 135) (ct := (.two (.two .no (.two (.here 1000) .no)) (.here 1001)))
  [⟨1002, fun a M => dfr a.defers (bW (a.get 2) (a.get 5) (a.get 8) M Q), Aa Try.f28 [1, 1, 1, 1, 0, 1, 0] Q⟩,
  ⟨1003, fF, Aa Try.f28 [1, 1, 1, 1, 1] Q⟩]
  [1000, 1001] []
  ⟨en fun f M h => h f rfl rfl rfl,
  el,
  trivial⟩
  h
def rj (x1 x2 x5 x6 x7 : Value) (M : Store) (Q : KP) : Prop :=
 OP (ixA 1 x5 x6) fun t53 =>
 OP (ld 1 false t53 M) fun t54 =>
 BR t54 (
 OP (ixA 1 x5 x6) fun t68 =>
 OP (st 1 t68 (.bool true) M) fun M1 =>
 OP (ad .add x7 (.int .i64 1)) fun t48 =>
 bV x1 x2 x5 x6 t48 M1 Q
 ) (
 OP (fad 0 x2) fun t57 =>
 OP (ld 1 false t57 M) fun t58 =>
 OP (ixA 5 t58 x6) fun t60 =>
 OP (fad 0 t60) fun t61 =>
 OP (ld 1 false t61 M) fun t62 =>
 OP (ixA 1 t62 x7) fun t64 =>
 OP (ld 1 false t64 M) fun t65 =>
 R F.i1 #[x1, t65] M fun t66 M2 =>
 OP (ixA 1 x5 x6) fun t68_1 =>
 OP (st 1 t68_1 t66 M2) fun M3 =>
 OP (ad .add x7 (.int .i64 1)) fun t48_1 =>
 bV x1 x2 x5 x6 t48_1 M3 Q
 )
theorem Aq (h : rj x1 x2 x5 x6 x7 M Q) : kA x1 x2 x5 x6 x7 M Q := by
 rintro f rfl rfl rfl rfl rfl
 exact ru (N := 135) (ct := .no)
  [⟨0, fun a M => dfr a.defers (bV (a.get 1) (a.get 2) (a.get 5) (a.get 6) (a.get 7) M Q), Aa Try.f28 [1, 1, 1, 0, 1, 0, 0, 1, 0, 0, 1, 1, 0] Q⟩]
  [] [0]
  ⟨en fun f M h => h f rfl rfl rfl rfl rfl,
  trivial⟩
  h
def rk (x1 x2 x5 x6 : Value) (M : Store) (Q : KP) : Prop :=
 OP (ad .add x6 (.int .i64 1)) fun t31 =>
 dy x1 x2 x5 t31 M Q
theorem Ar (h : rk x1 x2 x5 x6 M Q) : gI x1 x2 x5 x6 M Q := by
 rintro f rfl rfl rfl rfl
 exact ru (N := 135) (ct := .no)
  [⟨0, fun a M => dfr a.defers (dy (a.get 1) (a.get 2) (a.get 5) (a.get 6) M Q), Aa Try.f28 [1, 1, 1, 0, 1, 0] Q⟩]
  [] [0]
  ⟨en fun f M h => h f rfl rfl rfl rfl,
  trivial⟩
  h
def gJ (x2 x5 x8 : Value) (M : Store) (Q : KP) : Prop :=
 BR x8 (
 dz x2 x5 (.bool false) (.int .i64 0) M Q
 ) (
 kB x2 x5 M Q
 )
theorem kO (h : gJ x2 x5 x8 M Q) : bW x2 x5 x8 M Q := by
 rintro f rfl rfl rfl
 refine lp ?_
 exact ru (N := 135) (ct := (.two .no (.two (.two .no (.two .no (.two (.here 1000) .no))) .no)))
  [⟨1002, fun a M => dfr a.defers (dz (a.get 2) (a.get 5) (a.get 8) (a.get 9) M Q), Aa Try.f28 [1, 1, 1, 1, 0, 1, 0, 0, 1, 0, 1, 1, 0] Q⟩,
  ⟨6, fun a M => dfr a.defers (kB (a.get 2) (a.get 5) M Q), Aa Try.f28 [1, 1, 1, 1, 1] Q⟩]
  [1000] [6]
  ⟨en fun f M h => h f rfl rfl rfl rfl,
  en fun f M h => h f rfl rfl,
  trivial⟩
  h
def kM (x2 x5 x8 x9 : Value) (M : Store) (Q : KP) : Prop :=
 OP (fad 0 x2) fun t71 =>
 OP (ld 1 false t71 M) fun t72 =>
 OP (lenV t72) fun t73 =>
 OP (ad .lss x9 t73) fun t74 =>
 BR t74 (
 OP (ld 2 true x2 M) fun t77 =>
 R F.x #[t77, x9] M fun t79 M1 =>
 bI x2 x5 x8 x9 t79 (.int .i64 0) M1 Q
 ) (
 bW x2 x5 x8 M Q
 )
theorem rB (h : kM x2 x5 x8 x9 M Q) : dz x2 x5 x8 x9 M Q := by
 rintro f rfl rfl rfl rfl
 refine lp ?_
 exact ru (N := 135) (ct := (.two .no (.two (.two (.two .no (.two .no (.two (.here 1000) .no))) .no) (.here 1001))))
  [⟨1002, fun a M => dfr a.defers (bI (a.get 2) (a.get 5) (a.get 8) (a.get 9) (a.get 10) (a.get 11) M Q), Aa Try.f28 [1, 1, 1, 1, 0, 1, 0, 0, 1, 0, 1, 1, 0, 0, 1, 0, 0, 1, 1, 0] Q⟩,
  ⟨1003, fF, Aa Try.f28 [1, 1, 1, 1, 0, 1, 0, 0, 1, 0, 1, 1, 0, 0, 1, 1] Q⟩,
  ⟨8, fun a M => dfr a.defers (bW (a.get 2) (a.get 5) (a.get 8) M Q), Aa Try.f28 [1, 1, 1, 1, 0, 1, 0] Q⟩]
  [1000, 1001] [8]
  ⟨en fun f M h => h f rfl rfl rfl rfl rfl rfl,
  el,
  en fun f M h => h f rfl rfl rfl,
  trivial⟩
  h
def rl (x2 x5 : Value) (M : Store) (Q : KP) : Prop :=
 OP (ld 2 true x2 M) fun t110 =>
 R F.K #[t110] M fun t111 M1 =>
 OP (tup t111 0) fun t112 =>
 OP (tup t111 1) fun t113 =>
 cb x5 t112 (.slice none 0 0) (.int .i64 0) M1 Q
theorem As (h : rl x2 x5 M Q) : kB x2 x5 M Q := by
 rintro f rfl rfl
 exact ru (N := 135) (ct := (.two .no (.two .no (.two (.two .no (.two (.here 1000) .no)) (.here 1001)))))
  [⟨1002, fun a M => dfr a.defers (cb (a.get 5) (a.get 12) (a.get 14) (a.get 15) M Q), Aa Try.f28 [1, 1, 1, 1, 1, 1, 1, 0, 1, 0] Q⟩,
  ⟨1003, fF, Aa Try.f28 [1, 1, 1, 1, 1, 1, 1, 1] Q⟩]
  [1000, 1001] []
  ⟨en fun f M h => h f rfl rfl rfl rfl,
  el,
  trivial⟩
  h
def jF (x2 x5 x8 x9 x10 x11 : Value) (M : Store) (Q : KP) : Prop :=
 OP (lenV x10) fun t82 =>
 OP (ad .lss x11 t82) fun t83 =>
 BR t83 (
 OP (ixA 1 x5 x9) fun t87 =>
 OP (ld 1 false t87 M) fun t88 =>
 BR t88 (
 jy x2 x5 x8 x9 x10 x11 M Q
 ) (
 eh x2 x5 x8 x9 M Q
 )
 ) (
 eh x2 x5 x8 x9 M Q
 )
theorem pJ (h : jF x2 x5 x8 x9 x10 x11 M Q) : bI x2 x5 x8 x9 x10 x11 M Q := by
 rintro f rfl rfl rfl rfl rfl rfl
 refine lp ?_
 exact ru (N := 135) (ct := (.two .no (.here 1000)))
  [⟨1002, fun a M => dfr a.defers (jy (a.get 2) (a.get 5) (a.get 8) (a.get 9) (a.get 10) (a.get 11) M Q), Aa Try.f28 [1, 1, 1, 1, 0, 1, 0, 0, 1, 0, 1, 1, 0, 0, 1, 0, 0, 1, 1, 0, 0, 1] Q⟩,
  ⟨10, fun a M => dfr a.defers (eh (a.get 2) (a.get 5) (a.get 8) (a.get 9) M Q), Aa Try.f28 [1, 1, 1, 1, 0, 1, 0, 0, 1, 0, 1, 1, 0, 0, 1, 1] Q⟩]
  [1000] [10]
  ⟨en fun f M h => h f rfl rfl rfl rfl rfl rfl,
  en fun f M h => h f rfl rfl rfl rfl,
  trivial⟩
  h
def jG (x5 x12 x14 x15 : Value) (M : Store) (Q : KP) : Prop :=
 OP (lenV x12) fun t116 =>
 OP (ad .lss x15 t116) fun t117 =>
 BR t117 (
 jz x5 x12 x14 x15 M Q
 ) (
 jA x14 M Q
 )
theorem pK (h : jG x5 x12 x14 x15 M Q) : cb x5 x12 x14 x15 M Q := by
 rintro f rfl rfl rfl rfl
 refine lp ?_
 exact ru (N := 135) (ct := (.two .no (.here 1000)))
  [⟨1002, fun a M => dfr a.defers (jz (a.get 5) (a.get 12) (a.get 14) (a.get 15) M Q), Aa Try.f28 [1, 1, 1, 1, 1, 1, 1, 0, 1, 0, 0, 1] Q⟩,
  ⟨12, fun a M => dfr a.defers (jA (a.get 14) M Q), Aa Try.f28 [1, 1, 1, 1, 1, 1, 1, 1] Q⟩]
  [1000] [12]
  ⟨en fun f M h => h f rfl rfl rfl rfl,
  en fun f M h => h f rfl,
  trivial⟩
  h
def pw (x2 x5 x8 x9 x10 x11 : Value) (M : Store) (Q : KP) : Prop :=
 BR x8 (
 OP (ixA 1 x10 x11) fun t106 =>
 OP (ld 1 false t106 M) fun t107 =>
 OP (ixA 1 x5 t107) fun t108 =>
 OP (st 1 t108 (.bool true) M) fun M1 =>
 OP (ad .add x11 (.int .i64 1)) fun t91 =>
 bI x2 x5 (.bool true) x9 x10 t91 M1 Q
 ) (
 OP (ixA 1 x10 x11) fun t97 =>
 OP (ld 1 false t97 M) fun t98 =>
 OP (ixA 1 x5 t98) fun t99 =>
 OP (ld 1 false t99 M) fun t100 =>
 OP (aun .not t100) fun t101 =>
 OP (ixA 1 x10 x11) fun t106_1 =>
 OP (ld 1 false t106_1 M) fun t107_1 =>
 OP (ixA 1 x5 t107_1) fun t108_1 =>
 OP (st 1 t108_1 (.bool true) M) fun M2 =>
 OP (ad .add x11 (.int .i64 1)) fun t91_1 =>
 bI x2 x5 t101 x9 x10 t91_1 M2 Q
 )
theorem yM (h : pw x2 x5 x8 x9 x10 x11 M Q) : jy x2 x5 x8 x9 x10 x11 M Q := by
 rintro f rfl rfl rfl rfl rfl rfl
 exact ru (N := 135) (ct := .no)
  [⟨0, fun a M => dfr a.defers (bI (a.get 2) (a.get 5) (a.get 8) (a.get 9) (a.get 10) (a.get 11) M Q), Aa Try.f28 [1, 1, 1, 1, 0, 1, 0, 0, 1, 0, 1, 1, 0, 0, 1, 0, 0, 1, 1, 0] Q⟩]
  [] [0]
  ⟨en fun f M h => h f rfl rfl rfl rfl rfl rfl,
  trivial⟩
  h
def px (x2 x5 x8 x9 : Value) (M : Store) (Q : KP) : Prop :=
 OP (ad .add x9 (.int .i64 1)) fun t76 =>
 dz x2 x5 x8 t76 M Q
theorem yN (h : px x2 x5 x8 x9 M Q) : eh x2 x5 x8 x9 M Q := by
 rintro f rfl rfl rfl rfl
 exact ru (N := 135) (ct := .no)
  [⟨0, fun a M => dfr a.defers (dz (a.get 2) (a.get 5) (a.get 8) (a.get 9) M Q), Aa Try.f28 [1, 1, 1, 1, 0, 1, 0, 0, 1, 0, 1, 1, 0] Q⟩]
  [] [0]
  ⟨en fun f M h => h f rfl rfl rfl rfl,
  trivial⟩
  h
def py (x5 x12 x14 x15 : Value) (M : Store) (Q : KP) : Prop :=
 OP (ixA 1 x12 x15) fun t123 =>
 OP (ld 1 false t123 M) fun t124 =>
 OP (ixA 1 x5 t124) fun t125 =>
 OP (ld 1 false t125 M) fun t126 =>
 BR t126 (
 OP (ixA 1 x12 x15) fun t130 =>
 OP (ld 1 false t130 M) fun t131 =>
 OP (al (.int .i64 0) 1 1 [(0, t131)]) fun c =>
 LT (.slice (some ⟨M.n, 0, none⟩) 1 1) (M.push (some (.inl (c, Ty.b, true)))) fun t132 M1 =>
 OP2 (appV 1 Ty.b x14 t132 M1) fun t133 M2 =>
 OP (ad .add x15 (.int .i64 1)) fun t119 =>
 cb x5 x12 t133 t119 M2 Q
 ) (
 OP (ad .add x15 (.int .i64 1)) fun t119_1 =>
 cb x5 x12 x14 t119_1 M Q
 )
theorem yO (h : py x5 x12 x14 x15 M Q) : jz x5 x12 x14 x15 M Q := by
 rintro f rfl rfl rfl rfl
 exact ru (N := 135) (ct := .no)
  [⟨0, fun a M => dfr a.defers (cb (a.get 5) (a.get 12) (a.get 14) (a.get 15) M Q), Aa Try.f28 [1, 1, 1, 1, 1, 1, 1, 0, 1, 0] Q⟩]
  [] [0]
  ⟨en fun f M h => h f rfl rfl rfl rfl,
  trivial⟩
  h
def pz (x14 : Value) (M : Store) (Q : KP) : Prop :=
 NTs [x14] ∧ Q x14 M
theorem yP (h : pz x14 M Q) : jA x14 M Q := by
 rintro f rfl
 exact ru (N := 135) (ct := .no)
  [kE Try.f28 Q 1]
  [] [1]
  ⟨er,
  trivial⟩
  h
def fW (x0 x1 x5 : Value) (M : Store) (Q : KP) : Prop :=
 ∀ f : Nat → Value, f 0 = x0 → f 1 = x1 → f 5 = x5 → An Try.f52 [1, 0, 1, 0] 18 f M Q
def pZ (M : Store) (Q : KP) : Prop :=
 ∀ f : Nat → Value, An Try.f52 [1, 1] 18 f M Q
def AZ (x0 x1 : Value) (M : Store) (Q : KP) : Prop :=
 fW x0 x1 (.int .i64 0) M Q
theorem Hy (h : AZ x0 x1 M Q) : R F.i1 #[x0, x1] M Q := by
 refine ro Try.func52 ?_
 exact ru (N := 18) (ct := (.two .no (.two (.two .no (.two (.here 1000) .no)) (.here 1001))))
  [⟨1002, fun a M => dfr a.defers (fW (a.get 0) (a.get 1) (a.get 5) M Q), Aa Try.f52 [1, 0, 1, 0] Q⟩,
  ⟨1003, fF, Aa Try.f52 [1, 1] Q⟩]
  [1000, 1001] []
  ⟨en fun f M h => h f rfl rfl rfl,
  el,
  trivial⟩
  h
def qg (x0 x1 x5 : Value) (M : Store) (Q : KP) : Prop :=
 OP (lenV x0) fun t8 =>
 OP (ad .lss x5 t8) fun t9 =>
 BR t9 (
 OP (ixA 1 x0 x5) fun t14 =>
 OP (ld 1 false t14 M) fun t15 =>
 OP (ap .eql t15 x1) fun t17 =>
 BR t17 (
 NTs [(.bool true)] ∧ Q (.bool true) M
 ) (
 OP (ad .add x5 (.int .i64 1)) fun t11 =>
 fW x0 x1 t11 M Q
 )
 ) (
 pZ M Q
 )
theorem xD (h : qg x0 x1 x5 M Q) : fW x0 x1 x5 M Q := by
 rintro f rfl rfl rfl
 refine lp ?_
 exact ru (N := 18) (ct := .no)
  [⟨0, fun a M => dfr a.defers (fW (a.get 0) (a.get 1) (a.get 5) M Q), Aa Try.f52 [1, 0, 1, 0] Q⟩,
  kE Try.f52 Q 1,
  ⟨2, fun a M => dfr a.defers (pZ M Q), Aa Try.f52 [1, 1] Q⟩]
  [] [0, 1, 2]
  ⟨en fun f M h => h f rfl rfl rfl,
  er,
  en fun f M h => h f,
  trivial⟩
  h
def wN (M : Store) (Q : KP) : Prop :=
 NTs [(.bool false)] ∧ Q (.bool false) M
theorem EG (h : wN M Q) : pZ M Q := by
 intro f 
 exact ru (N := 18) (ct := .no)
  [kE Try.f52 Q 1]
  [] [1]
  ⟨er,
  trivial⟩
  h
end Go.G

open Go.RowKit
namespace Go.G
open Go.Ab Go.Proofs
set_option linter.unusedVariables false
set_option maxRecDepth 100000
variable {x0 x1 x2 x3 x4 x5 x6 x7 x8 x9 x10 x11 x12 x14 x15 x16 x18 x19 x20 x25 x26 x27 x30 x31 x32 : Value} {M : Store} {Q : KP}
def fm (ds : List Deferred) (x5 x7 x23 : Value) (M : Store) (Q : KP) : Prop :=
 ∀ f : Nat → Value, f 5 = x5 → f 7 = x7 → f 23 = x23 → At Try.prog Ex none Try.f21 [1, 1, 1, 0, 1, 0] ⟨⟨43, f⟩, ds⟩ M Q
def ij (l : Nat) (x7 x8 : Value) (M : Store) (Q : KP) : Prop :=
 ∀ f : Nat → Value, f 7 = x7 → f 8 = x8 → AtY Try.prog Ex l Try.f21 [1, 1, 1, 0, 1, 0, 1] [] ⟨⟨43, f⟩, []⟩ M Q
def ik (ds : List Deferred) (x5 x7 : Value) (M : Store) (Q : KP) : Prop :=
 ∀ f : Nat → Value, f 5 = x5 → f 7 = x7 → At Try.prog Ex none Try.f21 [1, 1, 1, 1] ⟨⟨43, f⟩, ds⟩ M Q
def bM (ds : List Deferred) (x7 x9 x27 x28 x29 : Value) (M : Store) (Q : KP) : Prop :=
 ∀ f : Nat → Value, f 7 = x7 → f 9 = x9 → f 27 = x27 → f 28 = x28 → f 29 = x29 → At Try.prog Ex none Try.f21 [1, 1, 1, 1, 1, 0, 1, 0] ⟨⟨43, f⟩, ds⟩ M Q
def il (ds : List Deferred) (x7 x9 x27 x28 x29 : Value) (M : Store) (Q : KP) : Prop :=
 ∀ f : Nat → Value, f 7 = x7 → f 9 = x9 → f 27 = x27 → f 28 = x28 → f 29 = x29 → At Try.prog Ex none Try.f21 [1, 1, 1, 1, 1, 0, 1, 0, 0, 1, 1] ⟨⟨43, f⟩, ds⟩ M Q
def fo (ds : List Deferred) (x9 : Value) (M : Store) (Q : KP) : Prop :=
 ∀ f : Nat → Value, f 9 = x9 → At Try.prog Ex none Try.f21 [1, 1, 1, 1, 1, 1] ⟨⟨43, f⟩, ds⟩ M Q
def qT (x0 x1 : Value) (M : Store) (Q : KP) : Prop :=
 OP (aJ x0) fun c =>
 LT (.pointer (some ⟨M.n, 0, none⟩)) (M.push (some (.inl (c, Ty.d, true)))) fun t2 M1 =>
 OP (ld 2 true t2 M1) fun t13 =>
 R F.H #[t13] M1 fun t14 M2 =>
 OP (tup t14 0) fun t15 =>
 OP (tup t14 1) fun t16 =>
 LT (.map (some M2.n)) (M2.push (some (.inr (.inl [])))) fun t17 M3 =>
 LT (.pointer (some ⟨M3.n, 0, none⟩)) (M3.push (some (.inl ([(.map none)], Ty.q, true)))) fun t7 M4 =>
 OP (st 1 t7 t17 M4) fun M5 =>
 OP (ld 2 true t2 M5) fun t18 =>
 R F.I #[t18, x1] M5 fun t20 M6 =>
 TDj [0, 1] [M5.n, M5.n, M5.n] M5 M6 ∧
 OP (ld 2 true t2 M6) fun t21 =>
 R F.u #[t21] M6 fun t22 M7 =>
 TDx [0, 0, 3, 0, 15, 31] [M5.n, M5.n, M5.n, M6.n, M6.n] 4 M6 M7 ∧
 R F.p #[t20, t22] M7 fun t23 M8 =>
 TDx [0, 0, 3, 0, 15, 31] [M5.n, M5.n, M5.n, M6.n, M6.n, M7.n] 5 M7 M8 ∧
 fm [] t15 t7 t23 M8 Q
theorem z5 (h : qT x0 x1 M Q) : R F.z #[x0, x1] M Q := by
 refine ro Try.func21 ?_
 exact ru (N := 43) (ct := (.two .no (.two .no (.two .no (.two (.two .no (.two (.here 1000) .no)) (.here 1001))))))
  [⟨1002, fun a M => fm a.defers (a.get 5) (a.get 7) (a.get 23) M Q, Aa Try.f21 [1, 1, 1, 0, 1, 0] Q⟩,
  ⟨1003, fF, Aa Try.f21 [1, 1, 1, 1] Q⟩]
  [1000, 1001] []
  ⟨ed fun f ds M h => h f rfl rfl rfl,
  el,
  trivial⟩
  h
def gT (x7 : Value) (st : LoopState) (pe : Nat) (rc : dM) : Prop := ∃ f : Nat → Value, f 7 = x7 ∧ rc = ⟨st, pe, ⟨43, f⟩, #[24], (sub (bA Try.f21) [1, 1, 1, 0, 1, 0, 0]), (sub (bA Try.f21) [1, 1, 1, 0, 1, 0, 1])⟩
def mh (l : Nat) (x7 : Value) (y24 : Value) (M : Store) (Q : KP) : Prop :=
 OP (cV M l) fun r => r.st = .ready ∧
 ij l x7 y24 (bj M l { r with st := .busy }) Q
theorem xK {l pe : Nat} {x7 : Value} {y24 : Value} {M : Store} {Q : KP} {rc : dM} (hr : cV M l = some rc) (hc : gT x7 .ready pe rc) (h : mh l x7 y24 M Q) : RunsY Try.prog Ex l #[y24] M Q := by
 obtain ⟨f, h7, hc⟩ := hc; subst h7; subst hc
 refine Ir (args := [y24]) hr (by kernel_rfl) ?_
 exact ru (N := 43) (ct := .no)
  [⟨0, fun a M => OP (cV M l) fun r => r.st = .ready ∧ dfr a.defers (ij l (a.get 7) (a.get 8) (bj M l { r with st := .busy }) Q), fun a M => H3 Try.prog Ex l (sub (bA Try.f21) [1, 1, 1, 0, 1, 0, 1]) Q 0 a M⟩]
  [] [0]
  ⟨fun a M hn h => by obtain ⟨⟨n, f⟩, ds⟩ := a; have hn : n = 43 := hn; subst hn; obtain ⟨r, hr, hs, h⟩ := dC.1 h; obtain ⟨hd, h⟩ := D0 h; have hd : ds = [] := hd; subst hd; exact dC.2 ⟨r, hr, hs, cast (by kernel_rfl) (h f rfl rfl)⟩, trivial⟩
  h
def np (ds : List Deferred) (x5 x7 x23 : Value) (M : Store) (Q : KP) : Prop :=
 ∀ rc : dM, gT x7 .ready 0 rc →
 rfc Try.prog Ex x23 (M.n + 1) ((M.push (some (.inr (.inr none)))).push (some (.inr (.inr (some rc))))) fun _ M1 =>
 OP (cV M1 (M.n + 1)) fun r => r.st ≠ .busy ∧
 bif Nat.beq 0 r.pe then (
 ik ({ target := .collected M.n, args := #[] } :: ds) x5 x7 (bj M1 (M.n + 1) { r with st := .exhausted }) Q
 ) else
 False
theorem xi {ds : List Deferred} {x5 x7 x23 : Value} {M : Store} {Q : KP} (h : np ds x5 x7 x23 M Q) : fm ds x5 x7 x23 M Q := by
 rintro f rfl rfl rfl
 unfold At
 refine cast (by kernel_rfl) (CW.rf (P := Try.prog) (E := Ex) (g := .tmp 23) (ps := #[24]) (x := (sub (bA Try.f21) [1, 1, 1, 0, 1, 0, 0])) (y := (sub (bA Try.f21) [1, 1, 1, 0, 1, 0, 1])) (a := ⟨⟨43, f⟩, ds⟩) (M := M) (K := gd Try.prog Ex none (bA Try.f21) [1, 1, 1, 0, 1, 0] (oU Try.prog Try.f21.results.toList Q)) ?_)
 refine cast (by kernel_rfl) (Im (k' := fun _ M' => OP (cV M' (M.n + 1)) fun r => r.st ≠ .busy ∧ gd Try.prog Ex none (bA Try.f21) [1, 1, 1, 0, 1, 0] (oU Try.prog Try.f21.results.toList Q) r.pe ⟨⟨43, f⟩, { target := .collected M.n, args := #[] } :: ds⟩ (bj M' (M.n + 1) { r with st := .exhausted })) (h ⟨.ready, 0, ⟨43, f⟩, #[24], (sub (bA Try.f21) [1, 1, 1, 0, 1, 0, 0]), (sub (bA Try.f21) [1, 1, 1, 0, 1, 0, 1])⟩ ⟨f, rfl, rfl⟩) ?_)
 intro _ M1 h
 obtain ⟨r, hr, hs, h⟩ := dC.1 h
 refine dC.2 ⟨r, hr, hs, ?_⟩
 exact Kl (N := 43) (L := [⟨0, fun a M => ik a.defers (a.get 5) (a.get 7) M Q, Aa Try.f21 [1, 1, 1, 1] Q⟩])
  [0] (by kernel_rfl) (by kernel_rfl)
  ⟨ed fun f ds M h => h f rfl rfl,
  trivial⟩
  rfl (cast (by kernel_rfl) h)
def nq (l : Nat) (x7 x8 : Value) (M : Store) (Q : KP) : Prop :=
 OP (ld 1 false x7 M) fun t25 =>
 OP (mup (.int .i64) t25 x8 (.int .i64 1) M) fun M1 =>
 YE l 0 M1 Q
theorem xj {l : Nat} {x7 x8 : Value} {M : Store} {Q : KP} (h : nq l x7 x8 M Q) : ij l x7 x8 M Q := by
 rintro f rfl rfl
 unfold AtY
 exact ru (N := 43) (ct := .no)
  [⟨0, fun a M => yg l Q 0 a M, fun a M => yg l Q 0 a M⟩]
  [] [0]
  ⟨er,
  trivial⟩
  h
def nr (ds : List Deferred) (x5 x7 : Value) (M : Store) (Q : KP) : Prop :=
 OP (lenV x5) fun t28 =>
 bM ds x7 (.slice none 0 0) x5 t28 (.int .i64 0) M Q
theorem xk {ds : List Deferred} {x5 x7 : Value} {M : Store} {Q : KP} (h : nr ds x5 x7 M Q) : ik ds x5 x7 M Q := by
 rintro f rfl rfl
 exact ru (N := 43) (ct := (.two .no (.two (.two .no (.two (.here 1000) .no)) (.here 1001))))
  [⟨1002, fun a M => bM a.defers (a.get 7) (a.get 9) (a.get 27) (a.get 28) (a.get 29) M Q, Aa Try.f21 [1, 1, 1, 1, 1, 0, 1, 0] Q⟩,
  ⟨1003, fF, Aa Try.f21 [1, 1, 1, 1, 1, 1] Q⟩]
  [1000, 1001] []
  ⟨ed fun f ds M h => h f rfl rfl rfl rfl rfl,
  el,
  trivial⟩
  h
def iK (ds : List Deferred) (x7 x9 x27 x28 x29 : Value) (M : Store) (Q : KP) : Prop :=
 OP (ad .lss x29 x28) fun t30 =>
 BR t30 (
 il ds x7 x9 x27 x28 x29 M Q
 ) (
 fo ds x9 M Q
 )
theorem nN {ds : List Deferred} {x7 x9 x27 x28 x29 : Value} {M : Store} {Q : KP} (h : iK ds x7 x9 x27 x28 x29 M Q) : bM ds x7 x9 x27 x28 x29 M Q := by
 rintro f rfl rfl rfl rfl rfl
 refine lp ?_
 exact ru (N := 43) (ct := (.two .no (.two .no (.here 1000))))
  [⟨1002, fun a M => il a.defers (a.get 7) (a.get 9) (a.get 27) (a.get 28) (a.get 29) M Q, Aa Try.f21 [1, 1, 1, 1, 1, 0, 1, 0, 0, 1, 1] Q⟩,
  ⟨4, fun a M => fo a.defers (a.get 9) M Q, Aa Try.f21 [1, 1, 1, 1, 1, 1] Q⟩]
  [1000] [4]
  ⟨ed fun f ds M h => h f rfl rfl rfl rfl rfl,
  ed fun f ds M h => h f rfl,
  trivial⟩
  h
def nt (ds : List Deferred) (x7 x9 x27 x28 x29 : Value) (M : Store) (Q : KP) : Prop :=
 OP (ixA 1 x27 x29) fun t31 =>
 OP (ld 1 false t31 M) fun t32 =>
 OP (ld 1 false x7 M) fun t33 =>
 OP (lku (.int .i64) (.int .i64 0) t33 t32 false M) fun t35 =>
 OP (ad .eql t35 (.int .i64 1)) fun t36 =>
 BR t36 (
 OP (al (.int .i64 0) 1 1 [(0, t32)]) fun c =>
 LT (.slice (some ⟨M.n, 0, none⟩) 1 1) (M.push (some (.inl (c, Ty.b, true)))) fun t39 M1 =>
 OP2 (appV 1 Ty.b x9 t39 M1) fun t40 M2 =>
 OP (ad .add x29 (.int .i64 1)) fun t41 =>
 bM ds x7 t40 x27 x28 t41 M2 Q
 ) (
 OP (ad .add x29 (.int .i64 1)) fun t41_1 =>
 bM ds x7 x9 x27 x28 t41_1 M Q
 )
theorem xl {ds : List Deferred} {x7 x9 x27 x28 x29 : Value} {M : Store} {Q : KP} (h : nt ds x7 x9 x27 x28 x29 M Q) : il ds x7 x9 x27 x28 x29 M Q := by
 rintro f rfl rfl rfl rfl rfl
 exact ru (N := 43) (ct := .no)
  [⟨0, fun a M => bM a.defers (a.get 7) (a.get 9) (a.get 27) (a.get 28) (a.get 29) M Q, Aa Try.f21 [1, 1, 1, 1, 1, 0, 1, 0] Q⟩]
  [] [0]
  ⟨ed fun f ds M h => h f rfl rfl rfl rfl rfl,
  trivial⟩
  h
def nu (ds : List Deferred) (x9 : Value) (M : Store) (Q : KP) : Prop :=
 OP (gL ds M) fun M1 =>
 NTs [x9] ∧ Q x9 M1
theorem xm {ds : List Deferred} {x9 : Value} {M : Store} {Q : KP} (h : nu ds x9 M Q) : fo ds x9 M Q := by
 rintro f rfl
 exact ru (N := 43) (ct := .no)
  [kE Try.f21 Q 1]
  [] [1]
  ⟨er,
  trivial⟩
  h
def de (x1 x4 x8 x9 : Value) (M : Store) (Q : KP) : Prop :=
 ∀ f : Nat → Value, f 1 = x1 → f 4 = x4 → f 8 = x8 → f 9 = x9 → An Try.f26 [1, 1, 0, 1, 0] 23 f M Q
def fV (x1 x4 : Value) (M : Store) (Q : KP) : Prop :=
 ∀ f : Nat → Value, f 1 = x1 → f 4 = x4 → An Try.f26 [1, 1, 1] 23 f M Q
def rS (x0 : Value) (M : Store) (Q : KP) : Prop :=
 OP (aJ x0) fun c =>
 LT (.pointer (some ⟨M.n, 0, none⟩)) (M.push (some (.inl (c, Ty.d, true)))) fun t1 M1 =>
 OP (fad 0 t1) fun t6 =>
 OP (ld 1 false t6 M1) fun t7 =>
 OP (lenV t7) fun t8 =>
 de t1 (.slice none 0 0) t8 (.int .i64 0) M1 Q
theorem A7 (h : rS x0 M Q) : R F.H #[x0] M Q := by
 refine ro Try.func26 ?_
 exact ru (N := 23) (ct := (.two .no (.two .no (.two (.two .no (.two (.here 1000) .no)) (.here 1001)))))
  [⟨1002, fun a M => dfr a.defers (de (a.get 1) (a.get 4) (a.get 8) (a.get 9) M Q), Aa Try.f26 [1, 1, 0, 1, 0] Q⟩,
  ⟨1003, fF, Aa Try.f26 [1, 1, 1] Q⟩]
  [1000, 1001] []
  ⟨en fun f M h => h f rfl rfl rfl rfl,
  el,
  trivial⟩
  h
def jB (x1 x4 x8 x9 : Value) (M : Store) (Q : KP) : Prop :=
 OP (ad .lss x9 x8) fun t10 =>
 BR t10 (
 OP (al (.int .i64 0) 1 1 [(0, x9)]) fun c =>
 LT (.slice (some ⟨M.n, 0, none⟩) 1 1) (M.push (some (.inl (c, Ty.b, true)))) fun t14 M1 =>
 OP2 (appV 1 Ty.b x4 t14 M1) fun t15 M2 =>
 OP (ad .add x9 (.int .i64 1)) fun t16 =>
 de x1 t15 x8 t16 M2 Q
 ) (
 fV x1 x4 M Q
 )
theorem pF (h : jB x1 x4 x8 x9 M Q) : de x1 x4 x8 x9 M Q := by
 rintro f rfl rfl rfl rfl
 refine lp ?_
 exact ru (N := 23) (ct := .no)
  [⟨0, fun a M => dfr a.defers (de (a.get 1) (a.get 4) (a.get 8) (a.get 9) M Q), Aa Try.f26 [1, 1, 0, 1, 0] Q⟩,
  ⟨2, fun a M => dfr a.defers (fV (a.get 1) (a.get 4) M Q), Aa Try.f26 [1, 1, 1] Q⟩]
  [] [0, 2]
  ⟨en fun f M h => h f rfl rfl rfl rfl,
  en fun f M h => h f rfl rfl,
  trivial⟩
  h
def pg (x1 x4 : Value) (M : Store) (Q : KP) : Prop :=
 OP (ld 2 true x1 M) fun t18 =>
 R F.u #[t18] M fun t19 M1 =>
 R F.o #[x4, t19] M1 fun t20 M2 =>
 OP (tup t20 0) fun t21 =>
 OP (tup t20 1) fun t22 =>
 NTs [t21, t22] ∧ Q (.tuple #[t21, t22]) M2
theorem yE (h : pg x1 x4 M Q) : fV x1 x4 M Q := by
 rintro f rfl rfl
 exact ru (N := 23) (ct := .no)
  [kE Try.f26 Q 1]
  [] [1]
  ⟨er,
  trivial⟩
  h
def aX (x3 x5 x14 x15 x16 : Value) (M : Store) (Q : KP) : Prop :=
 ∀ f : Nat → Value, f 3 = x3 → f 5 = x5 → f 14 = x14 → f 15 = x15 → f 16 = x16 → An Try.f50 [1, 1, 1, 0, 1, 0] 36 f M Q
def jp (x3 x5 x14 x15 x16 : Value) (M : Store) (Q : KP) : Prop :=
 ∀ f : Nat → Value, f 3 = x3 → f 5 = x5 → f 14 = x14 → f 15 = x15 → f 16 = x16 → An Try.f50 [1, 1, 1, 0, 1, 0, 0, 1, 1] 36 f M Q
def jq (x5 : Value) (M : Store) (Q : KP) : Prop :=
 ∀ f : Nat → Value, f 5 = x5 → An Try.f50 [1, 1, 1, 1] 36 f M Q
def rT (x0 x1 : Value) (M : Store) (Q : KP) : Prop :=
 OP (aJ x0) fun c =>
 LT (.pointer (some ⟨M.n, 0, none⟩)) (M.push (some (.inl (c, Ty.d, true)))) fun t2 M1 =>
 OP (aJ x1) fun c_1 =>
 LT (.pointer (some ⟨M1.n, 0, none⟩)) (M1.push (some (.inl (c_1, Ty.n, true)))) fun t3 M2 =>
 OP (ld 1 false t3 M2) fun t8 =>
 OP (lenV t8) fun t9 =>
 OP (ad .eql t9 (.int .i64 0)) fun t10 =>
 BR t10 (
 OP (fad 1 t2) fun t11 =>
 OP (ld 1 false t11 M2) fun t12 =>
 OP (st 1 t3 t12 M2) fun M3 =>
 OP (fad 0 t2) fun t13 =>
 OP (ld 1 false t13 M3) fun t14 =>
 OP (lenV t14) fun t15 =>
 aX t3 (.slice none 0 0) t14 t15 (.int .i64 0) M3 Q
 ) (
 OP (fad 0 t2) fun t13_1 =>
 OP (ld 1 false t13_1 M2) fun t14_1 =>
 OP (lenV t14_1) fun t15_1 =>
 aX t3 (.slice none 0 0) t14_1 t15_1 (.int .i64 0) M2 Q
 )
theorem A8 (h : rT x0 x1 M Q) : R F.I #[x0, x1] M Q := by
 refine ro Try.func50 ?_
 exact ru (N := 36) (ct := (.two .no (.two .no (.two .no (.two (.two .no (.two (.here 1000) .no)) (.here 1001))))))
  [⟨1002, fun a M => dfr a.defers (aX (a.get 3) (a.get 5) (a.get 14) (a.get 15) (a.get 16) M Q), Aa Try.f50 [1, 1, 1, 0, 1, 0] Q⟩,
  ⟨1003, fF, Aa Try.f50 [1, 1, 1, 1] Q⟩]
  [1000, 1001] []
  ⟨en fun f M h => h f rfl rfl rfl rfl rfl,
  el,
  trivial⟩
  h
def jC (x3 x5 x14 x15 x16 : Value) (M : Store) (Q : KP) : Prop :=
 OP (ad .lss x16 x15) fun t17 =>
 BR t17 (
 jp x3 x5 x14 x15 x16 M Q
 ) (
 jq x5 M Q
 )
theorem pG (h : jC x3 x5 x14 x15 x16 M Q) : aX x3 x5 x14 x15 x16 M Q := by
 rintro f rfl rfl rfl rfl rfl
 refine lp ?_
 exact ru (N := 36) (ct := (.two .no (.two .no (.here 1000))))
  [⟨1002, fun a M => dfr a.defers (jp (a.get 3) (a.get 5) (a.get 14) (a.get 15) (a.get 16) M Q), Aa Try.f50 [1, 1, 1, 0, 1, 0, 0, 1, 1] Q⟩,
  ⟨2, fun a M => dfr a.defers (jq (a.get 5) M Q), Aa Try.f50 [1, 1, 1, 1] Q⟩]
  [1000] [2]
  ⟨en fun f M h => h f rfl rfl rfl rfl rfl,
  en fun f M h => h f rfl,
  trivial⟩
  h
def pi (x3 x5 x14 x15 x16 : Value) (M : Store) (Q : KP) : Prop :=
 OP (ixA 5 x14 x16) fun t19 =>
 OP (ld 5 true t19 M) fun t20 =>
 LT (.pointer (some ⟨M.n, 0, none⟩)) (M.push (some (.inl ([(.slice none 0 0), (.slice none 0 0), (.slice none 0 0), (.slice none 0 0), (.bool false)], Ty.h, true)))) fun t7 M1 =>
 OP (st 5 t7 t20 M1) fun M2 =>
 OP (ld 1 false x3 M2) fun t21 =>
 OP (lenV t21) fun t22 =>
 OP (ad .eql t22 (.int .i64 0)) fun t23 =>
 BR t23 (
 OP (al (.int .i64 0) 1 1 [(0, x16)]) fun c =>
 LT (.slice (some ⟨M2.n, 0, none⟩) 1 1) (M2.push (some (.inl (c, Ty.b, true)))) fun t32 M3 =>
 OP2 (appV 1 Ty.b x5 t32 M3) fun t33 M4 =>
 OP (ad .add x16 (.int .i64 1)) fun t34 =>
 aX x3 t33 x14 x15 t34 M4 Q
 ) (
 OP (fad 0 t7) fun t25 =>
 OP (ld 1 false t25 M2) fun t26 =>
 OP (mkF (.func F.c) [] [x3]) fun t27 =>
 R F.r #[t26, t27] M2 fun t28 M5 =>
 BR t28 (
 OP (al (.int .i64 0) 1 1 [(0, x16)]) fun c_1 =>
 LT (.slice (some ⟨M5.n, 0, none⟩) 1 1) (M5.push (some (.inl (c_1, Ty.b, true)))) fun t32_1 M6 =>
 OP2 (appV 1 Ty.b x5 t32_1 M6) fun t33_1 M7 =>
 OP (ad .add x16 (.int .i64 1)) fun t34_1 =>
 aX x3 t33_1 x14 x15 t34_1 M7 Q
 ) (
 OP (ad .add x16 (.int .i64 1)) fun t34_2 =>
 aX x3 x5 x14 x15 t34_2 M5 Q
 )
 )
theorem yF (h : pi x3 x5 x14 x15 x16 M Q) : jp x3 x5 x14 x15 x16 M Q := by
 rintro f rfl rfl rfl rfl rfl
 exact ru (N := 36) (ct := .no)
  [⟨0, fun a M => dfr a.defers (aX (a.get 3) (a.get 5) (a.get 14) (a.get 15) (a.get 16) M Q), Aa Try.f50 [1, 1, 1, 0, 1, 0] Q⟩]
  [] [0]
  ⟨en fun f M h => h f rfl rfl rfl rfl rfl,
  trivial⟩
  h
def pj (x5 : Value) (M : Store) (Q : KP) : Prop :=
 NTs [x5] ∧ Q x5 M
theorem yG (h : pj x5 M Q) : jq x5 M Q := by
 rintro f rfl
 exact ru (N := 36) (ct := .no)
  [kE Try.f50 Q 1]
  [] [1]
  ⟨er,
  trivial⟩
  h
def rR (x0 : Value) (M : Store) (Q : KP) : Prop :=
 OP (aJ x0) fun c =>
 LT (.pointer (some ⟨M.n, 0, none⟩)) (M.push (some (.inl (c, Ty.d, true)))) fun t1 M1 =>
 OP (ld 2 true t1 M1) fun t4 =>
 R F.N #[t4] M1 fun t5 M2 =>
 LT (.pointer (some ⟨M2.n, 0, none⟩)) (M2.push (some (.inl ([(.map none)], Ty.p, true)))) fun t3 M3 =>
 OP (st 1 t3 t5 M3) fun M4 =>
 OP (mkF (.func F.e) [] [t1, t3]) fun t6 =>
 NTs [t6] ∧ Q t6 M4
theorem A6 (h : rR x0 M Q) : R F.u #[x0] M Q := by
 refine ro Try.func51 ?_
 exact ru (N := 7) (ct := .no)
  [kE Try.f51 Q 1]
  [] [1]
  ⟨er,
  trivial⟩
  h
def mO (x0 x1 : Value) (M : Store) (Q : KP) : Prop :=
 R F.T #[x0, x1] M fun t7 M1 =>
 OP (ad .geq t7 (.int .i64 0)) fun t8 =>
 NTs [t8] ∧ Q t8 M1
theorem vV (h : mO x0 x1 M Q) : R F.r #[x0, x1] M Q := by
 refine ro Try.func69 ?_
 exact ru (N := 9) (ct := .no)
  [kE Try.f69 Q 1]
  [] [1]
  ⟨er,
  trivial⟩
  h
def ny (x0 x1 : Value) (M : Store) (Q : KP) : Prop :=
 OP (ld 1 false x1 M) fun t4 =>
 R F.w #[t4, x0] M fun t6 M1 =>
 NTs [t6] ∧ Q t6 M1
theorem xn (h : ny x0 x1 M Q) : R F.c #[x0, x1] M Q := by
 refine ro Try.func70 ?_
 exact ru (N := 7) (ct := .no)
  [kE Try.f70 Q 1]
  [] [1]
  ⟨er,
  trivial⟩
  h
def sV (x0 x1 : Value) (M : Store) (Q : KP) : Prop :=
 R F.n1 #[x0, x1] M fun t7 M1 =>
 OP (ad .geq t7 (.int .i64 0)) fun t8 =>
 NTs [t8] ∧ Q t8 M1
theorem BO (h : sV x0 x1 M Q) : R F.w #[x0, x1] M Q := by
 refine ro Try.func71 ?_
 exact ru (N := 9) (ct := .no)
  [kE Try.f71 Q 1]
  [] [1]
  ⟨er,
  trivial⟩
  h
def dt (x3 x10 x11 x12 : Value) (M : Store) (Q : KP) : Prop :=
 ∀ f : Nat → Value, f 3 = x3 → f 10 = x10 → f 11 = x11 → f 12 = x12 → An Try.f72 [1, 1, 0, 1, 0] 35 f M Q
def kr (x3 x10 x11 x12 : Value) (M : Store) (Q : KP) : Prop :=
 ∀ f : Nat → Value, f 3 = x3 → f 10 = x10 → f 11 = x11 → f 12 = x12 → An Try.f72 [1, 1, 0, 1, 0, 0, 1, 1] 35 f M Q
def ku (x3 : Value) (M : Store) (Q : KP) : Prop :=
 ∀ f : Nat → Value, f 3 = x3 → An Try.f72 [1, 1, 1] 35 f M Q
def du (x3 x4 x10 x11 x12 x18 x19 x20 : Value) (M : Store) (Q : KP) : Prop :=
 ∀ f : Nat → Value, f 3 = x3 → f 4 = x4 → f 10 = x10 → f 11 = x11 → f 12 = x12 → f 18 = x18 → f 19 = x19 → f 20 = x20 → An Try.f72 [1, 1, 0, 1, 0, 0, 1, 1, 0, 0, 1, 1, 0] 35 f M Q
def kw (x3 x4 x10 x11 x12 x18 x19 x20 : Value) (M : Store) (Q : KP) : Prop :=
 ∀ f : Nat → Value, f 3 = x3 → f 4 = x4 → f 10 = x10 → f 11 = x11 → f 12 = x12 → f 18 = x18 → f 19 = x19 → f 20 = x20 → An Try.f72 [1, 1, 0, 1, 0, 0, 1, 1, 0, 0, 1, 1, 0, 0, 1, 1] 35 f M Q
def gF (x3 x10 x11 x12 : Value) (M : Store) (Q : KP) : Prop :=
 ∀ f : Nat → Value, f 3 = x3 → f 10 = x10 → f 11 = x11 → f 12 = x12 → An Try.f72 [1, 1, 0, 1, 0, 0, 1, 1, 1] 35 f M Q
def uN (x0 : Value) (M : Store) (Q : KP) : Prop :=
 OP (aJ x0) fun c =>
 LT (.pointer (some ⟨M.n, 0, none⟩)) (M.push (some (.inl (c, Ty.d, true)))) fun t1 M1 =>
 LT (.map (some M1.n)) (M1.push (some (.inr (.inl [])))) fun t8 M2 =>
 OP (fad 0 t1) fun t9 =>
 OP (ld 1 false t9 M2) fun t10 =>
 OP (lenV t10) fun t11 =>
 dt t8 t10 t11 (.int .i64 0) M2 Q
theorem CO (h : uN x0 M Q) : R F.N #[x0] M Q := by
 refine ro Try.func72 ?_
 exact ru (N := 35) (ct := (.two .no (.two .no (.two (.two .no (.two (.here 1000) .no)) (.here 1001)))))
  [⟨1002, fun a M => dfr a.defers (dt (a.get 3) (a.get 10) (a.get 11) (a.get 12) M Q), Aa Try.f72 [1, 1, 0, 1, 0] Q⟩,
  ⟨1003, fF, Aa Try.f72 [1, 1, 1] Q⟩]
  [1000, 1001] []
  ⟨en fun f M h => h f rfl rfl rfl rfl,
  el,
  trivial⟩
  h
def kF (x3 x10 x11 x12 : Value) (M : Store) (Q : KP) : Prop :=
 OP (ad .lss x12 x11) fun t13 =>
 BR t13 (
 kr x3 x10 x11 x12 M Q
 ) (
 ku x3 M Q
 )
theorem rt (h : kF x3 x10 x11 x12 M Q) : dt x3 x10 x11 x12 M Q := by
 rintro f rfl rfl rfl rfl
 refine lp ?_
 exact ru (N := 35) (ct := (.two .no (.two .no (.here 1000))))
  [⟨1002, fun a M => dfr a.defers (kr (a.get 3) (a.get 10) (a.get 11) (a.get 12) M Q), Aa Try.f72 [1, 1, 0, 1, 0, 0, 1, 1] Q⟩,
  ⟨2, fun a M => dfr a.defers (ku (a.get 3) M Q), Aa Try.f72 [1, 1, 1] Q⟩]
  [1000] [2]
  ⟨en fun f M h => h f rfl rfl rfl rfl,
  en fun f M h => h f rfl,
  trivial⟩
  h
def qV (x3 x10 x11 x12 : Value) (M : Store) (Q : KP) : Prop :=
 OP (ixA 5 x10 x12) fun t15 =>
 OP (ld 5 true t15 M) fun t16 =>
 LT (.pointer (some ⟨M.n, 0, none⟩)) (M.push (some (.inl ([(.slice none 0 0), (.slice none 0 0), (.slice none 0 0), (.slice none 0 0), (.bool false)], Ty.h, true)))) fun t5 M1 =>
 OP (st 5 t5 t16 M1) fun M2 =>
 OP (fad 0 t5) fun t17 =>
 OP (ld 1 false t17 M2) fun t18 =>
 OP (lenV t18) fun t19 =>
 du x3 x12 x10 x11 x12 t18 t19 (.int .i64 0) M2 Q
theorem z8 (h : qV x3 x10 x11 x12 M Q) : kr x3 x10 x11 x12 M Q := by
 rintro f rfl rfl rfl rfl
 exact ru (N := 35) (ct := (.two (.two (.two .no (.two .no (.two (.here 1000) .no))) .no) (.here 1001)))
  [⟨1002, fun a M => dfr a.defers (du (a.get 3) (a.get 4) (a.get 10) (a.get 11) (a.get 12) (a.get 18) (a.get 19) (a.get 20) M Q), Aa Try.f72 [1, 1, 0, 1, 0, 0, 1, 1, 0, 0, 1, 1, 0] Q⟩,
  ⟨1003, fF, Aa Try.f72 [1, 1, 0, 1, 0, 0, 1, 1, 1] Q⟩]
  [1000, 1001] []
  ⟨en fun f M h => h f rfl rfl rfl rfl rfl rfl rfl rfl,
  el,
  trivial⟩
  h
def qW (x3 : Value) (M : Store) (Q : KP) : Prop :=
 NTs [x3] ∧ Q x3 M
theorem z9 (h : qW x3 M Q) : ku x3 M Q := by
 rintro f rfl
 exact ru (N := 35) (ct := .no)
  [kE Try.f72 Q 1]
  [] [1]
  ⟨er,
  trivial⟩
  h
def kG (x3 x4 x10 x11 x12 x18 x19 x20 : Value) (M : Store) (Q : KP) : Prop :=
 OP (ad .lss x20 x19) fun t21 =>
 BR t21 (
 kw x3 x4 x10 x11 x12 x18 x19 x20 M Q
 ) (
 gF x3 x10 x11 x12 M Q
 )
theorem rv (h : kG x3 x4 x10 x11 x12 x18 x19 x20 M Q) : du x3 x4 x10 x11 x12 x18 x19 x20 M Q := by
 rintro f rfl rfl rfl rfl rfl rfl rfl rfl
 refine lp ?_
 exact ru (N := 35) (ct := (.two .no (.two .no (.here 1000))))
  [⟨1002, fun a M => dfr a.defers (kw (a.get 3) (a.get 4) (a.get 10) (a.get 11) (a.get 12) (a.get 18) (a.get 19) (a.get 20) M Q), Aa Try.f72 [1, 1, 0, 1, 0, 0, 1, 1, 0, 0, 1, 1, 0, 0, 1, 1] Q⟩,
  ⟨4, fun a M => dfr a.defers (gF (a.get 3) (a.get 10) (a.get 11) (a.get 12) M Q), Aa Try.f72 [1, 1, 0, 1, 0, 0, 1, 1, 1] Q⟩]
  [1000] [4]
  ⟨en fun f M h => h f rfl rfl rfl rfl rfl rfl rfl rfl,
  en fun f M h => h f rfl rfl rfl rfl,
  trivial⟩
  h
def qX (x3 x4 x10 x11 x12 x18 x19 x20 : Value) (M : Store) (Q : KP) : Prop :=
 OP (ixA 1 x18 x20) fun t22 =>
 OP (ld 1 false t22 M) fun t23 =>
 OP (lku .string (.slice none 0 0) x3 t23 false M) fun t28 =>
 OP (al (.int .i64 0) 1 1 [(0, x4)]) fun c =>
 LT (.slice (some ⟨M.n, 0, none⟩) 1 1) (M.push (some (.inl (c, Ty.b, true)))) fun t30 M1 =>
 OP2 (appV 1 Ty.b t28 t30 M1) fun t31 M2 =>
 OP (mup .string x3 t23 t31 M2) fun M3 =>
 OP (ad .add x20 (.int .i64 1)) fun t32 =>
 du x3 x4 x10 x11 x12 x18 x19 t32 M3 Q
theorem Ac (h : qX x3 x4 x10 x11 x12 x18 x19 x20 M Q) : kw x3 x4 x10 x11 x12 x18 x19 x20 M Q := by
 rintro f rfl rfl rfl rfl rfl rfl rfl rfl
 exact ru (N := 35) (ct := .no)
  [⟨0, fun a M => dfr a.defers (du (a.get 3) (a.get 4) (a.get 10) (a.get 11) (a.get 12) (a.get 18) (a.get 19) (a.get 20) M Q), Aa Try.f72 [1, 1, 0, 1, 0, 0, 1, 1, 0, 0, 1, 1, 0] Q⟩]
  [] [0]
  ⟨en fun f M h => h f rfl rfl rfl rfl rfl rfl rfl rfl,
  trivial⟩
  h
def qY (x3 x10 x11 x12 : Value) (M : Store) (Q : KP) : Prop :=
 OP (ad .add x12 (.int .i64 1)) fun t33 =>
 dt x3 x10 x11 t33 M Q
theorem Ad (h : qY x3 x10 x11 x12 M Q) : gF x3 x10 x11 x12 M Q := by
 rintro f rfl rfl rfl rfl
 exact ru (N := 35) (ct := .no)
  [⟨0, fun a M => dfr a.defers (dt (a.get 3) (a.get 10) (a.get 11) (a.get 12) M Q), Aa Try.f72 [1, 1, 0, 1, 0] Q⟩]
  [] [0]
  ⟨en fun f M h => h f rfl rfl rfl rfl,
  trivial⟩
  h
def bS (x2 x5 x30 x31 x32 : Value) (M : Store) (Q : KP) : Prop :=
 ∀ f : Nat → Value, f 2 = x2 → f 5 = x5 → f 30 = x30 → f 31 = x31 → f 32 = x32 → An Try.f73 [1, 1, 1, 0, 1, 0] 43 f M Q
def gl (x5 : Value) (M : Store) (Q : KP) : Prop :=
 ∀ f : Nat → Value, f 5 = x5 → An Try.f73 [1, 1, 1, 1] 43 f M Q
def nn (x0 x1 x2 : Value) (M : Store) (Q : KP) : Prop :=
 OP (ad .lss x0 (.int .i64 0)) fun t9 =>
 BR t9 (
 NTs [(.slice none 0 0)] ∧ Q (.slice none 0 0) M
 ) (
 OP (fad 0 x1) fun t12 =>
 OP (ld 1 false t12 M) fun t13 =>
 OP (lenV t13) fun t14 =>
 OP (ad .geq x0 t14) fun t15 =>
 BR t15 (
 NTs [(.slice none 0 0)] ∧ Q (.slice none 0 0) M
 ) (
 OP (fad 0 x1) fun t17 =>
 OP (ld 1 false t17 M) fun t18 =>
 OP (ixA 5 t18 x0) fun t20 =>
 OP (fad 1 t20) fun t21 =>
 OP (ld 1 false t21 M) fun t22 =>
 OP (fad 0 x1) fun t23 =>
 OP (ld 1 false t23 M) fun t24 =>
 OP (ixA 5 t24 x0) fun t26 =>
 OP (fad 2 t26) fun t27 =>
 OP (ld 1 false t27 M) fun t28 =>
 OP (al (.slice none 0 0) 1 2 [(0, t22), (1, t28)]) fun c =>
 LT (.slice (some ⟨M.n, 0, none⟩) 2 2) (M.push (some (.inl (c, Ty.n, true)))) fun t29 M1 =>
 R F.L #[t29] M1 fun t30 M2 =>
 TDx [0, 1, 0, 7, 15, 31, 0, 64, 0, 448, 960, 1984, 4095, 8191, 16383, 0] [M.n, M.n, M.n, M.n, M.n, M.n, M.n, M.n, M.n, M.n, M.n, M.n, M.n, M1.n] 13 M1 M2 ∧
 OP (lenV t30) fun t31 =>
 bS x2 (.slice none 0 0) t30 t31 (.int .i64 0) M2 Q
 )
 )
theorem xh (h : nn x0 x1 x2 M Q) : R F.e #[x0, x1, x2] M Q := by
 refine ro Try.func73 ?_
 exact ru (N := 43) (ct := (.two .no (.two .no (.two .no (.two (.two .no (.two (.here 1000) .no)) (.here 1001))))))
  [⟨1002, fun a M => dfr a.defers (bS (a.get 2) (a.get 5) (a.get 30) (a.get 31) (a.get 32) M Q), Aa Try.f73 [1, 1, 1, 0, 1, 0] Q⟩,
  ⟨1003, fF, Aa Try.f73 [1, 1, 1, 1] Q⟩,
  kE Try.f73 Q 1]
  [1000, 1001] [1]
  ⟨en fun f M h => h f rfl rfl rfl rfl rfl,
  el,
  er,
  trivial⟩
  h
def gm (x2 x5 x30 x31 x32 : Value) (M : Store) (Q : KP) : Prop :=
 OP (ad .lss x32 x31) fun t33 =>
 BR t33 (
 OP (ixA 1 x30 x32) fun t34 =>
 OP (ld 1 false t34 M) fun t35 =>
 OP (ld 1 false x2 M) fun t37 =>
 OP (lku .string (.slice none 0 0) t37 t35 false M) fun t39 =>
 OP2 (appV 1 Ty.b x5 t39 M) fun t40 M1 =>
 OP (ad .add x32 (.int .i64 1)) fun t41 =>
 bS x2 t40 x30 x31 t41 M1 Q
 ) (
 gl x5 M Q
 )
theorem kY (h : gm x2 x5 x30 x31 x32 M Q) : bS x2 x5 x30 x31 x32 M Q := by
 rintro f rfl rfl rfl rfl rfl
 refine lp ?_
 exact ru (N := 43) (ct := .no)
  [⟨0, fun a M => dfr a.defers (bS (a.get 2) (a.get 5) (a.get 30) (a.get 31) (a.get 32) M Q), Aa Try.f73 [1, 1, 1, 0, 1, 0] Q⟩,
  ⟨2, fun a M => dfr a.defers (gl (a.get 5) M Q), Aa Try.f73 [1, 1, 1, 1] Q⟩]
  [] [0, 2]
  ⟨en fun f M h => h f rfl rfl rfl rfl rfl,
  en fun f M h => h f rfl,
  trivial⟩
  h
def kW (x5 : Value) (M : Store) (Q : KP) : Prop :=
 NTs [x5] ∧ Q x5 M
theorem uI (h : kW x5 M Q) : gl x5 M Q := by
 rintro f rfl
 exact ru (N := 43) (ct := .no)
  [kE Try.f73 Q 1]
  [] [1]
  ⟨er,
  trivial⟩
  h
def ep (x0 x3 x9 x10 x11 : Value) (M : Store) (Q : KP) : Prop :=
 ∀ f : Nat → Value, f 0 = x0 → f 3 = x3 → f 9 = x9 → f 10 = x10 → f 11 = x11 → An Try.f74 [1, 1, 0, 1, 0] 36 f M Q
def me (x0 x3 x9 x10 x11 : Value) (M : Store) (Q : KP) : Prop :=
 ∀ f : Nat → Value, f 0 = x0 → f 3 = x3 → f 9 = x9 → f 10 = x10 → f 11 = x11 → An Try.f74 [1, 1, 0, 1, 0, 0, 1, 1] 36 f M Q
def mf (x0 x3 : Value) (M : Store) (Q : KP) : Prop :=
 ∀ f : Nat → Value, f 0 = x0 → f 3 = x3 → An Try.f74 [1, 1, 1] 36 f M Q
def eu (x6 x25 x26 x27 : Value) (M : Store) (Q : KP) : Prop :=
 ∀ f : Nat → Value, f 6 = x6 → f 25 = x25 → f 26 = x26 → f 27 = x27 → An Try.f74 [1, 1, 1, 1, 0, 1, 0] 36 f M Q
def mg (x6 : Value) (M : Store) (Q : KP) : Prop :=
 ∀ f : Nat → Value, f 6 = x6 → An Try.f74 [1, 1, 1, 1, 1] 36 f M Q
def xe (x0 : Value) (M : Store) (Q : KP) : Prop :=
 OP (lenV x0) fun t10 =>
 ep x0 (.int .i64 0) x0 t10 (.int .i64 0) M Q
theorem EX (h : xe x0 M Q) : R F.L #[x0] M Q := by
 refine ro Try.func74 ?_
 exact ru (N := 36) (ct := (.two .no (.two .no (.two (.two .no (.two (.here 1000) .no)) (.here 1001)))))
  [⟨1002, fun a M => dfr a.defers (ep (a.get 0) (a.get 3) (a.get 9) (a.get 10) (a.get 11) M Q), Aa Try.f74 [1, 1, 0, 1, 0] Q⟩,
  ⟨1003, fF, Aa Try.f74 [1, 1, 1] Q⟩]
  [1000, 1001] []
  ⟨en fun f M h => h f rfl rfl rfl rfl rfl,
  el,
  trivial⟩
  h
def iS (x0 x3 x9 x10 x11 : Value) (M : Store) (Q : KP) : Prop :=
 OP (ad .lss x11 x10) fun t12 =>
 BR t12 (
 me x0 x3 x9 x10 x11 M Q
 ) (
 mf x0 x3 M Q
 )
theorem mP (h : iS x0 x3 x9 x10 x11 M Q) : ep x0 x3 x9 x10 x11 M Q := by
 rintro f rfl rfl rfl rfl rfl
 refine lp ?_
 exact ru (N := 36) (ct := (.two .no (.two .no (.here 1000))))
  [⟨1002, fun a M => dfr a.defers (me (a.get 0) (a.get 3) (a.get 9) (a.get 10) (a.get 11) M Q), Aa Try.f74 [1, 1, 0, 1, 0, 0, 1, 1] Q⟩,
  ⟨2, fun a M => dfr a.defers (mf (a.get 0) (a.get 3) M Q), Aa Try.f74 [1, 1, 1] Q⟩]
  [1000] [2]
  ⟨en fun f M h => h f rfl rfl rfl rfl rfl,
  en fun f M h => h f rfl rfl,
  trivial⟩
  h
def mM (x0 x3 x9 x10 x11 : Value) (M : Store) (Q : KP) : Prop :=
 OP (ixA 1 x9 x11) fun t13 =>
 OP (ld 1 false t13 M) fun t14 =>
 OP (lenV t14) fun t17 =>
 OP (ad .add x3 t17) fun t18 =>
 OP (ad .lss t18 (.int .i64 0)) fun t20 =>
 BR t20 (
 OP (mkI Ty.a (.string ⟨#[108, 101, 110, 32, 111, 117, 116, 32, 111, 102, 32, 114, 97, 110, 103, 101]⟩)) fun t21 =>
 False
 ) (
 OP (ad .add x11 (.int .i64 1)) fun t22 =>
 ep x0 t18 x9 x10 t22 M Q
 )
theorem tB (h : mM x0 x3 x9 x10 x11 M Q) : me x0 x3 x9 x10 x11 M Q := by
 rintro f rfl rfl rfl rfl rfl
 exact ru (N := 36) (ct := .no)
  [⟨0, fun a M => dfr a.defers (ep (a.get 0) (a.get 3) (a.get 9) (a.get 10) (a.get 11) M Q), Aa Try.f74 [1, 1, 0, 1, 0] Q⟩]
  [] [0]
  ⟨en fun f M h => h f rfl rfl rfl rfl rfl,
  trivial⟩
  h
def sT (x0 x3 : Value) (M : Store) (Q : KP) : Prop :=
 R F.m1 #[(.slice none 0 0), x3] M fun t24 M1 =>
 OP (lenV x0) fun t26 =>
 eu t24 x0 t26 (.int .i64 0) M1 Q
theorem BM (h : sT x0 x3 M Q) : mf x0 x3 M Q := by
 rintro f rfl rfl
 exact ru (N := 36) (ct := (.two .no (.two (.two .no (.two (.here 1000) .no)) (.here 1001))))
  [⟨1002, fun a M => dfr a.defers (eu (a.get 6) (a.get 25) (a.get 26) (a.get 27) M Q), Aa Try.f74 [1, 1, 1, 1, 0, 1, 0] Q⟩,
  ⟨1003, fF, Aa Try.f74 [1, 1, 1, 1, 1] Q⟩]
  [1000, 1001] []
  ⟨en fun f M h => h f rfl rfl rfl rfl,
  el,
  trivial⟩
  h
def iT (x6 x25 x26 x27 : Value) (M : Store) (Q : KP) : Prop :=
 OP (ad .lss x27 x26) fun t28 =>
 BR t28 (
 OP (ixA 1 x25 x27) fun t29 =>
 OP (ld 1 false t29 M) fun t30 =>
 OP2 (appV 1 Ty.a x6 t30 M) fun t33 M1 =>
 OP (ad .add x27 (.int .i64 1)) fun t34 =>
 eu t33 x25 x26 t34 M1 Q
 ) (
 mg x6 M Q
 )
theorem mQ (h : iT x6 x25 x26 x27 M Q) : eu x6 x25 x26 x27 M Q := by
 rintro f rfl rfl rfl rfl
 refine lp ?_
 exact ru (N := 36) (ct := .no)
  [⟨0, fun a M => dfr a.defers (eu (a.get 6) (a.get 25) (a.get 26) (a.get 27) M Q), Aa Try.f74 [1, 1, 1, 1, 0, 1, 0] Q⟩,
  ⟨4, fun a M => dfr a.defers (mg (a.get 6) M Q), Aa Try.f74 [1, 1, 1, 1, 1] Q⟩]
  [] [0, 4]
  ⟨en fun f M h => h f rfl rfl rfl rfl,
  en fun f M h => h f rfl,
  trivial⟩
  h
def sU (x6 : Value) (M : Store) (Q : KP) : Prop :=
 NTs [x6] ∧ Q x6 M
theorem BN (h : sU x6 M Q) : mg x6 M Q := by
 rintro f rfl
 exact ru (N := 36) (ct := .no)
  [kE Try.f74 Q 1]
  [] [1]
  ⟨er,
  trivial⟩
  h
def cP (x0 x1 x7 x8 : Value) (M : Store) (Q : KP) : Prop :=
 ∀ f : Nat → Value, f 0 = x0 → f 1 = x1 → f 7 = x7 → f 8 = x8 → An Try.f83 [1, 0, 1, 0] 19 f M Q
def iJ (M : Store) (Q : KP) : Prop :=
 ∀ f : Nat → Value, An Try.f83 [1, 1] 19 f M Q
def rq (x0 x1 : Value) (M : Store) (Q : KP) : Prop :=
 OP (lenV x0) fun t7 =>
 cP x0 x1 t7 (.int .i64 0) M Q
theorem Ax (h : rq x0 x1 M Q) : R F.T #[x0, x1] M Q := by
 refine ro Try.func83 ?_
 exact ru (N := 19) (ct := (.two .no (.two (.two .no (.two (.here 1000) .no)) (.here 1001))))
  [⟨1002, fun a M => dfr a.defers (cP (a.get 0) (a.get 1) (a.get 7) (a.get 8) M Q), Aa Try.f83 [1, 0, 1, 0] Q⟩,
  ⟨1003, fF, Aa Try.f83 [1, 1] Q⟩]
  [1000, 1001] []
  ⟨en fun f M h => h f rfl rfl rfl rfl,
  el,
  trivial⟩
  h
def iV (x0 x1 x7 x8 : Value) (M : Store) (Q : KP) : Prop :=
 OP (ad .lss x8 x7) fun t9 =>
 BR t9 (
 OP (ixA 1 x0 x8) fun t14 =>
 OP (ld 1 false t14 M) fun t15 =>
 KC x1 [t15] M fun t16 M1 =>
 BR t16 (
 NTs [x8] ∧ Q x8 M1
 ) (
 OP (ad .add x8 (.int .i64 1)) fun t18 =>
 cP x0 x1 x7 t18 M1 Q
 )
 ) (
 iJ M Q
 )
theorem nW (h : iV x0 x1 x7 x8 M Q) : cP x0 x1 x7 x8 M Q := by
 rintro f rfl rfl rfl rfl
 refine lp ?_
 exact ru (N := 19) (ct := .no)
  [⟨0, fun a M => dfr a.defers (cP (a.get 0) (a.get 1) (a.get 7) (a.get 8) M Q), Aa Try.f83 [1, 0, 1, 0] Q⟩,
  kE Try.f83 Q 1,
  ⟨2, fun a M => dfr a.defers (iJ M Q), Aa Try.f83 [1, 1] Q⟩]
  [] [0, 1, 2]
  ⟨en fun f M h => h f rfl rfl rfl rfl,
  er,
  en fun f M h => h f,
  trivial⟩
  h
def nM (M : Store) (Q : KP) : Prop :=
 NTs [(.int .i64 (-1))] ∧ Q (.int .i64 (-1)) M
theorem xJ (h : nM M Q) : iJ M Q := by
 intro f 
 exact ru (N := 19) (ct := .no)
  [kE Try.f83 Q 1]
  [] [1]
  ⟨er,
  trivial⟩
  h
def fb (x0 x1 x7 x8 : Value) (M : Store) (Q : KP) : Prop :=
 ∀ f : Nat → Value, f 0 = x0 → f 1 = x1 → f 7 = x7 → f 8 = x8 → An Try.f84 [1, 0, 1, 0] 19 f M Q
def oH (M : Store) (Q : KP) : Prop :=
 ∀ f : Nat → Value, An Try.f84 [1, 1] 19 f M Q
def zt (x0 x1 : Value) (M : Store) (Q : KP) : Prop :=
 OP (lenV x0) fun t7 =>
 fb x0 x1 t7 (.int .i64 0) M Q
theorem Gr (h : zt x0 x1 M Q) : R F.n1 #[x0, x1] M Q := by
 refine ro Try.func84 ?_
 exact ru (N := 19) (ct := (.two .no (.two (.two .no (.two (.here 1000) .no)) (.here 1001))))
  [⟨1002, fun a M => dfr a.defers (fb (a.get 0) (a.get 1) (a.get 7) (a.get 8) M Q), Aa Try.f84 [1, 0, 1, 0] Q⟩,
  ⟨1003, fF, Aa Try.f84 [1, 1] Q⟩]
  [1000, 1001] []
  ⟨en fun f M h => h f rfl rfl rfl rfl,
  el,
  trivial⟩
  h
def oO (x0 x1 x7 x8 : Value) (M : Store) (Q : KP) : Prop :=
 OP (ad .lss x8 x7) fun t9 =>
 BR t9 (
 OP (ixA 1 x0 x8) fun t14 =>
 OP (ld 1 false t14 M) fun t15 =>
 OP (ap .eql x1 t15) fun t16 =>
 BR t16 (
 NTs [x8] ∧ Q x8 M
 ) (
 OP (ad .add x8 (.int .i64 1)) fun t18 =>
 fb x0 x1 x7 t18 M Q
 )
 ) (
 oH M Q
 )
theorem vt (h : oO x0 x1 x7 x8 M Q) : fb x0 x1 x7 x8 M Q := by
 rintro f rfl rfl rfl rfl
 refine lp ?_
 exact ru (N := 19) (ct := .no)
  [⟨0, fun a M => dfr a.defers (fb (a.get 0) (a.get 1) (a.get 7) (a.get 8) M Q), Aa Try.f84 [1, 0, 1, 0] Q⟩,
  kE Try.f84 Q 1,
  ⟨2, fun a M => dfr a.defers (oH M Q), Aa Try.f84 [1, 1] Q⟩]
  [] [0, 1, 2]
  ⟨en fun f M h => h f rfl rfl rfl rfl,
  er,
  en fun f M h => h f,
  trivial⟩
  h
def vk (M : Store) (Q : KP) : Prop :=
 NTs [(.int .i64 (-1))] ∧ Q (.int .i64 (-1)) M
theorem Db (h : vk M Q) : oH M Q := by
 intro f 
 exact ru (N := 19) (ct := .no)
  [kE Try.f84 Q 1]
  [] [1]
  ⟨er,
  trivial⟩
  h
def qf (x0 x1 : Value) (M : Store) (Q : KP) : Prop :=
 ∀ f : Nat → Value, f 0 = x0 → f 1 = x1 → An Try.f85 [1, 1] 27 f M Q
def A5 (x0 x1 : Value) (M : Store) (Q : KP) : Prop :=
 OP (ad .lss x1 (.int .i64 0)) fun t6 =>
 BR t6 (
 OP (mkI Ty.a (.string ⟨#[99, 97, 110, 110, 111, 116, 32, 98, 101, 32, 110, 101, 103, 97, 116, 105, 118, 101]⟩)) fun t7 =>
 False
 ) (
 qf x0 x1 M Q
 )
theorem HC (h : A5 x0 x1 M Q) : R F.m1 #[x0, x1] M Q := by
 refine ro Try.func85 ?_
 exact ru (N := 27) (ct := (.two .no (.two .no (.here 1000))))
  [⟨1002, fun a M => dfr a.defers (qf (a.get 0) (a.get 1) M Q), Aa Try.f85 [1, 1] Q⟩]
  [1000] []
  ⟨en fun f M h => h f rfl rfl,
  trivial⟩
  h
def xf (x0 x1 : Value) (M : Store) (Q : KP) : Prop :=
 OP (B9 x0) fun t10 =>
 OP (lenV x0) fun t12 =>
 OP (ad .sub t10 t12) fun t13 =>
 OP (ad .sub x1 t13) fun t14 =>
 OP (ad .gtr t14 (.int .i64 0)) fun t16 =>
 BR t16 (
 OP (B9 x0) fun t19 =>
 OP (slV 1 Ty.a x0 none (some t19) M) fun t20 =>
 OP2 (yW (.string ⟨#[]⟩) 1 Ty.a t20 t14 M) fun t22 M1 =>
 OP (lenV x0) fun t24 =>
 OP (slV 1 Ty.a t22 none (some t24) M1) fun t25 =>
 NTs [t25] ∧ Q t25 M1
 ) (
 NTs [x0] ∧ Q x0 M
 )
theorem EY (h : xf x0 x1 M Q) : qf x0 x1 M Q := by
 rintro f rfl rfl
 exact ru (N := 27) (ct := .no)
  [kE Try.f85 Q 1]
  [] [1]
  ⟨er,
  trivial⟩
  h
end Go.G
