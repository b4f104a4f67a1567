/-  -/
import Derived.Test.YtnonfejhkbaikaaPGN
open Go.RowKit
namespace Go.G
open Go.Ab Go.Proofs
set_option linter.unusedVariables false
set_option maxRecDepth 100000
variable {x0 x1 x2 x7 x9 x10 x11 x14 x39 x40 x50 x51 x63 x64 : Value} {M : Store} {Q : KP}
def cH (x7 x9 x10 x11 x39 x40 : Value) (M : Store) (Q : KP) : Prop :=
 ∀ f : Nat → Value, f 7 = x7 → f 9 = x9 → f 10 = x10 → f 11 = x11 → f 39 = x39 → f 40 = x40 → An Try.f7 [1, 1, 1, 1, 1, 0, 1, 0] 86 f M Q
def io (x7 x9 x10 x11 : Value) (M : Store) (Q : KP) : Prop :=
 ∀ f : Nat → Value, f 7 = x7 → f 9 = x9 → f 10 = x10 → f 11 = x11 → An Try.f7 [1, 1, 1, 1, 1, 1] 86 f M Q
def cI (x7 x9 x10 x11 x50 x51 : Value) (M : Store) (Q : KP) : Prop :=
 ∀ f : Nat → Value, f 7 = x7 → f 9 = x9 → f 10 = x10 → f 11 = x11 → f 50 = x50 → f 51 = x51 → An Try.f7 [1, 1, 1, 1, 1, 1, 0, 1, 0] 86 f M Q
def fp (x7 x9 x10 : Value) (M : Store) (Q : KP) : Prop :=
 ∀ f : Nat → Value, f 7 = x7 → f 9 = x9 → f 10 = x10 → An Try.f7 [1, 1, 1, 1, 1, 1, 1] 86 f M Q
def cJ (x7 x9 x10 x14 x63 x64 : Value) (M : Store) (Q : KP) : Prop :=
 ∀ f : Nat → Value, f 7 = x7 → f 9 = x9 → f 10 = x10 → f 14 = x14 → f 63 = x63 → f 64 = x64 → An Try.f7 [1, 1, 1, 1, 1, 1, 1, 1, 0, 1, 0] 86 f M Q
def fq (x7 x9 x10 : Value) (M : Store) (Q : KP) : Prop :=
 ∀ f : Nat → Value, f 7 = x7 → f 9 = x9 → f 10 = x10 → An Try.f7 [1, 1, 1, 1, 1, 1, 1, 1, 1] 86 f M Q
def qZ (x0 x1 x2 : Value) (M : Store) (Q : KP) : Prop :=
 R F.lM #[x0] M fun t18 M1 =>
 R F.J #[t18] M1 fun t19 M2 =>
 OP (tup t19 0) fun t20 =>
 OP (tup t19 1) fun t21 =>
 LT (.pointer (some ⟨M2.n, 0, none⟩)) (M2.push (some (.inl ([(.slice none 0 0), (.slice none 0 0)], Ty.d, true)))) fun t7 M3 =>
 LT (.pointer (some ⟨M3.n, 0, none⟩)) (M3.push (some (.inl ([(.int .i64 0), (.int .i64 0), (.int .i64 0)], Ty.i, true)))) fun t8 M4 =>
 OP (st 2 t7 t20 M4) fun M5 =>
 OP (st 3 t8 t21 M5) fun M6 =>
 OP (fad 0 t8) fun t22 =>
 OP (ld 1 false t22 M6) fun t23 =>
 OP (ad .neq t23 (.int .i64 0)) fun t24 =>
 BR t24 (
 NTs [(.bool false)] ∧ Q (.bool false) M6
 ) (
 OP (ld 2 true t7 M6) fun t25 =>
 R F.V #[t25, (.slice none 0 0)] M6 fun t26 M7 =>
 TDj [0] [M6.n, M6.n] M6 M7 ∧
 OP (ld 2 true t7 M7) fun t27 =>
 R F.f1 #[t27, (.slice none 0 0)] M7 fun t28 M8 =>
 TDx [0, 1, 0, 7, 0, 0, 63, 127] [M6.n, M6.n, M7.n, M7.n] 3 M7 M8 ∧
 LT (.pointer (some ⟨M8.n, 0, none⟩)) (M8.push (some (.inl ([(.slice none 0 0), (.slice none 0 0)], Ty.e, true)))) fun t9 M9 =>
 LT (.pointer (some ⟨M9.n, 0, none⟩)) (M9.push (some (.inl ([(.slice none 0 0), (.slice none 0 0)], Ty.e, true)))) fun t10 M10 =>
 OP (st 2 t9 t26 M10) fun M11 =>
 TDx [0, 1, 0, 7, 0, 0, 63, 127] [M6.n, M6.n, M7.n, M7.n, M8.n, M9.n, M10.n] 6 M10 M11 ∧
 OP (st 2 t10 t28 M11) fun M12 =>
 TDx [0, 1, 0, 7, 0, 0, 63, 127] [M6.n, M6.n, M7.n, M7.n, M8.n, M9.n, M10.n, M11.n] 7 M11 M12 ∧
 OP (ld 2 true t7 M12) fun t29 =>
 OP (ld 2 true t9 M12) fun t30 =>
 OP (ad .and x1 (.int .i64 7)) fun t32 =>
 OP (ad .and x2 (.int .i64 3)) fun t34 =>
 OP (ad .add t34 (.int .i64 1)) fun t35 =>
 R F.W #[t29, t30, t32, t35] M12 fun t36 M13 =>
 LT (.pointer (some ⟨M13.n, 0, none⟩)) (M13.push (some (.inl ([(.slice none 0 0), (.slice none 0 0)], Ty.e, true)))) fun t11 M14 =>
 OP (st 2 t11 t36 M14) fun M15 =>
 OP (fad 0 t11) fun t37 =>
 OP (ld 1 false t37 M15) fun t38 =>
 OP (lenV t38) fun t39 =>
 cH t7 t9 t10 t11 t39 (.int .i64 0) M15 Q
 )
theorem Ae (h : qZ x0 x1 x2 M Q) : R F.S #[x0, x1, x2] M Q := by
 refine ro Try.func7 ?_
 exact ru (N := 86) (ct := (.two .no (.two .no (.two .no (.two .no (.two .no (.two (.two .no (.two (.here 1000) .no)) (.here 1001))))))))
  [⟨1002, fun a M => dfr a.defers (cH (a.get 7) (a.get 9) (a.get 10) (a.get 11) (a.get 39) (a.get 40) M Q), Aa Try.f7 [1, 1, 1, 1, 1, 0, 1, 0] Q⟩,
  ⟨1003, fF, Aa Try.f7 [1, 1, 1, 1, 1, 1] Q⟩,
  kE Try.f7 Q 1]
  [1000, 1001] [1]
  ⟨en fun f M h => h f rfl rfl rfl rfl rfl rfl,
  el,
  er,
  trivial⟩
  h
def iL (x7 x9 x10 x11 x39 x40 : Value) (M : Store) (Q : KP) : Prop :=
 OP (ad .lss x40 x39) fun t41 =>
 BR t41 (
 OP (fad 0 x11) fun t43 =>
 OP (ld 1 false t43 M) fun t44 =>
 OP (ixA 1 t44 x40) fun t46 =>
 OP (st 1 t46 (.int .i64 77) M) fun M1 =>
 OP (ad .add x40 (.int .i64 1)) fun t47 =>
 cH x7 x9 x10 x11 x39 t47 M1 Q
 ) (
 io x7 x9 x10 x11 M Q
 )
theorem nO (h : iL x7 x9 x10 x11 x39 x40 M Q) : cH x7 x9 x10 x11 x39 x40 M Q := by
 rintro f rfl rfl rfl rfl rfl rfl
 refine lp ?_
 exact ru (N := 86) (ct := .no)
  [⟨0, fun a M => dfr a.defers (cH (a.get 7) (a.get 9) (a.get 10) (a.get 11) (a.get 39) (a.get 40) M Q), Aa Try.f7 [1, 1, 1, 1, 1, 0, 1, 0] Q⟩,
  ⟨2, fun a M => dfr a.defers (io (a.get 7) (a.get 9) (a.get 10) (a.get 11) M Q), Aa Try.f7 [1, 1, 1, 1, 1, 1] Q⟩]
  [] [0, 2]
  ⟨en fun f M h => h f rfl rfl rfl rfl rfl rfl,
  en fun f M h => h f rfl rfl rfl rfl,
  trivial⟩
  h
def nz (x7 x9 x10 x11 : Value) (M : Store) (Q : KP) : Prop :=
 OP (fad 1 x11) fun t48 =>
 OP (ld 1 false t48 M) fun t49 =>
 OP (lenV t49) fun t50 =>
 cI x7 x9 x10 x11 t50 (.int .i64 0) M Q
theorem xo (h : nz x7 x9 x10 x11 M Q) : io x7 x9 x10 x11 M Q := by
 rintro f rfl rfl rfl rfl
 exact ru (N := 86) (ct := (.two (.two .no (.two (.here 1000) .no)) (.here 1001)))
  [⟨1002, fun a M => dfr a.defers (cI (a.get 7) (a.get 9) (a.get 10) (a.get 11) (a.get 50) (a.get 51) M Q), Aa Try.f7 [1, 1, 1, 1, 1, 1, 0, 1, 0] Q⟩,
  ⟨1003, fF, Aa Try.f7 [1, 1, 1, 1, 1, 1, 1] Q⟩]
  [1000, 1001] []
  ⟨en fun f M h => h f rfl rfl rfl rfl rfl rfl,
  el,
  trivial⟩
  h
def iM (x7 x9 x10 x11 x50 x51 : Value) (M : Store) (Q : KP) : Prop :=
 OP (ad .lss x51 x50) fun t52 =>
 BR t52 (
 OP (fad 1 x11) fun t54 =>
 OP (ld 1 false t54 M) fun t55 =>
 OP (ixA 1 t55 x51) fun t57 =>
 OP (st 1 t57 (.int .i64 77) M) fun M1 =>
 OP (ad .add x51 (.int .i64 1)) fun t58 =>
 cI x7 x9 x10 x11 x50 t58 M1 Q
 ) (
 fp x7 x9 x10 M Q
 )
theorem nP (h : iM x7 x9 x10 x11 x50 x51 M Q) : cI x7 x9 x10 x11 x50 x51 M Q := by
 rintro f rfl rfl rfl rfl rfl rfl
 refine lp ?_
 exact ru (N := 86) (ct := .no)
  [⟨0, fun a M => dfr a.defers (cI (a.get 7) (a.get 9) (a.get 10) (a.get 11) (a.get 50) (a.get 51) M Q), Aa Try.f7 [1, 1, 1, 1, 1, 1, 0, 1, 0] Q⟩,
  ⟨4, fun a M => dfr a.defers (fp (a.get 7) (a.get 9) (a.get 10) M Q), Aa Try.f7 [1, 1, 1, 1, 1, 1, 1] Q⟩]
  [] [0, 4]
  ⟨en fun f M h => h f rfl rfl rfl rfl rfl rfl,
  en fun f M h => h f rfl rfl rfl,
  trivial⟩
  h
def nA (x7 x9 x10 : Value) (M : Store) (Q : KP) : Prop :=
 OP (ld 2 true x7 M) fun t59 =>
 OP (ld 2 true x9 M) fun t60 =>
 R F.v #[t59, t60] M fun t61 M1 =>
 OP (lenV t61) fun t63 =>
 cJ x7 x9 x10 t61 t63 (.int .i64 0) M1 Q
theorem xp (h : nA x7 x9 x10 M Q) : fp x7 x9 x10 M Q := by
 rintro f rfl rfl rfl
 exact ru (N := 86) (ct := (.two .no (.two (.two .no (.two (.here 1000) .no)) (.here 1001))))
  [⟨1002, fun a M => dfr a.defers (cJ (a.get 7) (a.get 9) (a.get 10) (a.get 14) (a.get 63) (a.get 64) M Q), Aa Try.f7 [1, 1, 1, 1, 1, 1, 1, 1, 0, 1, 0] Q⟩,
  ⟨1003, fF, Aa Try.f7 [1, 1, 1, 1, 1, 1, 1, 1, 1] Q⟩]
  [1000, 1001] []
  ⟨en fun f M h => h f rfl rfl rfl rfl rfl rfl,
  el,
  trivial⟩
  h
def iN (x7 x9 x10 x14 x63 x64 : Value) (M : Store) (Q : KP) : Prop :=
 OP (ad .lss x64 x63) fun t65 =>
 BR t65 (
 OP (ixA 1 x14 x64) fun t69 =>
 OP (st 1 t69 (.int .i64 77) M) fun M1 =>
 OP (ad .add x64 (.int .i64 1)) fun t70 =>
 cJ x7 x9 x10 x14 x63 t70 M1 Q
 ) (
 fq x7 x9 x10 M Q
 )
theorem nQ (h : iN x7 x9 x10 x14 x63 x64 M Q) : cJ x7 x9 x10 x14 x63 x64 M Q := by
 rintro f rfl rfl rfl rfl rfl rfl
 refine lp ?_
 exact ru (N := 86) (ct := .no)
  [⟨0, fun a M => dfr a.defers (cJ (a.get 7) (a.get 9) (a.get 10) (a.get 14) (a.get 63) (a.get 64) M Q), Aa Try.f7 [1, 1, 1, 1, 1, 1, 1, 1, 0, 1, 0] Q⟩,
  ⟨6, fun a M => dfr a.defers (fq (a.get 7) (a.get 9) (a.get 10) M Q), Aa Try.f7 [1, 1, 1, 1, 1, 1, 1, 1, 1] Q⟩]
  [] [0, 6]
  ⟨en fun f M h => h f rfl rfl rfl rfl rfl rfl,
  en fun f M h => h f rfl rfl rfl,
  trivial⟩
  h
def nB (x7 x9 x10 : Value) (M : Store) (Q : KP) : Prop :=
 OP (ld 2 true x9 M) fun t71 =>
 OP (ld 2 true x10 M) fun t72 =>
 R F.B #[t71, t72] M fun t73 M1 =>
 TDx [0, 0, 3, 7, 15, 15, 63, 15, 15, 511, 1023, 2047, 4095, 8191, 16383, 32767] [M.n, M.n, M.n] 2 M M1 ∧
 BR t73 (
 OP (ld 2 true x7 M1) fun t75 =>
 OP (ld 2 true x9 M1) fun t76 =>
 R F.v #[t75, t76] M1 fun t77 M2 =>
 TDj [4, 5] [M.n, M.n, M.n, M1.n, M1.n, M1.n, M1.n] M1 M2 ∧
 OP (ld 2 true x7 M2) fun t78 =>
 OP (ld 2 true x10 M2) fun t79 =>
 R F.Y #[t78, t79] M2 fun t80 M3 =>
 TDx [0, 0, 3, 7, 15, 15, 63, 15, 15, 511, 1023, 2047, 4095, 8191, 16383, 32767] [M.n, M.n, M.n, M1.n, M1.n, M1.n, M1.n, M2.n, M2.n, M2.n] 9 M2 M3 ∧
 R F.k #[t77, t80] M3 fun t81 M4 =>
 TDx [0, 0, 3, 7, 15, 15, 63, 15, 15, 511, 1023, 2047, 4095, 8191, 16383, 32767] [M.n, M.n, M.n, M1.n, M1.n, M1.n, M1.n, M2.n, M2.n, M2.n, M3.n] 10 M3 M4 ∧
 BR t81 (
 R F.t #[] M4 fun t84 M5 =>
 TDx [0, 0, 3, 7, 15, 15, 63, 15, 15, 511, 1023, 2047, 4095, 8191, 16383, 32767] [M.n, M.n, M.n, M1.n, M1.n, M1.n, M1.n, M2.n, M2.n, M2.n, M3.n, M4.n, M4.n, M4.n] 13 M4 M5 ∧
 NTs [t84] ∧ Q t84 M5
 ) (
 NTs [(.bool false)] ∧ Q (.bool false) M4
 )
 ) (
 NTs [(.bool false)] ∧ Q (.bool false) M1
 )
theorem xq (h : nB x7 x9 x10 M Q) : fq x7 x9 x10 M Q := by
 rintro f rfl rfl rfl
 exact ru (N := 86) (ct := .no)
  [kE Try.f7 Q 1]
  [] [1]
  ⟨er,
  trivial⟩
  h
end Go.G
