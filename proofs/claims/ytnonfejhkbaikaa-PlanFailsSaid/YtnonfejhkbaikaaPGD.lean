/-  -/
import Derived.Test.YtnonfejhkbaikaaPGN
open Go.RowKit
namespace Go.G
open Go.Ab Go.Proofs
set_option linter.unusedVariables false
set_option maxRecDepth 100000
variable {x0 x1 x2 x3 x4 x5 x6 x7 x8 x9 x10 x11 x12 x16 x17 x18 x22 x23 x24 x36 x37 x38 x43 x44 x45 x46 x47 x74 x75 : Value} {M : Store} {Q : KP}
def bE (x0 x1 x6 x22 x23 x24 : Value) (M : Store) (Q : KP) : Prop :=
 ∀ f : Nat → Value, f 0 = x0 → f 1 = x1 → f 6 = x6 → f 22 = x22 → f 23 = x23 → f 24 = x24 → An Try.f13 [1, 1, 1, 0, 1, 0] 94 f M Q
def du (x0 x1 x6 : Value) (M : Store) (Q : KP) : Prop :=
 ∀ f : Nat → Value, f 0 = x0 → f 1 = x1 → f 6 = x6 → An Try.f13 [1, 1, 1, 1] 94 f M Q
def bF (x0 x1 x6 x9 x36 x37 x38 : Value) (M : Store) (Q : KP) : Prop :=
 ∀ f : Nat → Value, f 0 = x0 → f 1 = x1 → f 6 = x6 → f 9 = x9 → f 36 = x36 → f 37 = x37 → f 38 = x38 → An Try.f13 [1, 1, 1, 1, 1, 0, 1, 0] 94 f M Q
def ba (x0 x1 x6 x9 x10 x36 x37 x38 x45 x46 x47 : Value) (M : Store) (Q : KP) : Prop :=
 ∀ f : Nat → Value, f 0 = x0 → f 1 = x1 → f 6 = x6 → f 9 = x9 → f 10 = x10 → f 36 = x36 → f 37 = x37 → f 38 = x38 → f 45 = x45 → f 46 = x46 → f 47 = x47 → An Try.f13 [1, 1, 1, 1, 1, 0, 1, 0, 0, 1, 1, 0, 0, 1, 1, 0] 94 f M Q
def dw (x0 x9 : Value) (M : Store) (Q : KP) : Prop :=
 ∀ f : Nat → Value, f 0 = x0 → f 9 = x9 → An Try.f13 [1, 1, 1, 1, 1, 1] 94 f M Q
def fm (x0 x1 x6 x9 x10 x36 x37 x38 x45 x46 x47 : Value) (M : Store) (Q : KP) : Prop :=
 ∀ f : Nat → Value, f 0 = x0 → f 1 = x1 → f 6 = x6 → f 9 = x9 → f 10 = x10 → f 36 = x36 → f 37 = x37 → f 38 = x38 → f 45 = x45 → f 46 = x46 → f 47 = x47 → An Try.f13 [1, 1, 1, 1, 1, 0, 1, 0, 0, 1, 1, 0, 0, 1, 1, 0, 0, 1, 1] 94 f M Q
def dy (x0 x1 x6 x9 x36 x37 x38 : Value) (M : Store) (Q : KP) : Prop :=
 ∀ f : Nat → Value, f 0 = x0 → f 1 = x1 → f 6 = x6 → f 9 = x9 → f 36 = x36 → f 37 = x37 → f 38 = x38 → An Try.f13 [1, 1, 1, 1, 1, 0, 1, 0, 0, 1, 1, 1] 94 f M Q
def bG (x0 x9 x16 x17 x74 x75 : Value) (M : Store) (Q : KP) : Prop :=
 ∀ f : Nat → Value, f 0 = x0 → f 9 = x9 → f 16 = x16 → f 17 = x17 → f 74 = x74 → f 75 = x75 → An Try.f13 [1, 1, 1, 1, 1, 1, 1, 1, 0, 1, 0] 94 f M Q
def fo (x0 x9 x16 x17 x74 x75 : Value) (M : Store) (Q : KP) : Prop :=
 ∀ f : Nat → Value, f 0 = x0 → f 9 = x9 → f 16 = x16 → f 17 = x17 → f 74 = x74 → f 75 = x75 → An Try.f13 [1, 1, 1, 1, 1, 1, 1, 1, 0, 1, 0, 0, 1, 1] 94 f M Q
def eU (x17 : Value) (M : Store) (Q : KP) : Prop :=
 ∀ f : Nat → Value, f 17 = x17 → An Try.f13 [1, 1, 1, 1, 1, 1, 1, 1, 1] 94 f M Q
def lF (x0 x1 : Value) (M : Store) (Q : KP) : Prop :=
 R F.f #[x0] M fun t20 M1 =>
 LT (.map (some M1.n)) (M1.push (some (.inr (.inl [])))) fun t21 M2 =>
 OP (lenV t20) fun t23 =>
 bE t20 x1 t21 t20 t23 (.int .i64 0) M2 Q
theorem ux (h : lF x0 x1 M Q) : R F.o #[x0, x1] M Q := by
 refine ro Try.func13 ?_
 exact ru (N := 94) (ct := (.two .no (.two .no (.two .no (.two (.two .no (.two (.here 1000) .no)) (.here 1001))))))
  [⟨1002, fun a M => dfr a.defers (bE (a.get 0) (a.get 1) (a.get 6) (a.get 22) (a.get 23) (a.get 24) M Q), Aa Try.f13 [1, 1, 1, 0, 1, 0] Q⟩,
  ⟨1003, fF, Aa Try.f13 [1, 1, 1, 1] Q⟩]
  [1000, 1001] []
  ⟨en fun f M h => h f rfl rfl rfl rfl rfl rfl,
  el,
  trivial⟩
  h
def fy (x0 x1 x6 x22 x23 x24 : Value) (M : Store) (Q : KP) : Prop :=
 OP (ad .lss x24 x23) fun t25 =>
 BR t25 (
 OP (ixA 1 x22 x24) fun t27 =>
 OP (ld 1 false t27 M) fun t28 =>
 OP (mup (.int .i64) x6 t28 x24 M) fun M1 =>
 OP (ad .add x24 (.int .i64 1)) fun t32 =>
 bE x0 x1 x6 x22 x23 t32 M1 Q
 ) (
 du x0 x1 x6 M Q
 )
theorem jJ (h : fy x0 x1 x6 x22 x23 x24 M Q) : bE x0 x1 x6 x22 x23 x24 M Q := by
 rintro f rfl rfl rfl rfl rfl rfl
 refine lp ?_
 exact ru (N := 94) (ct := .no)
  [⟨0, fun a M => dfr a.defers (bE (a.get 0) (a.get 1) (a.get 6) (a.get 22) (a.get 23) (a.get 24) M Q), Aa Try.f13 [1, 1, 1, 0, 1, 0] Q⟩,
  ⟨2, fun a M => dfr a.defers (du (a.get 0) (a.get 1) (a.get 6) M Q), Aa Try.f13 [1, 1, 1, 1] Q⟩]
  [] [0, 2]
  ⟨en fun f M h => h f rfl rfl rfl rfl rfl rfl,
  en fun f M h => h f rfl rfl rfl,
  trivial⟩
  h
def jA (x0 x1 x6 : Value) (M : Store) (Q : KP) : Prop :=
 OP (lenV x0) fun t34 =>
 OP2 (mkS (.slice none 0 0) 1 24 Ty.i t34 t34 M) fun t35 M1 =>
 OP (lenV x0) fun t37 =>
 bF x0 x1 x6 t35 x0 t37 (.int .i64 0) M1 Q
theorem rD (h : jA x0 x1 x6 M Q) : du x0 x1 x6 M Q := by
 rintro f rfl rfl rfl
 exact ru (N := 94) (ct := (.two .no (.two (.two .no (.two (.here 1000) .no)) (.here 1001))))
  [⟨1002, fun a M => dfr a.defers (bF (a.get 0) (a.get 1) (a.get 6) (a.get 9) (a.get 36) (a.get 37) (a.get 38) M Q), Aa Try.f13 [1, 1, 1, 1, 1, 0, 1, 0] Q⟩,
  ⟨1003, fF, Aa Try.f13 [1, 1, 1, 1, 1, 1] Q⟩]
  [1000, 1001] []
  ⟨en fun f M h => h f rfl rfl rfl rfl rfl rfl rfl,
  el,
  trivial⟩
  h
def fz (x0 x1 x6 x9 x36 x37 x38 : Value) (M : Store) (Q : KP) : Prop :=
 OP (ad .lss x38 x37) fun t39 =>
 BR t39 (
 OP (ixA 1 x36 x38) fun t41 =>
 OP (ld 1 false t41 M) fun t42 =>
 KC x1 [t42] M fun t45 M1 =>
 OP (lenV t45) fun t46 =>
 ba x0 x1 x6 x9 x38 x36 x37 x38 t45 t46 (.int .i64 0) M1 Q
 ) (
 dw x0 x9 M Q
 )
theorem jK (h : fz x0 x1 x6 x9 x36 x37 x38 M Q) : bF x0 x1 x6 x9 x36 x37 x38 M Q := by
 rintro f rfl rfl rfl rfl rfl rfl rfl
 refine lp ?_
 exact ru (N := 94) (ct := (.two .no (.two .no (.two (.two (.two .no (.two .no (.two (.here 1000) .no))) .no) (.here 1001)))))
  [⟨1002, fun a M => dfr a.defers (ba (a.get 0) (a.get 1) (a.get 6) (a.get 9) (a.get 10) (a.get 36) (a.get 37) (a.get 38) (a.get 45) (a.get 46) (a.get 47) M Q), Aa Try.f13 [1, 1, 1, 1, 1, 0, 1, 0, 0, 1, 1, 0, 0, 1, 1, 0] Q⟩,
  ⟨1003, fF, Aa Try.f13 [1, 1, 1, 1, 1, 0, 1, 0, 0, 1, 1, 1] Q⟩,
  ⟨4, fun a M => dfr a.defers (dw (a.get 0) (a.get 9) M Q), Aa Try.f13 [1, 1, 1, 1, 1, 1] Q⟩]
  [1000, 1001] [4]
  ⟨en fun f M h => h f rfl rfl rfl rfl rfl rfl rfl rfl rfl rfl rfl,
  el,
  en fun f M h => h f rfl rfl,
  trivial⟩
  h
def fA (x0 x1 x6 x9 x10 x36 x37 x38 x45 x46 x47 : Value) (M : Store) (Q : KP) : Prop :=
 OP (ad .lss x47 x46) fun t48 =>
 BR t48 (
 fm x0 x1 x6 x9 x10 x36 x37 x38 x45 x46 x47 M Q
 ) (
 dy x0 x1 x6 x9 x36 x37 x38 M Q
 )
theorem jL (h : fA x0 x1 x6 x9 x10 x36 x37 x38 x45 x46 x47 M Q) : ba x0 x1 x6 x9 x10 x36 x37 x38 x45 x46 x47 M Q := by
 rintro f rfl rfl rfl rfl rfl rfl rfl rfl rfl rfl rfl
 refine lp ?_
 exact ru (N := 94) (ct := (.two .no (.two .no (.here 1000))))
  [⟨1002, fun a M => dfr a.defers (fm (a.get 0) (a.get 1) (a.get 6) (a.get 9) (a.get 10) (a.get 36) (a.get 37) (a.get 38) (a.get 45) (a.get 46) (a.get 47) M Q), Aa Try.f13 [1, 1, 1, 1, 1, 0, 1, 0, 0, 1, 1, 0, 0, 1, 1, 0, 0, 1, 1] Q⟩,
  ⟨6, fun a M => dfr a.defers (dy (a.get 0) (a.get 1) (a.get 6) (a.get 9) (a.get 36) (a.get 37) (a.get 38) M Q), Aa Try.f13 [1, 1, 1, 1, 1, 0, 1, 0, 0, 1, 1, 1] Q⟩]
  [1000] [6]
  ⟨en fun f M h => h f rfl rfl rfl rfl rfl rfl rfl rfl rfl rfl rfl,
  en fun f M h => h f rfl rfl rfl rfl rfl rfl rfl,
  trivial⟩
  h
def jB (x0 x9 : Value) (M : Store) (Q : KP) : Prop :=
 OP (lenV x0) fun t71 =>
 OP2 (mkS (.bool false) 1 1 Ty.j t71 t71 M) fun t72 M1 =>
 OP (lenV x0) fun t74 =>
 bG x0 x9 t72 (.slice none 0 0) t74 (.int .i64 0) M1 Q
theorem rE (h : jB x0 x9 M Q) : dw x0 x9 M Q := by
 rintro f rfl rfl
 exact ru (N := 94) (ct := (.two .no (.two .no (.two (.two .no (.two (.here 1000) .no)) (.here 1001)))))
  [⟨1002, fun a M => dfr a.defers (bG (a.get 0) (a.get 9) (a.get 16) (a.get 17) (a.get 74) (a.get 75) M Q), Aa Try.f13 [1, 1, 1, 1, 1, 1, 1, 1, 0, 1, 0] Q⟩,
  ⟨1003, fF, Aa Try.f13 [1, 1, 1, 1, 1, 1, 1, 1, 1] Q⟩]
  [1000, 1001] []
  ⟨en fun f M h => h f rfl rfl rfl rfl rfl rfl,
  el,
  trivial⟩
  h
def jC (x0 x1 x6 x9 x10 x36 x37 x38 x45 x46 x47 : Value) (M : Store) (Q : KP) : Prop :=
 OP (ixA 1 x45 x47) fun t49 =>
 OP (ld 1 false t49 M) fun t50 =>
 OP (lku (.int .i64) (.int .i64 0) x6 t50 true M) fun t54 =>
 OP (tup t54 0) fun t55 =>
 OP (tup t54 1) fun t56 =>
 BR t56 (
 OP (ixA 1 x9 x10) fun t62 =>
 OP (ld 1 false t62 M) fun t63 =>
 OP (al (.int .i64 0) 1 1 [(0, t55)]) fun c =>
 LT (.slice (some ⟨M.n, 0, none⟩) 1 1) (M.push (some (.inl (c, Ty.b, true)))) fun t65 M1 =>
 OP2 (appV 1 Ty.b t63 t65 M1) fun t66 M2 =>
 OP (ixA 1 x9 x10) fun t67 =>
 OP (st 1 t67 t66 M2) fun M3 =>
 OP (ad .add x47 (.int .i64 1)) fun t68 =>
 ba x0 x1 x6 x9 x10 x36 x37 x38 x45 x46 t68 M3 Q
 ) (
 OP (ad .add x47 (.int .i64 1)) fun t68_1 =>
 ba x0 x1 x6 x9 x10 x36 x37 x38 x45 x46 t68_1 M Q
 )
theorem rF (h : jC x0 x1 x6 x9 x10 x36 x37 x38 x45 x46 x47 M Q) : fm x0 x1 x6 x9 x10 x36 x37 x38 x45 x46 x47 M Q := by
 rintro f rfl rfl rfl rfl rfl rfl rfl rfl rfl rfl rfl
 exact ru (N := 94) (ct := .no)
  [⟨0, fun a M => dfr a.defers (ba (a.get 0) (a.get 1) (a.get 6) (a.get 9) (a.get 10) (a.get 36) (a.get 37) (a.get 38) (a.get 45) (a.get 46) (a.get 47) M Q), Aa Try.f13 [1, 1, 1, 1, 1, 0, 1, 0, 0, 1, 1, 0, 0, 1, 1, 0] Q⟩]
  [] [0]
  ⟨en fun f M h => h f rfl rfl rfl rfl rfl rfl rfl rfl rfl rfl rfl,
  trivial⟩
  h
def jD (x0 x1 x6 x9 x36 x37 x38 : Value) (M : Store) (Q : KP) : Prop :=
 OP (ad .add x38 (.int .i64 1)) fun t69 =>
 bF x0 x1 x6 x9 x36 x37 t69 M Q
theorem rG (h : jD x0 x1 x6 x9 x36 x37 x38 M Q) : dy x0 x1 x6 x9 x36 x37 x38 M Q := by
 rintro f rfl rfl rfl rfl rfl rfl rfl
 exact ru (N := 94) (ct := .no)
  [⟨0, fun a M => dfr a.defers (bF (a.get 0) (a.get 1) (a.get 6) (a.get 9) (a.get 36) (a.get 37) (a.get 38) M Q), Aa Try.f13 [1, 1, 1, 1, 1, 0, 1, 0] Q⟩]
  [] [0]
  ⟨en fun f M h => h f rfl rfl rfl rfl rfl rfl rfl,
  trivial⟩
  h
def dB (x0 x9 x16 x17 x74 x75 : Value) (M : Store) (Q : KP) : Prop :=
 OP (ad .lss x75 x74) fun t76 =>
 BR t76 (
 fo x0 x9 x16 x17 x74 x75 M Q
 ) (
 eU x17 M Q
 )
theorem fC (h : dB x0 x9 x16 x17 x74 x75 M Q) : bG x0 x9 x16 x17 x74 x75 M Q := by
 rintro f rfl rfl rfl rfl rfl rfl
 refine lp ?_
 exact ru (N := 94) (ct := (.two .no (.two .no (.here 1000))))
  [⟨1002, fun a M => dfr a.defers (fo (a.get 0) (a.get 9) (a.get 16) (a.get 17) (a.get 74) (a.get 75) M Q), Aa Try.f13 [1, 1, 1, 1, 1, 1, 1, 1, 0, 1, 0, 0, 1, 1] Q⟩,
  ⟨8, fun a M => dfr a.defers (eU (a.get 17) M Q), Aa Try.f13 [1, 1, 1, 1, 1, 1, 1, 1, 1] Q⟩]
  [1000] [8]
  ⟨en fun f M h => h f rfl rfl rfl rfl rfl rfl,
  en fun f M h => h f rfl,
  trivial⟩
  h
def jE (x0 x9 x16 x17 x74 x75 : Value) (M : Store) (Q : KP) : Prop :=
 R F.K #[x9, x16] M fun t79 M1 =>
 OP (ad .lss t79 (.int .i64 0)) fun t81 =>
 BR t81 (
 NTs [(.slice none 0 0), (.bool false)] ∧ Q (.tuple #[(.slice none 0 0), (.bool false)]) M1
 ) (
 OP (ixA 1 x16 t79) fun t84 =>
 OP (st 1 t84 (.bool true) M1) fun M2 =>
 OP (ixA 1 x0 t79) fun t88 =>
 OP (ld 1 false t88 M2) fun t89 =>
 OP (al (.int .i64 0) 1 1 [(0, t89)]) fun c =>
 LT (.slice (some ⟨M2.n, 0, none⟩) 1 1) (M2.push (some (.inl (c, Ty.b, true)))) fun t90 M3 =>
 OP2 (appV 1 Ty.b x17 t90 M3) fun t91 M4 =>
 OP (ad .add x75 (.int .i64 1)) fun t92 =>
 bG x0 x9 x16 t91 x74 t92 M4 Q
 )
theorem rH (h : jE x0 x9 x16 x17 x74 x75 M Q) : fo x0 x9 x16 x17 x74 x75 M Q := by
 rintro f rfl rfl rfl rfl rfl rfl
 exact ru (N := 94) (ct := .no)
  [⟨0, fun a M => dfr a.defers (bG (a.get 0) (a.get 9) (a.get 16) (a.get 17) (a.get 74) (a.get 75) M Q), Aa Try.f13 [1, 1, 1, 1, 1, 1, 1, 1, 0, 1, 0] Q⟩,
  kE Try.f13 Q 1]
  [] [0, 1]
  ⟨en fun f M h => h f rfl rfl rfl rfl rfl rfl,
  er,
  trivial⟩
  h
def qw (x17 : Value) (M : Store) (Q : KP) : Prop :=
 NTs [x17, (.bool true)] ∧ Q (.tuple #[x17, (.bool true)]) M
theorem iT (h : qw x17 M Q) : eU x17 M Q := by
 rintro f rfl
 exact ru (N := 94) (ct := .no)
  [kE Try.f13 Q 1]
  [] [1]
  ⟨er,
  trivial⟩
  h
def lG (x0 x1 : Value) (M : Store) (Q : KP) : Prop :=
 OP (aX x0) fun c =>
 LT (.pointer (some ⟨M.n, 0, none⟩)) (M.push (some (.inl (c, Ty.i, true)))) fun t2 M1 =>
 OP (aX x1) fun c_1 =>
 LT (.pointer (some ⟨M1.n, 0, none⟩)) (M1.push (some (.inl (c_1, Ty.l, true)))) fun t3 M2 =>
 OP (ld 1 false t2 M2) fun t5 =>
 R F.B #[t5] M2 fun t6 M3 =>
 OP (st 1 t2 t6 M3) fun M4 =>
 OP (mkF (.func F.b) [] [t2, t3]) fun t7 =>
 NTs [t7] ∧ Q t7 M4
theorem uy (h : lG x0 x1 M Q) : R F.p #[x0, x1] M Q := by
 refine ro Try.func15 ?_
 exact ru (N := 8) (ct := .no)
  [kE Try.f15 Q 1]
  [] [1]
  ⟨er,
  trivial⟩
  h
def bW (x3 x7 x8 x9 : Value) (M : Store) (Q : KP) : Prop :=
 ∀ f : Nat → Value, f 3 = x3 → f 7 = x7 → f 8 = x8 → f 9 = x9 → An Try.f38 [1, 0, 1, 0] 27 f M Q
def jV (x3 x7 x8 x9 : Value) (M : Store) (Q : KP) : Prop :=
 ∀ f : Nat → Value, f 3 = x3 → f 7 = x7 → f 8 = x8 → f 9 = x9 → An Try.f38 [1, 0, 1, 0, 0, 1, 1] 27 f M Q
def jW (M : Store) (Q : KP) : Prop :=
 ∀ f : Nat → Value, An Try.f38 [1, 1] 27 f M Q
def tx (x0 x1 : Value) (M : Store) (Q : KP) : Prop :=
 OP (aX x1) fun c =>
 LT (.pointer (some ⟨M.n, 0, none⟩)) (M.push (some (.inl (c, Ty.r, true)))) fun t3 M1 =>
 OP (lenV x0) fun t8 =>
 bW t3 x0 t8 (.int .i64 0) M1 Q
theorem Bd (h : tx x0 x1 M Q) : R F.K #[x0, x1] M Q := by
 refine ro Try.func38 ?_
 exact ru (N := 27) (ct := (.two .no (.two (.two .no (.two (.here 1000) .no)) (.here 1001))))
  [⟨1002, fun a M => dfr a.defers (bW (a.get 3) (a.get 7) (a.get 8) (a.get 9) M Q), Aa Try.f38 [1, 0, 1, 0] Q⟩,
  ⟨1003, fF, Aa Try.f38 [1, 1] Q⟩]
  [1000, 1001] []
  ⟨en fun f M h => h f rfl rfl rfl rfl,
  el,
  trivial⟩
  h
def j5 (x3 x7 x8 x9 : Value) (M : Store) (Q : KP) : Prop :=
 OP (ad .lss x9 x8) fun t10 =>
 BR t10 (
 jV x3 x7 x8 x9 M Q
 ) (
 jW M Q
 )
theorem qn (h : j5 x3 x7 x8 x9 M Q) : bW x3 x7 x8 x9 M Q := by
 rintro f rfl rfl rfl rfl
 refine lp ?_
 exact ru (N := 27) (ct := (.two .no (.two .no (.here 1000))))
  [⟨1002, fun a M => dfr a.defers (jV (a.get 3) (a.get 7) (a.get 8) (a.get 9) M Q), Aa Try.f38 [1, 0, 1, 0, 0, 1, 1] Q⟩,
  ⟨2, fun a M => dfr a.defers (jW M Q), Aa Try.f38 [1, 1] Q⟩]
  [1000] [2]
  ⟨en fun f M h => h f rfl rfl rfl rfl,
  en fun f M h => h f,
  trivial⟩
  h
def p5 (x3 x7 x8 x9 : Value) (M : Store) (Q : KP) : Prop :=
 OP (ixA 1 x7 x9) fun t12 =>
 OP (ld 1 false t12 M) fun t13 =>
 OP (ld 1 false x3 M) fun t14 =>
 OP (ixA 1 t14 x9) fun t16 =>
 OP (ld 1 false t16 M) fun t17 =>
 OP (aun .not t17) fun t18 =>
 BR t18 (
 OP (mkF (.func F.d) [] [x3]) fun t21 =>
 R F.h #[t13, t21] M fun t22 M1 =>
 OP (aun .not t22) fun t23 =>
 BR t23 (
 NTs [x9] ∧ Q x9 M1
 ) (
 OP (ad .add x9 (.int .i64 1)) fun t26 =>
 bW x3 x7 x8 t26 M1 Q
 )
 ) (
 OP (ad .add x9 (.int .i64 1)) fun t26_1 =>
 bW x3 x7 x8 t26_1 M Q
 )
theorem yI (h : p5 x3 x7 x8 x9 M Q) : jV x3 x7 x8 x9 M Q := by
 rintro f rfl rfl rfl rfl
 exact ru (N := 27) (ct := .no)
  [⟨0, fun a M => dfr a.defers (bW (a.get 3) (a.get 7) (a.get 8) (a.get 9) M Q), Aa Try.f38 [1, 0, 1, 0] Q⟩,
  kE Try.f38 Q 1]
  [] [0, 1]
  ⟨en fun f M h => h f rfl rfl rfl rfl,
  er,
  trivial⟩
  h
def yG (M : Store) (Q : KP) : Prop :=
 NTs [(.int .i64 (-1))] ∧ Q (.int .i64 (-1)) M
theorem yJ (h : yG M Q) : jW M Q := by
 intro f 
 exact ru (N := 27) (ct := .no)
  [kE Try.f38 Q 1]
  [] [1]
  ⟨er,
  trivial⟩
  h
def aU (x3 x4 x10 x11 x12 : Value) (M : Store) (Q : KP) : Prop :=
 ∀ f : Nat → Value, f 3 = x3 → f 4 = x4 → f 10 = x10 → f 11 = x11 → f 12 = x12 → An Try.f39 [1, 1, 1, 0, 1, 0] 32 f M Q
def eV (x3 x4 x10 x11 x12 : Value) (M : Store) (Q : KP) : Prop :=
 ∀ f : Nat → Value, f 3 = x3 → f 4 = x4 → f 10 = x10 → f 11 = x11 → f 12 = x12 → An Try.f39 [1, 1, 1, 0, 1, 0, 0, 1, 1] 32 f M Q
def eW (x4 : Value) (M : Store) (Q : KP) : Prop :=
 ∀ f : Nat → Value, f 4 = x4 → An Try.f39 [1, 1, 1, 1] 32 f M Q
def kj (x0 : Value) (M : Store) (Q : KP) : Prop :=
 LT (.map (some M.n)) (M.push (some (.inr (.inl [])))) fun t9 M1 =>
 OP (lenV x0) fun t11 =>
 aU t9 (.slice none 0 0) x0 t11 (.int .i64 0) M1 Q
theorem tj (h : kj x0 M Q) : R F.f #[x0] M Q := by
 refine ro Try.func39 ?_
 exact ru (N := 32) (ct := (.two .no (.two .no (.two .no (.two (.two .no (.two (.here 1000) .no)) (.here 1001))))))
  [⟨1002, fun a M => dfr a.defers (aU (a.get 3) (a.get 4) (a.get 10) (a.get 11) (a.get 12) M Q), Aa Try.f39 [1, 1, 1, 0, 1, 0] Q⟩,
  ⟨1003, fF, Aa Try.f39 [1, 1, 1, 1] Q⟩]
  [1000, 1001] []
  ⟨en fun f M h => h f rfl rfl rfl rfl rfl,
  el,
  trivial⟩
  h
def eX (x3 x4 x10 x11 x12 : Value) (M : Store) (Q : KP) : Prop :=
 OP (ad .lss x12 x11) fun t13 =>
 BR t13 (
 eV x3 x4 x10 x11 x12 M Q
 ) (
 eW x4 M Q
 )
theorem iU (h : eX x3 x4 x10 x11 x12 M Q) : aU x3 x4 x10 x11 x12 M Q := by
 rintro f rfl rfl rfl rfl rfl
 refine lp ?_
 exact ru (N := 32) (ct := (.two .no (.two .no (.here 1000))))
  [⟨1002, fun a M => dfr a.defers (eV (a.get 3) (a.get 4) (a.get 10) (a.get 11) (a.get 12) M Q), Aa Try.f39 [1, 1, 1, 0, 1, 0, 0, 1, 1] Q⟩,
  ⟨2, fun a M => dfr a.defers (eW (a.get 4) M Q), Aa Try.f39 [1, 1, 1, 1] Q⟩]
  [1000] [2]
  ⟨en fun f M h => h f rfl rfl rfl rfl rfl,
  en fun f M h => h f rfl,
  trivial⟩
  h
def iS (x3 x4 x10 x11 x12 : Value) (M : Store) (Q : KP) : Prop :=
 OP (ixA 1 x10 x12) fun t14 =>
 OP (ld 1 false t14 M) fun t15 =>
 OP (lku (.int .i64) (.int .i64 0) x3 t15 true M) fun t19 =>
 OP (tup t19 0) fun t20 =>
 OP (tup t19 1) fun t21 =>
 OP (aun .not t21) fun t23 =>
 BR t23 (
 OP (mup (.int .i64) x3 t15 (.int .i64 1) M) fun M1 =>
 OP (al (.int .i64 0) 1 1 [(0, t15)]) fun c =>
 LT (.slice (some ⟨M1.n, 0, none⟩) 1 1) (M1.push (some (.inl (c, Ty.b, true)))) fun t28 M2 =>
 OP2 (appV 1 Ty.b x4 t28 M2) fun t29 M3 =>
 OP (ad .add x12 (.int .i64 1)) fun t30 =>
 aU x3 t29 x10 x11 t30 M3 Q
 ) (
 OP (ad .add x12 (.int .i64 1)) fun t30_1 =>
 aU x3 x4 x10 x11 t30_1 M Q
 )
theorem qz (h : iS x3 x4 x10 x11 x12 M Q) : eV x3 x4 x10 x11 x12 M Q := by
 rintro f rfl rfl rfl rfl rfl
 exact ru (N := 32) (ct := .no)
  [⟨0, fun a M => dfr a.defers (aU (a.get 3) (a.get 4) (a.get 10) (a.get 11) (a.get 12) M Q), Aa Try.f39 [1, 1, 1, 0, 1, 0] Q⟩]
  [] [0]
  ⟨en fun f M h => h f rfl rfl rfl rfl rfl,
  trivial⟩
  h
def qx (x4 : Value) (M : Store) (Q : KP) : Prop :=
 NTs [x4] ∧ Q x4 M
theorem qB (h : qx x4 M Q) : eW x4 M Q := by
 rintro f rfl
 exact ru (N := 32) (ct := .no)
  [kE Try.f39 Q 1]
  [] [1]
  ⟨er,
  trivial⟩
  h
def xU (x0 : Value) (M : Store) (Q : KP) : Prop :=
 OP (gJ Try.prog true .eql Ty.i x0 (.slice none 0 0)) fun t4 =>
 BR t4 (
 NTs [(.slice none 0 0)] ∧ Q (.slice none 0 0) M
 ) (
 OP (al (.int .i64 0) 1 0 []) fun c =>
 LT (.slice (some ⟨M.n, 0, none⟩) 0 0) (M.push (some (.inl (c, Ty.b, true)))) fun t5 M1 =>
 OP2 (appV 1 Ty.b t5 x0 M1) fun t7 M2 =>
 NTs [t7] ∧ Q t7 M2
 )
theorem EE (h : xU x0 M Q) : R F.B #[x0] M Q := by
 refine ro Try.func40 ?_
 exact ru (N := 8) (ct := .no)
  [kE Try.f40 Q 1]
  [] [1]
  ⟨er,
  trivial⟩
  h
def a8 (x0 x2 x4 x5 x16 x17 x18 : Value) (M : Store) (Q : KP) : Prop :=
 ∀ f : Nat → Value, f 0 = x0 → f 2 = x2 → f 4 = x4 → f 5 = x5 → f 16 = x16 → f 17 = x17 → f 18 = x18 → An Try.f41 [1, 1, 0, 1, 0] 64 f M Q
def cF (x0 x2 x4 x5 : Value) (M : Store) (Q : KP) : Prop :=
 ∀ f : Nat → Value, f 0 = x0 → f 2 = x2 → f 4 = x4 → f 5 = x5 → An Try.f41 [1, 1, 1] 64 f M Q
def a9 (x0 x2 x4 x5 x8 : Value) (M : Store) (Q : KP) : Prop :=
 ∀ f : Nat → Value, f 0 = x0 → f 2 = x2 → f 4 = x4 → f 5 = x5 → f 8 = x8 → An Try.f41 [1, 1, 1, 1, 0] 64 f M Q
def dQ (x0 x2 x4 x5 x8 : Value) (M : Store) (Q : KP) : Prop :=
 ∀ f : Nat → Value, f 0 = x0 → f 2 = x2 → f 4 = x4 → f 5 = x5 → f 8 = x8 → An Try.f41 [1, 1, 1, 1, 0, 0, 1] 64 f M Q
def aO (x0 x2 x4 x5 x8 x43 x44 x45 : Value) (M : Store) (Q : KP) : Prop :=
 ∀ f : Nat → Value, f 0 = x0 → f 2 = x2 → f 4 = x4 → f 5 = x5 → f 8 = x8 → f 43 = x43 → f 44 = x44 → f 45 = x45 → An Try.f41 [1, 1, 1, 1, 0, 0, 1, 0, 0, 1, 1, 0] 64 f M Q
def dR (x0 x2 x4 x5 x8 x43 x44 x45 : Value) (M : Store) (Q : KP) : Prop :=
 ∀ f : Nat → Value, f 0 = x0 → f 2 = x2 → f 4 = x4 → f 5 = x5 → f 8 = x8 → f 43 = x43 → f 44 = x44 → f 45 = x45 → An Try.f41 [1, 1, 1, 1, 0, 0, 1, 0, 0, 1, 1, 0, 0, 1, 1] 64 f M Q
def cG (x0 x2 x4 x5 x8 : Value) (M : Store) (Q : KP) : Prop :=
 ∀ f : Nat → Value, f 0 = x0 → f 2 = x2 → f 4 = x4 → f 5 = x5 → f 8 = x8 → An Try.f41 [1, 1, 1, 1, 0, 0, 1, 1] 64 f M Q
def iR (x0 x1 x2 : Value) (M : Store) (Q : KP) : Prop :=
 OP (ld 1 false x1 M) fun t13 =>
 R F.f #[t13] M fun t14 M1 =>
 LT (.map (some M1.n)) (M1.push (some (.inr (.inl [])))) fun t15 M2 =>
 OP (lenV t14) fun t17 =>
 a8 x0 x2 t14 t15 t14 t17 (.int .i64 0) M2 Q
theorem qy (h : iR x0 x1 x2 M Q) : R F.b #[x0, x1, x2] M Q := by
 refine ro Try.func41 ?_
 exact ru (N := 64) (ct := (.two .no (.two .no (.two (.two .no (.two (.here 1000) .no)) (.here 1001)))))
  [⟨1002, fun a M => dfr a.defers (a8 (a.get 0) (a.get 2) (a.get 4) (a.get 5) (a.get 16) (a.get 17) (a.get 18) M Q), Aa Try.f41 [1, 1, 0, 1, 0] Q⟩,
  ⟨1003, fF, Aa Try.f41 [1, 1, 1] Q⟩]
  [1000, 1001] []
  ⟨en fun f M h => h f rfl rfl rfl rfl rfl rfl rfl,
  el,
  trivial⟩
  h
def ea (x0 x2 x4 x5 x16 x17 x18 : Value) (M : Store) (Q : KP) : Prop :=
 OP (ad .lss x18 x17) fun t19 =>
 BR t19 (
 OP (ixA 1 x16 x18) fun t20 =>
 OP (ld 1 false t20 M) fun t21 =>
 OP (mup (.int .i64) x5 t21 (.int .i64 1) M) fun M1 =>
 OP (ad .add x18 (.int .i64 1)) fun t24 =>
 a8 x0 x2 x4 x5 x16 x17 t24 M1 Q
 ) (
 cF x0 x2 x4 x5 M Q
 )
theorem gQ (h : ea x0 x2 x4 x5 x16 x17 x18 M Q) : a8 x0 x2 x4 x5 x16 x17 x18 M Q := by
 rintro f rfl rfl rfl rfl rfl rfl rfl
 refine lp ?_
 exact ru (N := 64) (ct := .no)
  [⟨0, fun a M => dfr a.defers (a8 (a.get 0) (a.get 2) (a.get 4) (a.get 5) (a.get 16) (a.get 17) (a.get 18) M Q), Aa Try.f41 [1, 1, 0, 1, 0] Q⟩,
  ⟨2, fun a M => dfr a.defers (cF (a.get 0) (a.get 2) (a.get 4) (a.get 5) M Q), Aa Try.f41 [1, 1, 1] Q⟩]
  [] [0, 2]
  ⟨en fun f M h => h f rfl rfl rfl rfl rfl rfl rfl,
  en fun f M h => h f rfl rfl rfl rfl,
  trivial⟩
  h
def oe (x0 x2 x4 x5 : Value) (M : Store) (Q : KP) : Prop :=
 a9 x0 x2 x4 x5 (.int .i64 0) M Q
theorem ot (h : oe x0 x2 x4 x5 M Q) : cF x0 x2 x4 x5 M Q := by
 rintro f rfl rfl rfl rfl
 exact ru (N := 64) (ct := (.two .no (.two (.here 1000) .no)))
  [⟨1002, fun a M => dfr a.defers (a9 (a.get 0) (a.get 2) (a.get 4) (a.get 5) (a.get 8) M Q), Aa Try.f41 [1, 1, 1, 1, 0] Q⟩]
  [1000] []
  ⟨en fun f M h => h f rfl rfl rfl rfl rfl,
  trivial⟩
  h
def cM (x0 x2 x4 x5 x8 : Value) (M : Store) (Q : KP) : Prop :=
 OP (lenV x4) fun t27 =>
 OP (ad .lss x8 t27) fun t28 =>
 BR t28 (
 dQ x0 x2 x4 x5 x8 M Q
 ) (
 NTs [] ∧ Q (.tuple #[]) M
 )
theorem eg (h : cM x0 x2 x4 x5 x8 M Q) : a9 x0 x2 x4 x5 x8 M Q := by
 rintro f rfl rfl rfl rfl rfl
 refine lp ?_
 exact ru (N := 64) (ct := (.two .no (.here 1000)))
  [⟨1002, fun a M => dfr a.defers (dQ (a.get 0) (a.get 2) (a.get 4) (a.get 5) (a.get 8) M Q), Aa Try.f41 [1, 1, 1, 1, 0, 0, 1] Q⟩,
  ⟨4, fun a M => nS Try.prog Try.f41.results.toList Q 0 a M, fun a M => nS Try.prog Try.f41.results.toList Q 0 a M⟩]
  [1000] [4]
  ⟨en fun f M h => h f rfl rfl rfl rfl rfl,
  er,
  trivial⟩
  h
def gN (x0 x2 x4 x5 x8 : Value) (M : Store) (Q : KP) : Prop :=
 OP (ixA 1 x4 x8) fun t34 =>
 OP (ld 1 false t34 M) fun t35 =>
 KC x0 [t35] M fun t36 M1 =>
 OP (aun .not t36) fun t37 =>
 BR t37 (
 NTs [] ∧ Q (.tuple #[]) M1
 ) (
 OP (ld 1 false x2 M1) fun t38 =>
 OP (ixA 1 x4 x8) fun t41 =>
 OP (ld 1 false t41 M1) fun t42 =>
 KC t38 [t42] M1 fun t43 M2 =>
 TDx [0, 0, 0, 6, 14, 31, 63, 0] [M1.n, M1.n, M1.n, M1.n, M1.n, M1.n] 5 M1 M2 ∧
 OP (lenV t43) fun t44 =>
 aO x0 x2 x4 x5 x8 t43 t44 (.int .i64 0) M2 Q
 )
theorem ou (h : gN x0 x2 x4 x5 x8 M Q) : dQ x0 x2 x4 x5 x8 M Q := by
 rintro f rfl rfl rfl rfl rfl
 exact ru (N := 64) (ct := (.two (.two (.two .no (.two .no (.two (.here 1000) .no))) .no) (.here 1001)))
  [⟨1002, fun a M => dfr a.defers (aO (a.get 0) (a.get 2) (a.get 4) (a.get 5) (a.get 8) (a.get 43) (a.get 44) (a.get 45) M Q), Aa Try.f41 [1, 1, 1, 1, 0, 0, 1, 0, 0, 1, 1, 0] Q⟩,
  ⟨1003, fF, Aa Try.f41 [1, 1, 1, 1, 0, 0, 1, 1] Q⟩,
  kE Try.f41 Q 1]
  [1000, 1001] [1]
  ⟨en fun f M h => h f rfl rfl rfl rfl rfl rfl rfl rfl,
  el,
  er,
  trivial⟩
  h
def ee (x0 x2 x4 x5 x8 x43 x44 x45 : Value) (M : Store) (Q : KP) : Prop :=
 OP (ad .lss x45 x44) fun t46 =>
 BR t46 (
 dR x0 x2 x4 x5 x8 x43 x44 x45 M Q
 ) (
 cG x0 x2 x4 x5 x8 M Q
 )
theorem gR (h : ee x0 x2 x4 x5 x8 x43 x44 x45 M Q) : aO x0 x2 x4 x5 x8 x43 x44 x45 M Q := by
 rintro f rfl rfl rfl rfl rfl rfl rfl rfl
 refine lp ?_
 exact ru (N := 64) (ct := (.two .no (.two .no (.here 1000))))
  [⟨1002, fun a M => dfr a.defers (dR (a.get 0) (a.get 2) (a.get 4) (a.get 5) (a.get 8) (a.get 43) (a.get 44) (a.get 45) M Q), Aa Try.f41 [1, 1, 1, 1, 0, 0, 1, 0, 0, 1, 1, 0, 0, 1, 1] Q⟩,
  ⟨6, fun a M => dfr a.defers (cG (a.get 0) (a.get 2) (a.get 4) (a.get 5) (a.get 8) M Q), Aa Try.f41 [1, 1, 1, 1, 0, 0, 1, 1] Q⟩]
  [1000] [6]
  ⟨en fun f M h => h f rfl rfl rfl rfl rfl rfl rfl rfl,
  en fun f M h => h f rfl rfl rfl rfl rfl,
  trivial⟩
  h
def gO (x0 x2 x4 x5 x8 x43 x44 x45 : Value) (M : Store) (Q : KP) : Prop :=
 OP (ixA 1 x43 x45) fun t47 =>
 OP (ld 1 false t47 M) fun t48 =>
 OP (lku (.int .i64) (.int .i64 0) x5 t48 true M) fun t52 =>
 OP (tup t52 0) fun t53 =>
 OP (tup t52 1) fun t54 =>
 OP (aun .not t54) fun t56 =>
 BR t56 (
 OP (mup (.int .i64) x5 t48 (.int .i64 1) M) fun M1 =>
 OP (al (.int .i64 0) 1 1 [(0, t48)]) fun c =>
 LT (.slice (some ⟨M1.n, 0, none⟩) 1 1) (M1.push (some (.inl (c, Ty.b, true)))) fun t61 M2 =>
 OP2 (appV 1 Ty.b x4 t61 M2) fun t62 M3 =>
 OP (ad .add x45 (.int .i64 1)) fun t63 =>
 aO x0 x2 t62 x5 x8 x43 x44 t63 M3 Q
 ) (
 OP (ad .add x45 (.int .i64 1)) fun t63_1 =>
 aO x0 x2 x4 x5 x8 x43 x44 t63_1 M Q
 )
theorem ov (h : gO x0 x2 x4 x5 x8 x43 x44 x45 M Q) : dR x0 x2 x4 x5 x8 x43 x44 x45 M Q := by
 rintro f rfl rfl rfl rfl rfl rfl rfl rfl
 exact ru (N := 64) (ct := .no)
  [⟨0, fun a M => dfr a.defers (aO (a.get 0) (a.get 2) (a.get 4) (a.get 5) (a.get 8) (a.get 43) (a.get 44) (a.get 45) M Q), Aa Try.f41 [1, 1, 1, 1, 0, 0, 1, 0, 0, 1, 1, 0] Q⟩]
  [] [0]
  ⟨en fun f M h => h f rfl rfl rfl rfl rfl rfl rfl rfl,
  trivial⟩
  h
def gP (x0 x2 x4 x5 x8 : Value) (M : Store) (Q : KP) : Prop :=
 OP (ad .add x8 (.int .i64 1)) fun t30 =>
 a9 x0 x2 x4 x5 t30 M Q
theorem ow (h : gP x0 x2 x4 x5 x8 M Q) : cG x0 x2 x4 x5 x8 M Q := by
 rintro f rfl rfl rfl rfl rfl
 exact ru (N := 64) (ct := .no)
  [⟨0, fun a M => dfr a.defers (a9 (a.get 0) (a.get 2) (a.get 4) (a.get 5) (a.get 8) M Q), Aa Try.f41 [1, 1, 1, 1, 0] Q⟩]
  [] [0]
  ⟨en fun f M h => h f rfl rfl rfl rfl rfl,
  trivial⟩
  h
def l8 (x0 x1 : Value) (M : Store) (Q : KP) : Prop :=
 R F.y #[x0, x1] M fun t7 M1 =>
 OP (ad .geq t7 (.int .i64 0)) fun t8 =>
 NTs [t8] ∧ Q t8 M1
theorem uz (h : l8 x0 x1 M Q) : R F.h #[x0, x1] M Q := by
 refine ro Try.func57 ?_
 exact ru (N := 9) (ct := .no)
  [kE Try.f57 Q 1]
  [] [1]
  ⟨er,
  trivial⟩
  h
def oj (x0 x1 : Value) (M : Store) (Q : KP) : Prop :=
 OP (ld 1 false x1 M) fun t4 =>
 OP (ixA 1 t4 x0) fun t6 =>
 OP (ld 1 false t6 M) fun t7 =>
 OP (aun .not t7) fun t8 =>
 NTs [t8] ∧ Q t8 M
theorem xf (h : oj x0 x1 M Q) : R F.d #[x0, x1] M Q := by
 refine ro Try.func61 ?_
 exact ru (N := 9) (ct := .no)
  [kE Try.f61 Q 1]
  [] [1]
  ⟨er,
  trivial⟩
  h
def cK (x0 x1 x7 x8 : Value) (M : Store) (Q : KP) : Prop :=
 ∀ f : Nat → Value, f 0 = x0 → f 1 = x1 → f 7 = x7 → f 8 = x8 → An Try.f76 [1, 0, 1, 0] 19 f M Q
def ij (M : Store) (Q : KP) : Prop :=
 ∀ f : Nat → Value, An Try.f76 [1, 1] 19 f M Q
def qk (x0 x1 : Value) (M : Store) (Q : KP) : Prop :=
 OP (lenV x0) fun t7 =>
 cK x0 x1 t7 (.int .i64 0) M Q
theorem yW (h : qk x0 x1 M Q) : R F.y #[x0, x1] M Q := by
 refine ro Try.func76 ?_
 exact ru (N := 19) (ct := (.two .no (.two (.two .no (.two (.here 1000) .no)) (.here 1001))))
  [⟨1002, fun a M => dfr a.defers (cK (a.get 0) (a.get 1) (a.get 7) (a.get 8) M Q), Aa Try.f76 [1, 0, 1, 0] Q⟩,
  ⟨1003, fF, Aa Try.f76 [1, 1] Q⟩]
  [1000, 1001] []
  ⟨en fun f M h => h f rfl rfl rfl rfl,
  el,
  trivial⟩
  h
def ix (x0 x1 x7 x8 : Value) (M : Store) (Q : KP) : Prop :=
 OP (ad .lss x8 x7) fun t9 =>
 BR t9 (
 OP (ixA 1 x0 x8) fun t14 =>
 OP (ld 1 false t14 M) fun t15 =>
 KC x1 [t15] M fun t16 M1 =>
 BR t16 (
 NTs [x8] ∧ Q x8 M1
 ) (
 OP (ad .add x8 (.int .i64 1)) fun t18 =>
 cK x0 x1 x7 t18 M1 Q
 )
 ) (
 ij M Q
 )
theorem mY (h : ix x0 x1 x7 x8 M Q) : cK x0 x1 x7 x8 M Q := by
 rintro f rfl rfl rfl rfl
 refine lp ?_
 exact ru (N := 19) (ct := .no)
  [⟨0, fun a M => dfr a.defers (cK (a.get 0) (a.get 1) (a.get 7) (a.get 8) M Q), Aa Try.f76 [1, 0, 1, 0] Q⟩,
  kE Try.f76 Q 1,
  ⟨2, fun a M => dfr a.defers (ij M Q), Aa Try.f76 [1, 1] Q⟩]
  [] [0, 1, 2]
  ⟨en fun f M h => h f rfl rfl rfl rfl,
  er,
  en fun f M h => h f,
  trivial⟩
  h
def vJ (M : Store) (Q : KP) : Prop :=
 NTs [(.int .i64 (-1))] ∧ Q (.int .i64 (-1)) M
theorem we (h : vJ M Q) : ij M Q := by
 intro f 
 exact ru (N := 19) (ct := .no)
  [kE Try.f76 Q 1]
  [] [1]
  ⟨er,
  trivial⟩
  h
end Go.G
