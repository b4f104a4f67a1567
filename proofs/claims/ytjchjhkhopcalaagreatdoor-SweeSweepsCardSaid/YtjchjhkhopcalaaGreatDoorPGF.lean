/-  -/
import Derived.Test.YtjchjhkhopcalaaGreatDoorPGN
open Go.RowKit
namespace Go.G
open Go.Ab Go.Proofs
set_option linter.unusedVariables false
set_option maxRecDepth 100000
variable {x0 x1 x2 x3 x5 x6 x7 : Value} {M : Store} {Q : KP}
def mq (x0 x1 x2 : Value) (M : Store) (Q : KP) : Prop :=
 OP (dD x0 (.int .i64 0)) fun t8 =>
 OP (dE t8 (.int .i64 999)) fun t9 =>
 R F.F #[t9] M fun t10 M1 =>
 OP (al .add (.string ⟨#[116, 109, 112, 47]⟩) t10) fun t11 =>
 OP (al .add t11 (.string ⟨#[46]⟩)) fun t12 =>
 OP (dD x1 (.int .i64 0)) fun t14 =>
 OP (dE t14 (.int .i64 99999)) fun t15 =>
 R F.F #[t15] M1 fun t16 M2 =>
 OP (al .add t12 t16) fun t17 =>
 OP (al .add t17 (.string ⟨#[46]⟩)) fun t18 =>
 OP (dD x2 (.int .i64 0)) fun t20 =>
 OP (dE t20 (.int .i64 99999)) fun t21 =>
 R F.F #[t21] M2 fun t22 M3 =>
 OP (al .add t18 t22) fun t23 =>
 NTs [t23] ∧ Q t23 M3
theorem qB (h : mq x0 x1 x2 M Q) : R F.c1 #[x0, x1, x2] M Q := by
 refine ro Tryz.func13 ?_
 exact ru (N := 24) (ct := .no)
  [kE Tryz.f13 Q 1]
  [] [1]
  ⟨er,
  trivial⟩
  h
def c9 (x0 x5 x6 : Value) (M : Store) (Q : KP) : Prop :=
 ∀ f : Nat → Value, f 0 = x0 → f 5 = x5 → f 6 = x6 → An Tryz.f18 [1, 1, 1, 0, 1, 0] 88 f M Q
def i4 (x0 x5 x6 : Value) (M : Store) (Q : KP) : Prop :=
 ∀ f : Nat → Value, f 0 = x0 → f 5 = x5 → f 6 = x6 → An Tryz.f18 [1, 1, 1, 0, 1, 0, 0, 1] 88 f M Q
def eO (x5 : Value) (M : Store) (Q : KP) : Prop :=
 ∀ f : Nat → Value, f 5 = x5 → An Tryz.f18 [1, 1, 1, 1] 88 f M Q
def oX (x0 : Value) (M : Store) (Q : KP) : Prop :=
 OP (bG x0) fun t14 =>
 OP (ab .lss t14 (.int .i64 4)) fun t15 =>
 BR t15 (
 NTs [(.int .i64 0), (.int .i64 0), (.bool false)] ∧ Q (.tuple #[(.int .i64 0), (.int .i64 0), (.bool false)]) M
 ) (
 OP (slS x0 none (some (.int .i64 4))) fun t18 =>
 OP (al .neq t18 (.string ⟨#[116, 109, 112, 47]⟩)) fun t19 =>
 BR t19 (
 NTs [(.int .i64 0), (.int .i64 0), (.bool false)] ∧ Q (.tuple #[(.int .i64 0), (.int .i64 0), (.bool false)]) M
 ) (
 OP (bd (.string ⟨#[]⟩) 1 1 [(0, (.string ⟨#[]⟩))]) fun c =>
 LT (.slice (some ⟨M.n, 0, none⟩) 1 1) (M.push (some (.inl (c, Ty.a, true)))) fun t21 M1 =>
 c9 x0 t21 (.int .i64 4) M1 Q
 )
 )
theorem sT (h : oX x0 M Q) : R F.d1 #[x0] M Q := by
 refine ro Tryz.func18 ?_
 exact ru (N := 88) (ct := (.two .no (.two .no (.two .no (.two (.two .no (.two (.here 1000) .no)) (.here 1001))))))
  [⟨1002, fun a M => dfr a.defers (c9 (a.get 0) (a.get 5) (a.get 6) M Q), Aa Tryz.f18 [1, 1, 1, 0, 1, 0] Q⟩,
  ⟨1003, fF, Aa Tryz.f18 [1, 1, 1, 1] Q⟩,
  kE Tryz.f18 Q 1]
  [1000, 1001] [1]
  ⟨en fun f M h => h f rfl rfl rfl,
  el,
  er,
  trivial⟩
  h
def i5 (x0 x5 x6 : Value) (M : Store) (Q : KP) : Prop :=
 OP (bG x0) fun t24 =>
 OP (ab .lss x6 t24) fun t25 =>
 BR t25 (
 i4 x0 x5 x6 M Q
 ) (
 eO x5 M Q
 )
theorem mt (h : i5 x0 x5 x6 M Q) : c9 x0 x5 x6 M Q := by
 rintro f rfl rfl rfl
 refine lp ?_
 exact ru (N := 88) (ct := (.two .no (.here 1000)))
  [⟨1002, fun a M => dfr a.defers (i4 (a.get 0) (a.get 5) (a.get 6) M Q), Aa Tryz.f18 [1, 1, 1, 0, 1, 0, 0, 1] Q⟩,
  ⟨2, fun a M => dfr a.defers (eO (a.get 5) M Q), Aa Tryz.f18 [1, 1, 1, 1] Q⟩]
  [1000] [2]
  ⟨en fun f M h => h f rfl rfl rfl,
  en fun f M h => h f rfl,
  trivial⟩
  h
def mn (x0 x5 x6 : Value) (M : Store) (Q : KP) : Prop :=
 OP (ixS x0 x6) fun t30 =>
 OP (ab .eql t30 (.int .u8 46)) fun t31 =>
 BR t31 (
 OP (bd (.string ⟨#[]⟩) 1 1 [(0, (.string ⟨#[]⟩))]) fun c =>
 LT (.slice (some ⟨M.n, 0, none⟩) 1 1) (M.push (some (.inl (c, Ty.a, true)))) fun t33 M1 =>
 OP2 (appV 1 Ty.a x5 t33 M1) fun t34 M2 =>
 OP (ab .add x6 (.int .i64 1)) fun t27 =>
 c9 x0 t34 t27 M2 Q
 ) (
 OP (lenV x5) fun t37 =>
 OP (ab .sub t37 (.int .i64 1)) fun t38 =>
 OP (lenV x5) fun t41 =>
 OP (ab .sub t41 (.int .i64 1)) fun t42 =>
 OP (ixA 1 x5 t42) fun t43 =>
 OP (ld 1 false t43 M) fun t44 =>
 OP (ab .add x6 (.int .i64 1)) fun t48 =>
 OP (slS x0 (some x6) (some t48)) fun t49 =>
 OP (al .add t44 t49) fun t50 =>
 OP (ixA 1 x5 t38) fun t51 =>
 OP (st 1 t51 t50 M) fun M3 =>
 TDx [0, 0, 2, 6, 0, 0, 32, 96, 240, 496, 0, 0, 0, 4096, 15360, 32752, 65535, 131071] [M.n, M.n, M.n, M.n, M.n, M.n, M.n, M.n, M.n, M.n, M.n, M.n, M.n, M.n, M.n, M.n, M.n, M.n] 17 M M3 ∧
 OP (ab .add x6 (.int .i64 1)) fun t27_1 =>
 c9 x0 x5 t27_1 M3 Q
 )
theorem qz (h : mn x0 x5 x6 M Q) : i4 x0 x5 x6 M Q := by
 rintro f rfl rfl rfl
 exact ru (N := 88) (ct := .no)
  [⟨0, fun a M => dfr a.defers (c9 (a.get 0) (a.get 5) (a.get 6) M Q), Aa Tryz.f18 [1, 1, 1, 0, 1, 0] Q⟩]
  [] [0]
  ⟨en fun f M h => h f rfl rfl rfl,
  trivial⟩
  h
def mo (x5 : Value) (M : Store) (Q : KP) : Prop :=
 OP (lenV x5) fun t53 =>
 OP (ab .neq t53 (.int .i64 3)) fun t54 =>
 BR t54 (
 NTs [(.int .i64 0), (.int .i64 0), (.bool false)] ∧ Q (.tuple #[(.int .i64 0), (.int .i64 0), (.bool false)]) M
 ) (
 OP (ixA 1 x5 (.int .i64 0)) fun t57 =>
 OP (ld 1 false t57 M) fun t58 =>
 R F.G #[t58, (.int .i64 3)] M fun t59 M1 =>
 OP (tup t59 0) fun t60 =>
 OP (tup t59 1) fun t61 =>
 OP (ixA 1 x5 (.int .i64 1)) fun t64 =>
 OP (ld 1 false t64 M1) fun t65 =>
 R F.G #[t65, (.int .i64 5)] M1 fun t66 M2 =>
 OP (tup t66 0) fun t67 =>
 OP (tup t66 1) fun t68 =>
 OP (ixA 1 x5 (.int .i64 2)) fun t71 =>
 OP (ld 1 false t71 M2) fun t72 =>
 R F.G #[t72, (.int .i64 5)] M2 fun t73 M3 =>
 OP (tup t73 0) fun t74 =>
 OP (tup t73 1) fun t75 =>
 OP (aun .not t61) fun t77 =>
 BR t77 (
 NTs [(.int .i64 0), (.int .i64 0), (.bool false)] ∧ Q (.tuple #[(.int .i64 0), (.int .i64 0), (.bool false)]) M3
 ) (
 OP (aun .not t68) fun t80 =>
 BR t80 (
 NTs [(.int .i64 0), (.int .i64 0), (.bool false)] ∧ Q (.tuple #[(.int .i64 0), (.int .i64 0), (.bool false)]) M3
 ) (
 OP (aun .not t75) fun t84 =>
 BR t84 (
 NTs [(.int .i64 0), (.int .i64 0), (.bool false)] ∧ Q (.tuple #[(.int .i64 0), (.int .i64 0), (.bool false)]) M3
 ) (
 NTs [t60, t67, (.bool true)] ∧ Q (.tuple #[t60, t67, (.bool true)]) M3
 )
 )
 )
 )
theorem qA (h : mo x5 M Q) : eO x5 M Q := by
 rintro f rfl
 exact ru (N := 88) (ct := .no)
  [kE Tryz.f18 Q 1]
  [] [1]
  ⟨er,
  trivial⟩
  h
def dn (x0 x3 : Value) (M : Store) (Q : KP) : Prop :=
 ∀ f : Nat → Value, f 0 = x0 → f 3 = x3 → An Tryz.f24 [1, 1, 0, 0] 21 f M Q
def d4 (x0 x3 : Value) (M : Store) (Q : KP) : Prop :=
 ∀ f : Nat → Value, f 0 = x0 → f 3 = x3 → An Tryz.f24 [1, 1, 0, 0, 0, 1] 21 f M Q
def ig (x3 : Value) (M : Store) (Q : KP) : Prop :=
 ∀ f : Nat → Value, f 3 = x3 → An Tryz.f24 [1, 1, 1] 21 f M Q
def nl (x0 : Value) (M : Store) (Q : KP) : Prop :=
 dn x0 (.string ⟨#[]⟩) M Q
theorem ri (h : nl x0 M Q) : R F.F #[x0] M Q := by
 refine ro Tryz.func24 ?_
 exact ru (N := 21) (ct := (.two .no (.two .no (.two (.two (.here 1000) .no) (.here 1001)))))
  [⟨1002, fun a M => dfr a.defers (dn (a.get 0) (a.get 3) M Q), Aa Tryz.f24 [1, 1, 0, 0] Q⟩,
  ⟨1003, fF, Aa Tryz.f24 [1, 1, 1] Q⟩]
  [1000, 1001] []
  ⟨en fun f M h => h f rfl rfl,
  el,
  trivial⟩
  h
def ii (x0 x3 : Value) (M : Store) (Q : KP) : Prop :=
 OP (ab .gtr x0 (.int .i64 0)) fun t5 =>
 BR t5 (
 d4 x0 x3 M Q
 ) (
 OP (al .eql x3 (.string ⟨#[]⟩)) fun t8 =>
 BR t8 (
 d4 x0 x3 M Q
 ) (
 ig x3 M Q
 )
 )
theorem kN (h : ii x0 x3 M Q) : dn x0 x3 M Q := by
 rintro f rfl rfl
 refine lp ?_
 exact ru (N := 21) (ct := (.two .no (.here 1000)))
  [⟨1002, fun a M => dfr a.defers (d4 (a.get 0) (a.get 3) M Q), Aa Tryz.f24 [1, 1, 0, 0, 0, 1] Q⟩,
  ⟨2, fun a M => dfr a.defers (ig (a.get 3) M Q), Aa Tryz.f24 [1, 1, 1] Q⟩]
  [1000] [2]
  ⟨en fun f M h => h f rfl rfl,
  en fun f M h => h f rfl,
  trivial⟩
  h
def kK (x0 x3 : Value) (M : Store) (Q : KP) : Prop :=
 OP (ab .rem x0 (.int .i64 10)) fun t11 =>
 OP (ab .add (.int .i64 48) t11) fun t12 =>
 OP (cvI .u8 t12) fun t13 =>
 OP (bd (.int .u8 0) 1 1 [(0, t13)]) fun c =>
 LT (.slice (some ⟨M.n, 0, none⟩) 1 1) (M.push (some (.inl (c, Ty.d, true)))) fun t14 M1 =>
 OP (nO t14 M1) fun t15 =>
 OP (al .add t15 x3) fun t17 =>
 OP (ab .quo x0 (.int .i64 10)) fun t19 =>
 dn t19 t17 M1 Q
theorem pp (h : kK x0 x3 M Q) : d4 x0 x3 M Q := by
 rintro f rfl rfl
 exact ru (N := 21) (ct := .no)
  [⟨0, fun a M => dfr a.defers (dn (a.get 0) (a.get 3) M Q), Aa Tryz.f24 [1, 1, 0, 0] Q⟩]
  [] [0]
  ⟨en fun f M h => h f rfl rfl,
  trivial⟩
  h
def ij (x3 : Value) (M : Store) (Q : KP) : Prop :=
 NTs [x3] ∧ Q x3 M
theorem kO (h : ij x3 M Q) : ig x3 M Q := by
 rintro f rfl
 exact ru (N := 21) (ct := .no)
  [kE Tryz.f24 Q 1]
  [] [1]
  ⟨er,
  trivial⟩
  h
def bY (x0 x1 x6 x7 : Value) (M : Store) (Q : KP) : Prop :=
 ∀ f : Nat → Value, f 0 = x0 → f 1 = x1 → f 6 = x6 → f 7 = x7 → An Tryz.f43 [1, 1, 0, 1, 0] 49 f M Q
def fk (x0 x1 x6 x7 : Value) (M : Store) (Q : KP) : Prop :=
 ∀ f : Nat → Value, f 0 = x0 → f 1 = x1 → f 6 = x6 → f 7 = x7 → An Tryz.f43 [1, 1, 0, 1, 0, 0, 1] 49 f M Q
def fl (x0 x6 : Value) (M : Store) (Q : KP) : Prop :=
 ∀ f : Nat → Value, f 0 = x0 → f 6 = x6 → An Tryz.f43 [1, 1, 1] 49 f M Q
def jX (x0 x1 : Value) (M : Store) (Q : KP) : Prop :=
 bY x0 x1 (.int .i64 0) (.int .i64 0) M Q
theorem oC (h : jX x0 x1 M Q) : R F.G #[x0, x1] M Q := by
 refine ro Tryz.func43 ?_
 exact ru (N := 49) (ct := (.two .no (.two .no (.two (.two .no (.two (.here 1000) .no)) (.here 1001)))))
  [⟨1002, fun a M => dfr a.defers (bY (a.get 0) (a.get 1) (a.get 6) (a.get 7) M Q), Aa Tryz.f43 [1, 1, 0, 1, 0] Q⟩,
  ⟨1003, fF, Aa Tryz.f43 [1, 1, 1] Q⟩]
  [1000, 1001] []
  ⟨en fun f M h => h f rfl rfl rfl rfl,
  el,
  trivial⟩
  h
def fm (x0 x1 x6 x7 : Value) (M : Store) (Q : KP) : Prop :=
 OP (bG x0) fun t10 =>
 OP (ab .lss x7 t10) fun t11 =>
 BR t11 (
 fk x0 x1 x6 x7 M Q
 ) (
 fl x0 x6 M Q
 )
theorem iR (h : fm x0 x1 x6 x7 M Q) : bY x0 x1 x6 x7 M Q := by
 rintro f rfl rfl rfl rfl
 refine lp ?_
 exact ru (N := 49) (ct := (.two .no (.here 1000)))
  [⟨1002, fun a M => dfr a.defers (fk (a.get 0) (a.get 1) (a.get 6) (a.get 7) M Q), Aa Tryz.f43 [1, 1, 0, 1, 0, 0, 1] Q⟩,
  ⟨2, fun a M => dfr a.defers (fl (a.get 0) (a.get 6) M Q), Aa Tryz.f43 [1, 1, 1] Q⟩]
  [1000] [2]
  ⟨en fun f M h => h f rfl rfl rfl rfl,
  en fun f M h => h f rfl rfl,
  trivial⟩
  h
def iN (x0 x1 x6 x7 : Value) (M : Store) (Q : KP) : Prop :=
 OP (ixS x0 x7) fun t16 =>
 OP (ab .lss t16 (.int .u8 48)) fun t17 =>
 BR t17 (
 NTs [(.int .i64 0), (.bool false)] ∧ Q (.tuple #[(.int .i64 0), (.bool false)]) M
 ) (
 OP (ixS x0 x7) fun t21 =>
 OP (ab .gtr t21 (.int .u8 57)) fun t22 =>
 BR t22 (
 NTs [(.int .i64 0), (.bool false)] ∧ Q (.tuple #[(.int .i64 0), (.bool false)]) M
 ) (
 OP (ab .geq x7 x1) fun t27 =>
 BR t27 (
 NTs [(.int .i64 0), (.bool false)] ∧ Q (.tuple #[(.int .i64 0), (.bool false)]) M
 ) (
 OP (ab .mul (.int .i64 10) x6) fun t30 =>
 OP (ixS x0 x7) fun t33 =>
 OP (ab .sub t33 (.int .u8 48)) fun t34 =>
 OP (cvI .i64 t34) fun t35 =>
 OP (ab .add t30 t35) fun t36 =>
 OP (ab .add x7 (.int .i64 1)) fun t13 =>
 bY x0 x1 t36 t13 M Q
 )
 )
 )
theorem mV (h : iN x0 x1 x6 x7 M Q) : fk x0 x1 x6 x7 M Q := by
 rintro f rfl rfl rfl rfl
 exact ru (N := 49) (ct := .no)
  [⟨0, fun a M => dfr a.defers (bY (a.get 0) (a.get 1) (a.get 6) (a.get 7) M Q), Aa Tryz.f43 [1, 1, 0, 1, 0] Q⟩,
  kE Tryz.f43 Q 1]
  [] [0, 1]
  ⟨en fun f M h => h f rfl rfl rfl rfl,
  er,
  trivial⟩
  h
def iO (x0 x6 : Value) (M : Store) (Q : KP) : Prop :=
 OP (al .eql x0 (.string ⟨#[]⟩)) fun t38 =>
 BR t38 (
 NTs [(.int .i64 0), (.bool false)] ∧ Q (.tuple #[(.int .i64 0), (.bool false)]) M
 ) (
 OP (al .neq x0 (.string ⟨#[48]⟩)) fun t41 =>
 BR3 t41 (
 OP (ixS x0 (.int .i64 0)) fun t44 =>
 OP (ab .eql t44 (.int .u8 48)) fun t45 =>
 BR t45 (
 NTs [(.int .i64 0), (.bool false)] ∧ Q (.tuple #[(.int .i64 0), (.bool false)]) M
 ) (
 NTs [x6, (.bool true)] ∧ Q (.tuple #[x6, (.bool true)]) M
 )
 ) (
 NTs [x6, (.bool true)] ∧ Q (.tuple #[x6, (.bool true)]) M
 ) (
 BR t41 (
 BR undef (
 NTs [(.int .i64 0), (.bool false)] ∧ Q (.tuple #[(.int .i64 0), (.bool false)]) M
 ) (
 NTs [x6, (.bool true)] ∧ Q (.tuple #[x6, (.bool true)]) M
 )
 ) (
 NTs [x6, (.bool true)] ∧ Q (.tuple #[x6, (.bool true)]) M
 )
 )
 )
theorem mW (h : iO x0 x6 M Q) : fl x0 x6 M Q := by
 rintro f rfl rfl
 exact ru (N := 49) (ct := .no)
  [kE Tryz.f43 Q 1]
  [] [1]
  ⟨er,
  trivial⟩
  h
end Go.G
