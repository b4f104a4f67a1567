/-  -/
import Derived.Test.YtjchjhkhopcalaaGreatDoorPGN
open Go.RowKit
namespace Go.G
open Go.Ab Go.Proofs
set_option linter.unusedVariables false
set_option maxRecDepth 100000
variable {x0 x1 x2 x7 x8 x10 x11 x12 x18 x19 x20 x21 x22 x85 x86 x87 : Value} {M : Store} {Q : KP}
def av (x0 x1 x2 x7 x8 : Value) (M : Store) (Q : KP) : Prop :=
 ∀ f : Nat → Value, f 0 = x0 → f 1 = x1 → f 2 = x2 → f 7 = x7 → f 8 = x8 → An Tryz.f4 [1, 1, 1, 1, 0, 1, 0] 179 f M Q
def c6 (x0 x1 x2 x7 x8 : Value) (M : Store) (Q : KP) : Prop :=
 ∀ f : Nat → Value, f 0 = x0 → f 1 = x1 → f 2 = x2 → f 7 = x7 → f 8 = x8 → An Tryz.f4 [1, 1, 1, 1, 0, 1, 0, 0, 1] 179 f M Q
def bz (x1 x2 x7 : Value) (M : Store) (Q : KP) : Prop :=
 ∀ f : Nat → Value, f 1 = x1 → f 2 = x2 → f 7 = x7 → An Tryz.f4 [1, 1, 1, 1, 1] 179 f M Q
def aw (x1 x2 x7 x10 x11 x12 x85 x86 x87 : Value) (M : Store) (Q : KP) : Prop :=
 ∀ f : Nat → Value, f 1 = x1 → f 2 = x2 → f 7 = x7 → f 10 = x10 → f 11 = x11 → f 12 = x12 → f 85 = x85 → f 86 = x86 → f 87 = x87 → An Tryz.f4 [1, 1, 1, 1, 1, 1, 1, 1, 0, 1, 0] 179 f M Q
def c7 (x1 x2 x7 x10 x11 x12 x85 x86 x87 : Value) (M : Store) (Q : KP) : Prop :=
 ∀ f : Nat → Value, f 1 = x1 → f 2 = x2 → f 7 = x7 → f 10 = x10 → f 11 = x11 → f 12 = x12 → f 85 = x85 → f 86 = x86 → f 87 = x87 → An Tryz.f4 [1, 1, 1, 1, 1, 1, 1, 1, 0, 1, 0, 0, 1, 1] 179 f M Q
def b4 (x1 x2 x7 x10 x11 x12 : Value) (M : Store) (Q : KP) : Prop :=
 ∀ f : Nat → Value, f 1 = x1 → f 2 = x2 → f 7 = x7 → f 10 = x10 → f 11 = x11 → f 12 = x12 → An Tryz.f4 [1, 1, 1, 1, 1, 1, 1, 1, 1] 179 f M Q
def aO (x7 x10 x11 x18 x19 x20 x21 x22 : Value) (M : Store) (Q : KP) : Prop :=
 ∀ f : Nat → Value, f 7 = x7 → f 10 = x10 → f 11 = x11 → f 18 = x18 → f 19 = x19 → f 20 = x20 → f 21 = x21 → f 22 = x22 → An Tryz.f4 [1, 1, 1, 1, 1, 1, 1, 1, 1, 1, 1, 1, 1, 0, 0] 179 f M Q
def c8 (x7 x10 x11 x18 x19 x20 x21 x22 : Value) (M : Store) (Q : KP) : Prop :=
 ∀ f : Nat → Value, f 7 = x7 → f 10 = x10 → f 11 = x11 → f 18 = x18 → f 19 = x19 → f 20 = x20 → f 21 = x21 → f 22 = x22 → An Tryz.f4 [1, 1, 1, 1, 1, 1, 1, 1, 1, 1, 1, 1, 1, 0, 0, 0, 1] 179 f M Q
def bA (x7 x10 x11 x18 x19 x20 x22 : Value) (M : Store) (Q : KP) : Prop :=
 ∀ f : Nat → Value, f 7 = x7 → f 10 = x10 → f 11 = x11 → f 18 = x18 → f 19 = x19 → f 20 = x20 → f 22 = x22 → An Tryz.f4 [1, 1, 1, 1, 1, 1, 1, 1, 1, 1, 1, 1, 1, 1] 179 f M Q
def fQ (x0 x1 x2 : Value) (M : Store) (Q : KP) : Prop :=
 R F.Y #[(.int .i64 1048576)] M fun t24 M1 =>
 OP (dv Tryz.prog true .eql Ty.i t24 (.pointer none)) fun t26 =>
 BR t26 (
 NTs [(.bool false)] ∧ Q (.bool false) M1
 ) (
 OP (ab .and x1 (.int .i64 3)) fun t28 =>
 OP (ab .and x2 (.int .i64 7)) fun t30 =>
 av x0 t28 t30 t24 (.int .i64 0) M1 Q
 )
theorem kh (h : fQ x0 x1 x2 M Q) : R F.S #[x0, x1, x2] M Q := by
 refine ro Tryz.func4 ?_
 exact ru (N := 179) (ct := (.two .no (.two .no (.two .no (.two .no (.two (.two .no (.two (.here 1000) .no)) (.here 1001)))))))
  [⟨1002, fun a M => dfr a.defers (av (a.get 0) (a.get 1) (a.get 2) (a.get 7) (a.get 8) M Q), Aa Tryz.f4 [1, 1, 1, 1, 0, 1, 0] Q⟩,
  ⟨1003, fF, Aa Tryz.f4 [1, 1, 1, 1, 1] Q⟩,
  kE Tryz.f4 Q 1]
  [1000, 1001] [1]
  ⟨en fun f M h => h f rfl rfl rfl rfl rfl,
  el,
  er,
  trivial⟩
  h
def da (x0 x1 x2 x7 x8 : Value) (M : Store) (Q : KP) : Prop :=
 OP (lenV x0) fun t33 =>
 OP (ab .lss x8 t33) fun t34 =>
 BR t34 (
 OP (ab .lss x8 (.int .i64 30)) fun t37 =>
 BR t37 (
 c6 x0 x1 x2 x7 x8 M Q
 ) (
 bz x1 x2 x7 M Q
 )
 ) (
 bz x1 x2 x7 M Q
 )
theorem eW (h : da x0 x1 x2 x7 x8 M Q) : av x0 x1 x2 x7 x8 M Q := by
 rintro f rfl rfl rfl rfl rfl
 refine lp ?_
 exact ru (N := 179) (ct := (.two .no (.here 1000)))
  [⟨1002, fun a M => dfr a.defers (c6 (a.get 0) (a.get 1) (a.get 2) (a.get 7) (a.get 8) M Q), Aa Tryz.f4 [1, 1, 1, 1, 0, 1, 0, 0, 1] Q⟩,
  ⟨2, fun a M => dfr a.defers (bz (a.get 1) (a.get 2) (a.get 7) M Q), Aa Tryz.f4 [1, 1, 1, 1, 1] Q⟩]
  [1000] [2]
  ⟨en fun f M h => h f rfl rfl rfl rfl rfl,
  en fun f M h => h f rfl rfl rfl,
  trivial⟩
  h
def eP (x0 x1 x2 x7 x8 : Value) (M : Store) (Q : KP) : Prop :=
 OP (ixA 1 x0 x8) fun t43 =>
 OP (ld 1 false t43 M) fun t44 =>
 OP (ab .and t44 (.int .i64 3)) fun t45 =>
 OP (ixA 1 x0 x8) fun t48 =>
 OP (ld 1 false t48 M) fun t49 =>
 OP (ab .shr t49 (.int .u64 2)) fun t50 =>
 OP (ab .and t50 (.int .i64 7)) fun t51 =>
 OP (ixA 1 x0 x8) fun t54 =>
 OP (ld 1 false t54 M) fun t55 =>
 OP (ab .shr t55 (.int .u64 5)) fun t56 =>
 OP (ab .and t56 (.int .i64 7)) fun t57 =>
 R F.c1 #[t45, t51, t57] M fun t58 M1 =>
 TDx [0, 0, 3, 7, 15, 0, 0, 96, 224, 480, 992, 0, 0, 6144, 14336, 30720, 63488, 131071, 262143] [M.n, M.n, M.n, M.n, M.n, M.n, M.n, M.n, M.n, M.n, M.n, M.n, M.n, M.n, M.n, M.n, M.n, M.n] 17 M M1 ∧
 OP (ixA 1 x0 x8) fun t61 =>
 OP (ld 1 false t61 M1) fun t62 =>
 OP (ab .shr t62 (.int .u64 8)) fun t63 =>
 OP (ab .and t63 (.int .i64 7)) fun t64 =>
 OP (ab .eql t64 (.int .i64 0)) fun t66 =>
 BR t66 (
 OP (slS t58 (some (.int .i64 4)) none) fun t68 =>
 OP (al .add (.string ⟨#[116, 109, 112, 47, 120]⟩) t68) fun t69 =>
 OP (bd (.int .u8 0) 1 1 [(0, (.int .u8 1))]) fun c =>
 LT (.slice (some ⟨M1.n, 0, none⟩) 1 1) (M1.push (some (.inl (c, Ty.d, true)))) fun t81 M2 =>
 R F.s #[x7, t69, t81] M2 fun t82 M3 =>
 OP (ab .add x8 (.int .i64 1)) fun t40 =>
 av x0 x1 x2 x7 t40 M3 Q
 ) (
 OP (ab .eql t64 (.int .i64 1)) fun t71 =>
 BR t71 (
 OP (slS t58 (some (.int .i64 4)) none) fun t73 =>
 OP (al .add (.string ⟨#[99, 108, 97, 105, 109, 47]⟩) t73) fun t74 =>
 OP (bd (.int .u8 0) 1 1 [(0, (.int .u8 1))]) fun c_1 =>
 LT (.slice (some ⟨M1.n, 0, none⟩) 1 1) (M1.push (some (.inl (c_1, Ty.d, true)))) fun t81_1 M4 =>
 R F.s #[x7, t74, t81_1] M4 fun t82_1 M5 =>
 OP (ab .add x8 (.int .i64 1)) fun t40_1 =>
 av x0 x1 x2 x7 t40_1 M5 Q
 ) (
 OP (ab .eql t64 (.int .i64 2)) fun t76 =>
 BR t76 (
 OP (slS t58 (some (.int .i64 4)) none) fun t78 =>
 OP (bd (.int .u8 0) 1 1 [(0, (.int .u8 1))]) fun c_2 =>
 LT (.slice (some ⟨M1.n, 0, none⟩) 1 1) (M1.push (some (.inl (c_2, Ty.d, true)))) fun t81_2 M6 =>
 R F.s #[x7, t78, t81_2] M6 fun t82_2 M7 =>
 OP (ab .add x8 (.int .i64 1)) fun t40_2 =>
 av x0 x1 x2 x7 t40_2 M7 Q
 ) (
 OP (bd (.int .u8 0) 1 1 [(0, (.int .u8 1))]) fun c_3 =>
 LT (.slice (some ⟨M1.n, 0, none⟩) 1 1) (M1.push (some (.inl (c_3, Ty.d, true)))) fun t81_3 M8 =>
 R F.s #[x7, t58, t81_3] M8 fun t82_3 M9 =>
 OP (ab .add x8 (.int .i64 1)) fun t40_3 =>
 av x0 x1 x2 x7 t40_3 M9 Q
 )
 )
 )
theorem i6 (h : eP x0 x1 x2 x7 x8 M Q) : c6 x0 x1 x2 x7 x8 M Q := by
 rintro f rfl rfl rfl rfl rfl
 exact ru (N := 179) (ct := .no)
  [⟨0, fun a M => dfr a.defers (av (a.get 0) (a.get 1) (a.get 2) (a.get 7) (a.get 8) M Q), Aa Tryz.f4 [1, 1, 1, 1, 0, 1, 0] Q⟩]
  [] [0]
  ⟨en fun f M h => h f rfl rfl rfl rfl rfl,
  trivial⟩
  h
def eQ (x1 x2 x7 : Value) (M : Store) (Q : KP) : Prop :=
 R F.g #[x7, (.string ⟨#[116, 109, 112]⟩)] M fun t84 M1 =>
 OP (lenV t84) fun t86 =>
 aw x1 x2 x7 (.slice none 0 0) (.int .i64 0) t84 t84 t86 (.int .i64 0) M1 Q
theorem i7 (h : eQ x1 x2 x7 M Q) : bz x1 x2 x7 M Q := by
 rintro f rfl rfl rfl
 exact ru (N := 179) (ct := (.two .no (.two .no (.two .no (.two (.two .no (.two (.here 1000) .no)) (.here 1001))))))
  [⟨1002, fun a M => dfr a.defers (aw (a.get 1) (a.get 2) (a.get 7) (a.get 10) (a.get 11) (a.get 12) (a.get 85) (a.get 86) (a.get 87) M Q), Aa Tryz.f4 [1, 1, 1, 1, 1, 1, 1, 1, 0, 1, 0] Q⟩,
  ⟨1003, fF, Aa Tryz.f4 [1, 1, 1, 1, 1, 1, 1, 1, 1] Q⟩]
  [1000, 1001] []
  ⟨en fun f M h => h f rfl rfl rfl rfl rfl rfl rfl rfl rfl,
  el,
  trivial⟩
  h
def db (x1 x2 x7 x10 x11 x12 x85 x86 x87 : Value) (M : Store) (Q : KP) : Prop :=
 OP (ab .lss x87 x86) fun t88 =>
 BR t88 (
 c7 x1 x2 x7 x10 x11 x12 x85 x86 x87 M Q
 ) (
 b4 x1 x2 x7 x10 x11 x12 M Q
 )
theorem eX (h : db x1 x2 x7 x10 x11 x12 x85 x86 x87 M Q) : aw x1 x2 x7 x10 x11 x12 x85 x86 x87 M Q := by
 rintro f rfl rfl rfl rfl rfl rfl rfl rfl rfl
 refine lp ?_
 exact ru (N := 179) (ct := (.two .no (.two .no (.here 1000))))
  [⟨1002, fun a M => dfr a.defers (c7 (a.get 1) (a.get 2) (a.get 7) (a.get 10) (a.get 11) (a.get 12) (a.get 85) (a.get 86) (a.get 87) M Q), Aa Tryz.f4 [1, 1, 1, 1, 1, 1, 1, 1, 0, 1, 0, 0, 1, 1] Q⟩,
  ⟨5, fun a M => dfr a.defers (b4 (a.get 1) (a.get 2) (a.get 7) (a.get 10) (a.get 11) (a.get 12) M Q), Aa Tryz.f4 [1, 1, 1, 1, 1, 1, 1, 1, 1] Q⟩]
  [1000] [5]
  ⟨en fun f M h => h f rfl rfl rfl rfl rfl rfl rfl rfl rfl,
  en fun f M h => h f rfl rfl rfl rfl rfl rfl,
  trivial⟩
  h
def eR (x1 x2 x7 x10 x11 x12 x85 x86 x87 : Value) (M : Store) (Q : KP) : Prop :=
 OP (ixA 1 x85 x87) fun t89 =>
 OP (ld 1 false t89 M) fun t90 =>
 R F.d1 #[t90] M fun t93 M1 =>
 OP (tup t93 0) fun t94 =>
 OP (tup t93 1) fun t95 =>
 OP (tup t93 2) fun t96 =>
 BR t96 (
 OP (ab .eql t94 x1) fun t101 =>
 BR t101 (
 OP (ab .lss t95 x2) fun t106 =>
 BR t106 (
 OP (ab .add x11 (.int .i64 1)) fun t109 =>
 OP (ab .add x87 (.int .i64 1)) fun t114 =>
 aw x1 x2 x7 x10 t109 x12 x85 x86 t114 M1 Q
 ) (
 OP (bd (.string ⟨#[]⟩) 1 1 [(0, t90)]) fun c =>
 LT (.slice (some ⟨M1.n, 0, none⟩) 1 1) (M1.push (some (.inl (c, Ty.a, true)))) fun t112 M2 =>
 OP2 (appV 1 Ty.a x10 t112 M2) fun t113 M3 =>
 OP (ab .add x87 (.int .i64 1)) fun t114_1 =>
 aw x1 x2 x7 t113 x11 x12 x85 x86 t114_1 M3 Q
 )
 ) (
 OP (bd (.string ⟨#[]⟩) 1 1 [(0, t90)]) fun c_1 =>
 LT (.slice (some ⟨M1.n, 0, none⟩) 1 1) (M1.push (some (.inl (c_1, Ty.a, true)))) fun t112_1 M4 =>
 OP2 (appV 1 Ty.a x10 t112_1 M4) fun t113_1 M5 =>
 OP (ab .add x87 (.int .i64 1)) fun t114_2 =>
 aw x1 x2 x7 t113_1 x11 x12 x85 x86 t114_2 M5 Q
 )
 ) (
 OP (bd (.string ⟨#[]⟩) 1 1 [(0, t90)]) fun c_2 =>
 LT (.slice (some ⟨M1.n, 0, none⟩) 1 1) (M1.push (some (.inl (c_2, Ty.a, true)))) fun t112_2 M6 =>
 OP2 (appV 1 Ty.a x10 t112_2 M6) fun t113_2 M7 =>
 OP (ab .add x87 (.int .i64 1)) fun t114_3 =>
 aw x1 x2 x7 t113_2 x11 x12 x85 x86 t114_3 M7 Q
 )
theorem i8 (h : eR x1 x2 x7 x10 x11 x12 x85 x86 x87 M Q) : c7 x1 x2 x7 x10 x11 x12 x85 x86 x87 M Q := by
 rintro f rfl rfl rfl rfl rfl rfl rfl rfl rfl
 exact ru (N := 179) (ct := .no)
  [⟨0, fun a M => dfr a.defers (aw (a.get 1) (a.get 2) (a.get 7) (a.get 10) (a.get 11) (a.get 12) (a.get 85) (a.get 86) (a.get 87) M Q), Aa Tryz.f4 [1, 1, 1, 1, 1, 1, 1, 1, 0, 1, 0] Q⟩]
  [] [0]
  ⟨en fun f M h => h f rfl rfl rfl rfl rfl rfl rfl rfl rfl,
  trivial⟩
  h
def eS (x1 x2 x7 x10 x11 x12 : Value) (M : Store) (Q : KP) : Prop :=
 R F.g #[x7, (.string ⟨#[]⟩)] M fun t116 M1 =>
 R F.g #[x7, (.string ⟨#[99, 108, 97, 105, 109]⟩)] M1 fun t118 M2 =>
 R F.Z #[x1, x2] M2 fun t121 M3 =>
 OP (dv Tryz.prog true .eql Ty.j t121 (.pointer none)) fun t123 =>
 BR t123 (
 NTs [(.bool false)] ∧ Q (.bool false) M3
 ) (
 OP (lenV x12) fun t125 =>
 aO x7 x10 x11 t116 t118 t121 t125 (.int .i64 0) M3 Q
 )
theorem i9 (h : eS x1 x2 x7 x10 x11 x12 M Q) : b4 x1 x2 x7 x10 x11 x12 M Q := by
 rintro f rfl rfl rfl rfl rfl rfl
 exact ru (N := 179) (ct := (.two .no (.two .no (.two .no (.two .no (.two (.two (.here 1000) .no) (.here 1001)))))))
  [⟨1002, fun a M => dfr a.defers (aO (a.get 7) (a.get 10) (a.get 11) (a.get 18) (a.get 19) (a.get 20) (a.get 21) (a.get 22) M Q), Aa Tryz.f4 [1, 1, 1, 1, 1, 1, 1, 1, 1, 1, 1, 1, 1, 0, 0] Q⟩,
  ⟨1003, fF, Aa Tryz.f4 [1, 1, 1, 1, 1, 1, 1, 1, 1, 1, 1, 1, 1, 1] Q⟩,
  kE Tryz.f4 Q 1]
  [1000, 1001] [1]
  ⟨en fun f M h => h f rfl rfl rfl rfl rfl rfl rfl rfl,
  el,
  er,
  trivial⟩
  h
def dc (x7 x10 x11 x18 x19 x20 x21 x22 : Value) (M : Store) (Q : KP) : Prop :=
 OP (ab .lss x22 (.int .i64 100)) fun t127 =>
 BR t127 (
 R F.r #[x20, x7] M fun t131 M1 =>
 BR t131 (
 c8 x7 x10 x11 x18 x19 x20 x21 x22 M1 Q
 ) (
 bA x7 x10 x11 x18 x19 x20 x22 M1 Q
 )
 ) (
 bA x7 x10 x11 x18 x19 x20 x22 M Q
 )
theorem eY (h : dc x7 x10 x11 x18 x19 x20 x21 x22 M Q) : aO x7 x10 x11 x18 x19 x20 x21 x22 M Q := by
 rintro f rfl rfl rfl rfl rfl rfl rfl rfl
 refine lp ?_
 exact ru (N := 179) (ct := (.two .no (.here 1000)))
  [⟨1002, fun a M => dfr a.defers (c8 (a.get 7) (a.get 10) (a.get 11) (a.get 18) (a.get 19) (a.get 20) (a.get 21) (a.get 22) M Q), Aa Tryz.f4 [1, 1, 1, 1, 1, 1, 1, 1, 1, 1, 1, 1, 1, 0, 0, 0, 1] Q⟩,
  ⟨7, fun a M => dfr a.defers (bA (a.get 7) (a.get 10) (a.get 11) (a.get 18) (a.get 19) (a.get 20) (a.get 22) M Q), Aa Tryz.f4 [1, 1, 1, 1, 1, 1, 1, 1, 1, 1, 1, 1, 1, 1] Q⟩]
  [1000] [7]
  ⟨en fun f M h => h f rfl rfl rfl rfl rfl rfl rfl rfl,
  en fun f M h => h f rfl rfl rfl rfl rfl rfl rfl,
  trivial⟩
  h
def dd (x7 x10 x11 x18 x19 x20 x21 x22 : Value) (M : Store) (Q : KP) : Prop :=
 R F.g #[x7, (.string ⟨#[116, 109, 112]⟩)] M fun t134 M1 =>
 OP (lenV t134) fun t135 =>
 OP (ab .sub x21 (.int .i64 1)) fun t138 =>
 OP (ab .lss t135 t138) fun t139 =>
 BR t139 (
 NTs [(.bool false)] ∧ Q (.bool false) M1
 ) (
 OP (ab .gtr t135 x21) fun t143 =>
 BR t143 (
 NTs [(.bool false)] ∧ Q (.bool false) M1
 ) (
 OP (ab .add x22 (.int .i64 1)) fun t147 =>
 aO x7 x10 x11 x18 x19 x20 t135 t147 M1 Q
 )
 )
theorem eZ (h : dd x7 x10 x11 x18 x19 x20 x21 x22 M Q) : c8 x7 x10 x11 x18 x19 x20 x21 x22 M Q := by
 rintro f rfl rfl rfl rfl rfl rfl rfl rfl
 exact ru (N := 179) (ct := .no)
  [⟨0, fun a M => dfr a.defers (aO (a.get 7) (a.get 10) (a.get 11) (a.get 18) (a.get 19) (a.get 20) (a.get 21) (a.get 22) M Q), Aa Tryz.f4 [1, 1, 1, 1, 1, 1, 1, 1, 1, 1, 1, 1, 1, 0, 0] Q⟩,
  kE Tryz.f4 Q 1]
  [] [0, 1]
  ⟨en fun f M h => h f rfl rfl rfl rfl rfl rfl rfl rfl,
  er,
  trivial⟩
  h
def eT (x7 x10 x11 x18 x19 x20 x22 : Value) (M : Store) (Q : KP) : Prop :=
 R F.g #[x7, (.string ⟨#[116, 109, 112]⟩)] M fun t149 M1 =>
 R F.w #[t149, x10] M1 fun t151 M2 =>
 BR t151 (
 R F.g #[x7, (.string ⟨#[]⟩)] M2 fun t154 M3 =>
 R F.w #[t154, x18] M3 fun t156 M4 =>
 BR t156 (
 R F.g #[x7, (.string ⟨#[99, 108, 97, 105, 109]⟩)] M4 fun t160 M5 =>
 R F.w #[t160, x19] M5 fun t162 M6 =>
 BR t162 (
 OP (ab .add x11 (.int .i64 1)) fun t167 =>
 OP (ab .leq x22 t167) fun t168 =>
 BR t168 (
 R F.r #[x20, x7] M6 fun t173 M7 =>
 OP (aun .not t173) fun t174 =>
 BR t174 (
 R F.E #[] M7 fun t177 M8 =>
 NTs [t177] ∧ Q t177 M8
 ) (
 NTs [(.bool false)] ∧ Q (.bool false) M7
 )
 ) (
 NTs [(.bool false)] ∧ Q (.bool false) M6
 )
 ) (
 NTs [(.bool false)] ∧ Q (.bool false) M6
 )
 ) (
 NTs [(.bool false)] ∧ Q (.bool false) M4
 )
 ) (
 NTs [(.bool false)] ∧ Q (.bool false) M2
 )
theorem ja (h : eT x7 x10 x11 x18 x19 x20 x22 M Q) : bA x7 x10 x11 x18 x19 x20 x22 M Q := by
 rintro f rfl rfl rfl rfl rfl rfl rfl
 exact ru (N := 179) (ct := .no)
  [kE Tryz.f4 Q 1]
  [] [1]
  ⟨er,
  trivial⟩
  h
end Go.G
