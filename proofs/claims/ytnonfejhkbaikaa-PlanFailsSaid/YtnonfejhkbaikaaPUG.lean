/- ... -/
import Derived.Test.YtnonfejhkbaikaaPGN
open Go.RowKit
namespace Go.G
open Go.Ab Go.Proofs
set_option linter.unusedVariables false
set_option maxRecDepth 100000
variable {x0 x1 x2 x3 x4 x5 x6 x7 x8 x10 x11 x15 : Value} {M : Store} {Q : KP}
def an (x0 x3 x4 x5 x6 x7 x8 : Value) (M : Store) (Q : KP) : Prop :=
 ∀ f : Nat → Value, f 0 = x0 → f 3 = x3 → f 4 = x4 → f 5 = x5 → f 6 = x6 → f 7 = x7 → f 8 = x8 → An Try.f45 [1, 1, 1, 1, 0, 1, 0] 192 f M Q
def lr (x0 x3 x4 x5 x6 x7 x8 : Value) (M : Store) (Q : KP) : Prop :=
 ∀ f : Nat → Value, f 0 = x0 → f 3 = x3 → f 4 = x4 → f 5 = x5 → f 6 = x6 → f 7 = x7 → f 8 = x8 → An Try.f45 [1, 1, 1, 1, 0, 1, 0, 0, 1] 192 f M Q
def lu (x3 x4 : Value) (M : Store) (Q : KP) : Prop :=
 ∀ f : Nat → Value, f 3 = x3 → f 4 = x4 → An Try.f45 [1, 1, 1, 1, 1] 192 f M Q
def lw (x0 x3 x4 x5 x6 x7 x8 : Value) (M : Store) (Q : KP) : Prop :=
 ∀ f : Nat → Value, f 0 = x0 → f 3 = x3 → f 4 = x4 → f 5 = x5 → f 6 = x6 → f 7 = x7 → f 8 = x8 → An Try.f45 [1, 1, 1, 1, 0, 1, 0, 0, 1, 0, 1] 192 f M Q
def d4 (x0 x3 x4 x5 x6 x7 x8 : Value) (M : Store) (Q : KP) : Prop :=
 ∀ f : Nat → Value, f 0 = x0 → f 3 = x3 → f 4 = x4 → f 5 = x5 → f 6 = x6 → f 7 = x7 → f 8 = x8 → An Try.f45 [1, 1, 1, 1, 0, 1, 0, 0, 1, 0, 1, 1, 1, 0, 1, 1, 1, 0, 0] 192 f M Q
def d6 (x0 x3 x4 x5 x6 x7 x8 x10 x15 : Value) (M : Store) (Q : KP) : Prop :=
 ∀ f : Nat → Value, f 0 = x0 → f 3 = x3 → f 4 = x4 → f 5 = x5 → f 6 = x6 → f 7 = x7 → f 8 = x8 → f 10 = x10 → f 15 = x15 → An Try.f45 [1, 1, 1, 1, 0, 1, 0, 0, 1, 0, 1, 1, 1, 0, 1, 1, 1, 1, 1, 1, 1, 1, 1, 1, 1, 0, 0] 192 f M Q
def br (x0 x3 x4 x5 x6 x7 x8 x10 x15 : Value) (M : Store) (Q : KP) : Prop :=
 ∀ f : Nat → Value, f 0 = x0 → f 3 = x3 → f 4 = x4 → f 5 = x5 → f 6 = x6 → f 7 = x7 → f 8 = x8 → f 10 = x10 → f 15 = x15 → An Try.f45 [1, 1, 1, 1, 0, 1, 0, 0, 1, 0, 1, 1, 1, 0, 1, 1, 1, 1, 1, 1, 1, 1, 1, 1, 1, 1] 192 f M Q
def vl (x0 : Value) (M : Store) (Q : KP) : Prop :=
 LT (.pointer (some ⟨M.n, 0, none⟩)) (M.push (some (.inl ([(.int .i64 0), (.int .i64 0), (.int .i64 0)], Ty.h, true)))) fun t3 M1 =>
 an x0 t3 (.slice none 0 0) (.slice none 0 0) (.int .i64 1) (.int .i64 0) (.int .i64 0) M1 Q
theorem CQ (h : vl x0 M Q) : R F.V #[x0] M Q := by
 refine ro Try.func45 ?_
 exact ru (N := 192) (ct := (.two .no (.two .no (.two .no (.two .no (.two (.two .no (.two (.here 1000) .no)) (.here 1001)))))))
  [⟨1002, fun a M => dfr a.defers (an (a.get 0) (a.get 3) (a.get 4) (a.get 5) (a.get 6) (a.get 7) (a.get 8) M Q), Aa Try.f45 [1, 1, 1, 1, 0, 1, 0] Q⟩,
  ⟨1003, fF, Aa Try.f45 [1, 1, 1, 1, 1] Q⟩]
  [1000, 1001] []
  ⟨en fun f M h => h f rfl rfl rfl rfl rfl rfl rfl,
  el,
  trivial⟩
  h
def lU (x0 x3 x4 x5 x6 x7 x8 : Value) (M : Store) (Q : KP) : Prop :=
 OP (lenV x0) fun t18 =>
 OP (ad .leq x8 t18) fun t19 =>
 BR t19 (
 lr x0 x3 x4 x5 x6 x7 x8 M Q
 ) (
 lu x3 x4 M Q
 )
theorem rX (h : lU x0 x3 x4 x5 x6 x7 x8 M Q) : an x0 x3 x4 x5 x6 x7 x8 M Q := by
 rintro f rfl rfl rfl rfl rfl rfl rfl
 refine lp ?_
 exact ru (N := 192) (ct := (.two .no (.here 1000)))
  [⟨1002, fun a M => dfr a.defers (lr (a.get 0) (a.get 3) (a.get 4) (a.get 5) (a.get 6) (a.get 7) (a.get 8) M Q), Aa Try.f45 [1, 1, 1, 1, 0, 1, 0, 0, 1] Q⟩,
  ⟨2, fun a M => dfr a.defers (lu (a.get 3) (a.get 4) M Q), Aa Try.f45 [1, 1, 1, 1, 1] Q⟩]
  [1000] [2]
  ⟨en fun f M h => h f rfl rfl rfl rfl rfl rfl rfl,
  en fun f M h => h f rfl rfl,
  trivial⟩
  h
def rp (x0 x3 x4 x5 x6 x7 x8 : Value) (M : Store) (Q : KP) : Prop :=
 OP (lenV x0) fun t22 =>
 OP (ad .eql x8 t22) fun t23 =>
 BR t23 (
 OP (lenV x5) fun t32 =>
 OP (ad .gtr t32 (.int .i64 0)) fun t33 =>
 BR t33 (
 OP (al (.slice none 0 0) 1 1 [(0, x5)]) fun c =>
 LT (.slice (some ⟨M.n, 0, none⟩) 1 1) (M.push (some (.inl (c, Ty.e, true)))) fun t36 M1 =>
 OP2 (appV 1 Ty.e x4 t36 M1) fun t37 M2 =>
 OP (ad .add x6 (.int .i64 1)) fun t39 =>
 OP (ad .add x8 (.int .i64 1)) fun t41 =>
 an x0 x3 t37 (.slice none 0 0) t39 t41 t41 M2 Q
 ) (
 OP (ad .add x6 (.int .i64 1)) fun t39_1 =>
 OP (ad .add x8 (.int .i64 1)) fun t41_1 =>
 an x0 x3 x4 x5 t39_1 t41_1 t41_1 M Q
 )
 ) (
 OP (ixA 1 x0 x8) fun t27 =>
 OP (ld 1 false t27 M) fun t28 =>
 OP (ad .eql t28 (.int .u8 10)) fun t29 =>
 BR t29 (
 OP (lenV x5) fun t32_1 =>
 OP (ad .gtr t32_1 (.int .i64 0)) fun t33_1 =>
 BR t33_1 (
 OP (al (.slice none 0 0) 1 1 [(0, x5)]) fun c_1 =>
 LT (.slice (some ⟨M.n, 0, none⟩) 1 1) (M.push (some (.inl (c_1, Ty.e, true)))) fun t36_1 M3 =>
 OP2 (appV 1 Ty.e x4 t36_1 M3) fun t37_1 M4 =>
 OP (ad .add x6 (.int .i64 1)) fun t39_2 =>
 OP (ad .add x8 (.int .i64 1)) fun t41_2 =>
 an x0 x3 t37_1 (.slice none 0 0) t39_2 t41_2 t41_2 M4 Q
 ) (
 OP (ad .add x6 (.int .i64 1)) fun t39_3 =>
 OP (ad .add x8 (.int .i64 1)) fun t41_3 =>
 an x0 x3 x4 x5 t39_3 t41_3 t41_3 M Q
 )
 ) (
 lw x0 x3 x4 x5 x6 x7 x8 M Q
 )
 )
theorem zY (h : rp x0 x3 x4 x5 x6 x7 x8 M Q) : lr x0 x3 x4 x5 x6 x7 x8 M Q := by
 rintro f rfl rfl rfl rfl rfl rfl rfl
 exact ru (N := 192) (ct := (.two (.two .no (.here 1000)) .no))
  [⟨1002, fun a M => dfr a.defers (lw (a.get 0) (a.get 3) (a.get 4) (a.get 5) (a.get 6) (a.get 7) (a.get 8) M Q), Aa Try.f45 [1, 1, 1, 1, 0, 1, 0, 0, 1, 0, 1] Q⟩,
  ⟨0, fun a M => dfr a.defers (an (a.get 0) (a.get 3) (a.get 4) (a.get 5) (a.get 6) (a.get 7) (a.get 8) M Q), Aa Try.f45 [1, 1, 1, 1, 0, 1, 0] Q⟩]
  [1000] [0]
  ⟨en fun f M h => h f rfl rfl rfl rfl rfl rfl rfl,
  en fun f M h => h f rfl rfl rfl rfl rfl rfl rfl,
  trivial⟩
  h
def rq (x3 x4 : Value) (M : Store) (Q : KP) : Prop :=
 OP (bB #[(.int .i64 0), (.int .i64 0), (.int .i64 0)] [(0, 1), (1, 1), (2, 1)] []) fun t191 =>
 OP (st 3 x3 t191 M) fun M1 =>
 OP (ld 3 true x3 M1) fun r3 =>
 NTs [x4, r3] ∧ Q (.tuple #[x4, r3]) M1
theorem zZ (h : rq x3 x4 M Q) : lu x3 x4 M Q := by
 rintro f rfl rfl
 exact ru (N := 192) (ct := .no)
  [kE Try.f45 Q 1]
  [] [1]
  ⟨er,
  trivial⟩
  h
def rr (x0 x3 x4 x5 x6 x7 x8 : Value) (M : Store) (Q : KP) : Prop :=
 OP (ixA 1 x0 x8) fun t45 =>
 OP (ld 1 false t45 M) fun t46 =>
 OP (ad .sub x8 x7) fun t50 =>
 OP (ad .add t50 (.int .i64 1)) fun t51 =>
 OP (bB #[(.string ⟨#[]⟩), (.int .i64 0), (.int .i64 0), (.bool false)] [(0, 1), (1, 1), (2, 1), (3, 1)] [(1, x6), (2, t51)]) fun t52 =>
 LT (.pointer (some ⟨M.n, 0, none⟩)) (M.push (some (.inl ([(.string ⟨#[]⟩), (.int .i64 0), (.int .i64 0), (.bool false)], Ty.c, true)))) fun t10 M1 =>
 OP (st 4 t10 t52 M1) fun M2 =>
 OP (ad .eql t46 (.int .u8 32)) fun t112 =>
 BR t112 (
 OP (ad .add x8 (.int .i64 1)) fun t118 =>
 an x0 x3 x4 x5 x6 x7 t118 M2 Q
 ) (
 OP (ad .eql t46 (.int .u8 9)) fun t115 =>
 BR t115 (
 OP (ad .add x8 (.int .i64 1)) fun t118_1 =>
 an x0 x3 x4 x5 x6 x7 t118_1 M2 Q
 ) (
 OP (ad .eql t46 (.int .u8 35)) fun t121 =>
 BR t121 (
 d4 x0 x3 x4 x5 x6 x7 x8 M2 Q
 ) (
 R F.z #[t46] M2 fun t137 M3 =>
 BR t137 (
 OP (ad .add x8 (.int .i64 1)) fun t141 =>
 OP (slV 1 Ty.o x0 (some x8) (some t141) M3) fun t142 =>
 OP (pw t142 M3) fun t143 =>
 OP (fad 0 t10) fun t144 =>
 OP (st 1 t144 t143 M3) fun M4 =>
 OP (ld 4 true t10 M4) fun t146 =>
 OP (al (.agg #[(.string ⟨#[]⟩), (.int .i64 0), (.int .i64 0), (.bool false)]) 4 1 [(0, t146)]) fun c =>
 LT (.slice (some ⟨M4.n, 0, none⟩) 1 1) (M4.push (some (.inl (c, Ty.c, true)))) fun t147 M5 =>
 OP2 (appV 4 Ty.c x5 t147 M5) fun t148 M6 =>
 OP (ad .add x8 (.int .i64 1)) fun t150 =>
 an x0 x3 x4 t148 x6 x7 t150 M6 Q
 ) (
 OP (ad .eql t46 (.int .u8 34)) fun t153 =>
 BR t153 (
 OP (ld 4 true t10 M3) fun t157 =>
 R F.N #[x0, x8, t157] M3 fun t158 M7 =>
 OP (tup t158 0) fun t159 =>
 OP (tup t158 1) fun t160 =>
 OP (tup t158 2) fun t161 =>
 OP (tup t158 3) fun t162 =>
 LT (.pointer (some ⟨M7.n, 0, none⟩)) (M7.push (some (.inl ([(.string ⟨#[]⟩), (.int .i64 0), (.int .i64 0), (.bool false)], Ty.c, true)))) fun t11 M8 =>
 OP (st 4 t11 t159 M8) fun M9 =>
 OP (ad .neq t161 (.int .i64 0)) fun t164 =>
 BR t164 (
 OP (ad .sub t162 x7) fun t169 =>
 OP (ad .add t169 (.int .i64 1)) fun t170 =>
 R F.i #[t161, x6, t170] M9 fun t171 M10 =>
 OP (st 3 x3 t171 M10) fun M11 =>
 OP (ld 3 true x3 M11) fun r3 =>
 NTs [(.slice none 0 0), r3] ∧ Q (.tuple #[(.slice none 0 0), r3]) M11
 ) (
 OP (ld 4 true t11 M9) fun t173 =>
 OP (al (.agg #[(.string ⟨#[]⟩), (.int .i64 0), (.int .i64 0), (.bool false)]) 4 1 [(0, t173)]) fun c_1 =>
 LT (.slice (some ⟨M9.n, 0, none⟩) 1 1) (M9.push (some (.inl (c_1, Ty.c, true)))) fun t174 M12 =>
 OP2 (appV 4 Ty.c x5 t174 M12) fun t175 M13 =>
 an x0 x3 x4 t175 x6 x7 t160 M13 Q
 )
 ) (
 OP (ad .lss t46 (.int .u8 33)) fun t179 =>
 BR t179 (
 OP (ad .sub x8 x7) fun t187 =>
 OP (ad .add t187 (.int .i64 1)) fun t188 =>
 R F.i #[(.int .i64 1), x6, t188] M3 fun t189 M14 =>
 OP (st 3 x3 t189 M14) fun M15 =>
 OP (ld 3 true x3 M15) fun r3_1 =>
 NTs [(.slice none 0 0), r3_1] ∧ Q (.tuple #[(.slice none 0 0), r3_1]) M15
 ) (
 OP (ad .gtr t46 (.int .u8 126)) fun t182 =>
 BR t182 (
 OP (ad .sub x8 x7) fun t187_1 =>
 OP (ad .add t187_1 (.int .i64 1)) fun t188_1 =>
 R F.i #[(.int .i64 1), x6, t188_1] M3 fun t189_1 M16 =>
 OP (st 3 x3 t189_1 M16) fun M17 =>
 OP (ld 3 true x3 M17) fun r3_2 =>
 NTs [(.slice none 0 0), r3_2] ∧ Q (.tuple #[(.slice none 0 0), r3_2]) M17
 ) (
 d6 x0 x3 x4 x5 x6 x7 x8 t10 x8 M3 Q
 )
 )
 )
 )
 )
 )
 )
theorem z0 (h : rr x0 x3 x4 x5 x6 x7 x8 M Q) : lw x0 x3 x4 x5 x6 x7 x8 M Q := by
 rintro f rfl rfl rfl rfl rfl rfl rfl
 exact ru (N := 192) (ct := (.two .no (.two .no (.two (.two .no (.two .no (.two .no (.two (.two (.here 1000) .no) (.two .no (.two .no (.two .no (.two .no (.two .no (.two .no (.two .no (.two (.two (.here 1001) .no) (.here 1002))))))))))))) .no))))
  [⟨1002, fun a M => dfr a.defers (d4 (a.get 0) (a.get 3) (a.get 4) (a.get 5) (a.get 6) (a.get 7) (a.get 8) M Q), Aa Try.f45 [1, 1, 1, 1, 0, 1, 0, 0, 1, 0, 1, 1, 1, 0, 1, 1, 1, 0, 0] Q⟩,
  ⟨1003, fun a M => dfr a.defers (d6 (a.get 0) (a.get 3) (a.get 4) (a.get 5) (a.get 6) (a.get 7) (a.get 8) (a.get 10) (a.get 15) M Q), Aa Try.f45 [1, 1, 1, 1, 0, 1, 0, 0, 1, 0, 1, 1, 1, 0, 1, 1, 1, 1, 1, 1, 1, 1, 1, 1, 1, 0, 0] Q⟩,
  ⟨1004, fF, Aa Try.f45 [1, 1, 1, 1, 0, 1, 0, 0, 1, 0, 1, 1, 1, 0, 1, 1, 1, 1, 1, 1, 1, 1, 1, 1, 1, 1] Q⟩,
  ⟨0, fun a M => dfr a.defers (an (a.get 0) (a.get 3) (a.get 4) (a.get 5) (a.get 6) (a.get 7) (a.get 8) M Q), Aa Try.f45 [1, 1, 1, 1, 0, 1, 0] Q⟩,
  kE Try.f45 Q 1]
  [1000, 1001, 1002] [0, 1]
  ⟨en fun f M h => h f rfl rfl rfl rfl rfl rfl rfl,
  en fun f M h => h f rfl rfl rfl rfl rfl rfl rfl rfl rfl,
  el,
  en fun f M h => h f rfl rfl rfl rfl rfl rfl rfl,
  er,
  trivial⟩
  h
def lV (x0 x3 x4 x5 x6 x7 x8 : Value) (M : Store) (Q : KP) : Prop :=
 OP (lenV x0) fun t124 =>
 OP (ad .lss x8 t124) fun t125 =>
 BR t125 (
 OP (ixA 1 x0 x8) fun t129 =>
 OP (ld 1 false t129 M) fun t130 =>
 OP (ad .neq t130 (.int .u8 10)) fun t131 =>
 BR t131 (
 OP (ad .add x8 (.int .i64 1)) fun t134 =>
 d4 x0 x3 x4 x5 x6 x7 t134 M Q
 ) (
 an x0 x3 x4 x5 x6 x7 x8 M Q
 )
 ) (
 an x0 x3 x4 x5 x6 x7 x8 M Q
 )
theorem rY (h : lV x0 x3 x4 x5 x6 x7 x8 M Q) : d4 x0 x3 x4 x5 x6 x7 x8 M Q := by
 rintro f rfl rfl rfl rfl rfl rfl rfl
 refine lp ?_
 exact ru (N := 192) (ct := .no)
  [⟨0, fun a M => dfr a.defers (d4 (a.get 0) (a.get 3) (a.get 4) (a.get 5) (a.get 6) (a.get 7) (a.get 8) M Q), Aa Try.f45 [1, 1, 1, 1, 0, 1, 0, 0, 1, 0, 1, 1, 1, 0, 1, 1, 1, 0, 0] Q⟩,
  ⟨7, fun a M => dfr a.defers (an (a.get 0) (a.get 3) (a.get 4) (a.get 5) (a.get 6) (a.get 7) (a.get 8) M Q), Aa Try.f45 [1, 1, 1, 1, 0, 1, 0] Q⟩]
  [] [0, 7]
  ⟨en fun f M h => h f rfl rfl rfl rfl rfl rfl rfl,
  en fun f M h => h f rfl rfl rfl rfl rfl rfl rfl,
  trivial⟩
  h
def lW (x0 x3 x4 x5 x6 x7 x8 x10 x15 : Value) (M : Store) (Q : KP) : Prop :=
 OP (lenV x0) fun t56 =>
 OP (ad .lss x15 t56) fun t57 =>
 BR t57 (
 OP (ixA 1 x0 x15) fun t61 =>
 OP (ld 1 false t61 M) fun t62 =>
 OP (ad .gtr t62 (.int .u8 32)) fun t63 =>
 BR t63 (
 OP (ixA 1 x0 x15) fun t68 =>
 OP (ld 1 false t68 M) fun t69 =>
 OP (ad .lss t69 (.int .u8 127)) fun t70 =>
 BR t70 (
 OP (ixA 1 x0 x15) fun t75 =>
 OP (ld 1 false t75 M) fun t76 =>
 OP (ad .neq t76 (.int .u8 34)) fun t77 =>
 BR t77 (
 OP (ixA 1 x0 x15) fun t82 =>
 OP (ld 1 false t82 M) fun t83 =>
 R F.z #[t83] M fun t84 M1 =>
 OP (aun .not t84) fun t85 =>
 BR t85 (
 OP (ad .add x15 (.int .i64 1)) fun t88 =>
 d6 x0 x3 x4 x5 x6 x7 x8 x10 t88 M1 Q
 ) (
 br x0 x3 x4 x5 x6 x7 x8 x10 x15 M1 Q
 )
 ) (
 br x0 x3 x4 x5 x6 x7 x8 x10 x15 M Q
 )
 ) (
 br x0 x3 x4 x5 x6 x7 x8 x10 x15 M Q
 )
 ) (
 br x0 x3 x4 x5 x6 x7 x8 x10 x15 M Q
 )
 ) (
 br x0 x3 x4 x5 x6 x7 x8 x10 x15 M Q
 )
theorem rZ (h : lW x0 x3 x4 x5 x6 x7 x8 x10 x15 M Q) : d6 x0 x3 x4 x5 x6 x7 x8 x10 x15 M Q := by
 rintro f rfl rfl rfl rfl rfl rfl rfl rfl rfl
 refine lp ?_
 exact ru (N := 192) (ct := .no)
  [⟨0, fun a M => dfr a.defers (d6 (a.get 0) (a.get 3) (a.get 4) (a.get 5) (a.get 6) (a.get 7) (a.get 8) (a.get 10) (a.get 15) M Q), Aa Try.f45 [1, 1, 1, 1, 0, 1, 0, 0, 1, 0, 1, 1, 1, 0, 1, 1, 1, 1, 1, 1, 1, 1, 1, 1, 1, 0, 0] Q⟩,
  ⟨5, fun a M => dfr a.defers (br (a.get 0) (a.get 3) (a.get 4) (a.get 5) (a.get 6) (a.get 7) (a.get 8) (a.get 10) (a.get 15) M Q), Aa Try.f45 [1, 1, 1, 1, 0, 1, 0, 0, 1, 0, 1, 1, 1, 0, 1, 1, 1, 1, 1, 1, 1, 1, 1, 1, 1, 1] Q⟩]
  [] [0, 5]
  ⟨en fun f M h => h f rfl rfl rfl rfl rfl rfl rfl rfl rfl,
  en fun f M h => h f rfl rfl rfl rfl rfl rfl rfl rfl rfl,
  trivial⟩
  h
def rt (x0 x3 x4 x5 x6 x7 x8 x10 x15 : Value) (M : Store) (Q : KP) : Prop :=
 OP (slV 1 Ty.o x0 (some x8) (some x15) M) fun t92 =>
 OP (pw t92 M) fun t93 =>
 OP (fad 0 x10) fun t94 =>
 OP (st 1 t94 t93 M) fun M1 =>
 OP (fad 0 x10) fun t95 =>
 OP (ld 1 false t95 M1) fun t96 =>
 OP (iH t96) fun t97 =>
 OP (ad .gtr t97 (.int .i64 64)) fun t98 =>
 BR t98 (
 OP (ad .sub x8 x7) fun t102 =>
 OP (ad .add t102 (.int .i64 1)) fun t103 =>
 R F.i #[(.int .i64 3), x6, t103] M1 fun t104 M2 =>
 OP (st 3 x3 t104 M2) fun M3 =>
 OP (ld 3 true x3 M3) fun r3 =>
 NTs [(.slice none 0 0), r3] ∧ Q (.tuple #[(.slice none 0 0), r3]) M3
 ) (
 OP (ld 4 true x10 M1) fun t106 =>
 OP (al (.agg #[(.string ⟨#[]⟩), (.int .i64 0), (.int .i64 0), (.bool false)]) 4 1 [(0, t106)]) fun c =>
 LT (.slice (some ⟨M1.n, 0, none⟩) 1 1) (M1.push (some (.inl (c, Ty.c, true)))) fun t107 M4 =>
 OP2 (appV 4 Ty.c x5 t107 M4) fun t108 M5 =>
 an x0 x3 x4 t108 x6 x7 x15 M5 Q
 )
theorem z3 (h : rt x0 x3 x4 x5 x6 x7 x8 x10 x15 M Q) : br x0 x3 x4 x5 x6 x7 x8 x10 x15 M Q := by
 rintro f rfl rfl rfl rfl rfl rfl rfl rfl rfl
 exact ru (N := 192) (ct := .no)
  [⟨0, fun a M => dfr a.defers (an (a.get 0) (a.get 3) (a.get 4) (a.get 5) (a.get 6) (a.get 7) (a.get 8) M Q), Aa Try.f45 [1, 1, 1, 1, 0, 1, 0] Q⟩,
  kE Try.f45 Q 1]
  [] [0, 1]
  ⟨en fun f M h => h f rfl rfl rfl rfl rfl rfl rfl,
  er,
  trivial⟩
  h
def vo (x0 x1 x2 : Value) (M : Store) (Q : KP) : Prop :=
 LT (.pointer (some ⟨M.n, 0, none⟩)) (M.push (some (.inl ([(.int .i64 0), (.int .i64 0), (.int .i64 0)], Ty.h, true)))) fun t6 M1 =>
 OP (bB #[(.int .i64 0), (.int .i64 0), (.int .i64 0)] [(0, 1), (1, 1), (2, 1)] [(0, x0), (1, x1), (2, x2)]) fun t10 =>
 OP (st 3 t6 t10 M1) fun M2 =>
 OP (ld 3 true t6 M2) fun r6 =>
 NTs [r6] ∧ Q r6 M2
theorem CS (h : vo x0 x1 x2 M Q) : R F.i #[x0, x1, x2] M Q := by
 refine ro Try.func49 ?_
 exact ru (N := 11) (ct := .no)
  [kE Try.f49 Q 1]
  [] [1]
  ⟨er,
  trivial⟩
  h
def xO (x0 : Value) (M : Store) (Q : KP) : Prop :=
 OP (ad .eql x0 (.int .u8 58)) fun t4 =>
 BR t4 (
 NTs [(.bool true)] ∧ Q (.bool true) M
 ) (
 OP (ad .eql x0 (.int .u8 124)) fun t7 =>
 BR t7 (
 NTs [(.bool true)] ∧ Q (.bool true) M
 ) (
 OP (ad .eql x0 (.int .u8 61)) fun t11 =>
 BR t11 (
 NTs [(.bool true)] ∧ Q (.bool true) M
 ) (
 OP (ad .eql x0 (.int .u8 59)) fun t15 =>
 BR t15 (
 NTs [(.bool true)] ∧ Q (.bool true) M
 ) (
 OP (ad .eql x0 (.int .u8 44)) fun t19 =>
 NTs [t19] ∧ Q t19 M
 )
 )
 )
 )
theorem Ew (h : xO x0 M Q) : R F.z #[x0] M Q := by
 refine ro Try.func62 ?_
 exact ru (N := 21) (ct := .no)
  [kE Try.f62 Q 1]
  [] [1]
  ⟨er,
  trivial⟩
  h
def aN (x0 x1 x5 x6 x10 x11 : Value) (M : Store) (Q : KP) : Prop :=
 ∀ f : Nat → Value, f 0 = x0 → f 1 = x1 → f 5 = x5 → f 6 = x6 → f 10 = x10 → f 11 = x11 → An Try.f63 [1, 1, 0, 0] 87 f M Q
def j4 (x0 x1 x5 x6 x10 x11 : Value) (M : Store) (Q : KP) : Prop :=
 ∀ f : Nat → Value, f 0 = x0 → f 1 = x1 → f 5 = x5 → f 6 = x6 → f 10 = x10 → f 11 = x11 → An Try.f63 [1, 1, 0, 0, 0, 1] 87 f M Q
def dq (x0 x1 x5 x6 x10 x11 : Value) (M : Store) (Q : KP) : Prop :=
 ∀ f : Nat → Value, f 0 = x0 → f 1 = x1 → f 5 = x5 → f 6 = x6 → f 10 = x10 → f 11 = x11 → An Try.f63 [1, 1, 1] 87 f M Q
def tC (x0 x1 x2 : Value) (M : Store) (Q : KP) : Prop :=
 OP (aX x2) fun c =>
 LT (.pointer (some ⟨M.n, 0, none⟩)) (M.push (some (.inl (c, Ty.c, true)))) fun t5 M1 =>
 LT (.pointer (some ⟨M1.n, 0, none⟩)) (M1.push (some (.inl ([(.string ⟨#[]⟩), (.int .i64 0), (.int .i64 0), (.bool false)], Ty.c, true)))) fun t6 M2 =>
 OP (ad .add x1 (.int .i64 1)) fun t13 =>
 aN x0 x1 t5 t6 t13 (.int .i64 (-1)) M2 Q
theorem Bh (h : tC x0 x1 x2 M Q) : R F.N #[x0, x1, x2] M Q := by
 refine ro Try.func63 ?_
 exact ru (N := 87) (ct := (.two .no (.two .no (.two (.two (.here 1000) .no) (.here 1001)))))
  [⟨1002, fun a M => dfr a.defers (aN (a.get 0) (a.get 1) (a.get 5) (a.get 6) (a.get 10) (a.get 11) M Q), Aa Try.f63 [1, 1, 0, 0] Q⟩,
  ⟨1003, fF, Aa Try.f63 [1, 1, 1] Q⟩]
  [1000, 1001] []
  ⟨en fun f M h => h f rfl rfl rfl rfl rfl rfl,
  el,
  trivial⟩
  h
def ka (x0 x1 x5 x6 x10 x11 : Value) (M : Store) (Q : KP) : Prop :=
 OP (lenV x0) fun t16 =>
 OP (ad .lss x10 t16) fun t17 =>
 BR t17 (
 OP (ixA 1 x0 x10) fun t21 =>
 OP (ld 1 false t21 M) fun t22 =>
 OP (ad .neq t22 (.int .u8 34)) fun t23 =>
 BR t23 (
 OP (ixA 1 x0 x10) fun t28 =>
 OP (ld 1 false t28 M) fun t29 =>
 OP (ad .neq t29 (.int .u8 10)) fun t30 =>
 BR t30 (
 j4 x0 x1 x5 x6 x10 x11 M Q
 ) (
 dq x0 x1 x5 x6 x10 x11 M Q
 )
 ) (
 dq x0 x1 x5 x6 x10 x11 M Q
 )
 ) (
 dq x0 x1 x5 x6 x10 x11 M Q
 )
theorem qs (h : ka x0 x1 x5 x6 x10 x11 M Q) : aN x0 x1 x5 x6 x10 x11 M Q := by
 rintro f rfl rfl rfl rfl rfl rfl
 refine lp ?_
 exact ru (N := 87) (ct := (.two .no (.here 1000)))
  [⟨1002, fun a M => dfr a.defers (j4 (a.get 0) (a.get 1) (a.get 5) (a.get 6) (a.get 10) (a.get 11) M Q), Aa Try.f63 [1, 1, 0, 0, 0, 1] Q⟩,
  ⟨2, fun a M => dfr a.defers (dq (a.get 0) (a.get 1) (a.get 5) (a.get 6) (a.get 10) (a.get 11) M Q), Aa Try.f63 [1, 1, 1] Q⟩]
  [1000] [2]
  ⟨en fun f M h => h f rfl rfl rfl rfl rfl rfl,
  en fun f M h => h f rfl rfl rfl rfl rfl rfl,
  trivial⟩
  h
def qi (x0 x1 x5 x6 x10 x11 : Value) (M : Store) (Q : KP) : Prop :=
 OP (ad .lss x11 (.int .i64 0)) fun t33 =>
 BR t33 (
 OP (ixA 1 x0 x10) fun t37 =>
 OP (ld 1 false t37 M) fun t38 =>
 OP (ad .lss t38 (.int .u8 32)) fun t39 =>
 BR3 t39 (
 OP (ad .add x10 (.int .i64 1)) fun t50 =>
 aN x0 x1 x5 x6 t50 x10 M Q
 ) (
 OP (ixA 1 x0 x10) fun t43 =>
 OP (ld 1 false t43 M) fun t44 =>
 OP (ad .gtr t44 (.int .u8 126)) fun t45 =>
 BR t45 (
 OP (ad .add x10 (.int .i64 1)) fun t50_1 =>
 aN x0 x1 x5 x6 t50_1 x10 M Q
 ) (
 OP (ad .add x10 (.int .i64 1)) fun t50_2 =>
 aN x0 x1 x5 x6 t50_2 x11 M Q
 )
 ) (
 BR t39 (
 OP (ad .add x10 (.int .i64 1)) fun t50_3 =>
 aN x0 x1 x5 x6 t50_3 x10 M Q
 ) (
 BR undef (
 OP (ad .add x10 (.int .i64 1)) fun t50_4 =>
 aN x0 x1 x5 x6 t50_4 x10 M Q
 ) (
 OP (ad .add x10 (.int .i64 1)) fun t50_5 =>
 aN x0 x1 x5 x6 t50_5 x11 M Q
 )
 )
 )
 ) (
 OP (ad .add x10 (.int .i64 1)) fun t50_6 =>
 aN x0 x1 x5 x6 t50_6 x11 M Q
 )
theorem yU (h : qi x0 x1 x5 x6 x10 x11 M Q) : j4 x0 x1 x5 x6 x10 x11 M Q := by
 rintro f rfl rfl rfl rfl rfl rfl
 exact ru (N := 87) (ct := .no)
  [⟨0, fun a M => dfr a.defers (aN (a.get 0) (a.get 1) (a.get 5) (a.get 6) (a.get 10) (a.get 11) M Q), Aa Try.f63 [1, 1, 0, 0] Q⟩]
  [] [0]
  ⟨en fun f M h => h f rfl rfl rfl rfl rfl rfl,
  trivial⟩
  h
def qj (x0 x1 x5 x6 x10 x11 : Value) (M : Store) (Q : KP) : Prop :=
 OP (lenV x0) fun t53 =>
 OP (ad .eql x10 t53) fun t54 =>
 BR t54 (
 OP (ld 4 true x5 M) fun t62 =>
 OP (st 4 x6 t62 M) fun M1 =>
 OP (ld 4 true x6 M1) fun r6 =>
 NTs [r6, (.int .i64 0), (.int .i64 2), x1] ∧ Q (.tuple #[r6, (.int .i64 0), (.int .i64 2), x1]) M1
 ) (
 OP (ixA 1 x0 x10) fun t58 =>
 OP (ld 1 false t58 M) fun t59 =>
 OP (ad .eql t59 (.int .u8 10)) fun t60 =>
 BR t60 (
 OP (ld 4 true x5 M) fun t62_1 =>
 OP (st 4 x6 t62_1 M) fun M2 =>
 OP (ld 4 true x6 M2) fun r6_1 =>
 NTs [r6_1, (.int .i64 0), (.int .i64 2), x1] ∧ Q (.tuple #[r6_1, (.int .i64 0), (.int .i64 2), x1]) M2
 ) (
 OP (ad .add x1 (.int .i64 1)) fun t66 =>
 OP (slV 1 Ty.o x0 (some t66) (some x10) M) fun t68 =>
 OP (pw t68 M) fun t69 =>
 OP (fad 0 x5) fun t70 =>
 OP (st 1 t70 t69 M) fun M3 =>
 OP (fad 3 x5) fun t71 =>
 OP (st 1 t71 (.bool true) M3) fun M4 =>
 OP (fad 0 x5) fun t73 =>
 OP (ld 1 false t73 M4) fun t74 =>
 OP (iH t74) fun t75 =>
 OP (ad .gtr t75 (.int .i64 64)) fun t76 =>
 BR t76 (
 OP (ld 4 true x5 M4) fun t77 =>
 OP (st 4 x6 t77 M4) fun M5 =>
 OP (ld 4 true x6 M5) fun r6_2 =>
 NTs [r6_2, (.int .i64 0), (.int .i64 3), x1] ∧ Q (.tuple #[r6_2, (.int .i64 0), (.int .i64 3), x1]) M5
 ) (
 OP (ad .geq x11 (.int .i64 0)) fun t81 =>
 BR t81 (
 OP (ld 4 true x5 M4) fun t82 =>
 OP (st 4 x6 t82 M4) fun M6 =>
 OP (ld 4 true x6 M6) fun r6_3 =>
 NTs [r6_3, (.int .i64 0), (.int .i64 1), x11] ∧ Q (.tuple #[r6_3, (.int .i64 0), (.int .i64 1), x11]) M6
 ) (
 OP (ld 4 true x5 M4) fun t84 =>
 OP (ad .add x10 (.int .i64 1)) fun t86 =>
 OP (st 4 x6 t84 M4) fun M7 =>
 OP (ld 4 true x6 M7) fun r6_4 =>
 NTs [r6_4, t86, (.int .i64 0), (.int .i64 0)] ∧ Q (.tuple #[r6_4, t86, (.int .i64 0), (.int .i64 0)]) M7
 )
 )
 )
 )
theorem yV (h : qj x0 x1 x5 x6 x10 x11 M Q) : dq x0 x1 x5 x6 x10 x11 M Q := by
 rintro f rfl rfl rfl rfl rfl rfl
 exact ru (N := 87) (ct := .no)
  [kE Try.f63 Q 1]
  [] [1]
  ⟨er,
  trivial⟩
  h
end Go.G

open Go.RowKit
namespace Go.G
open Go.Ab Go.Proofs
set_option linter.unusedVariables false
set_option maxRecDepth 100000
variable {x0 x3 : Value} {M : Store} {Q : KP}
def aB (x0 x3 : Value) (M : Store) (Q : KP) : Prop :=
 ∀ f : Nat → Value, f 0 = x0 → f 3 = x3 → An Try.f82 [1, 0, 1, 0] 49 f M Q
def qF (x0 x3 : Value) (M : Store) (Q : KP) : Prop :=
 ∀ f : Nat → Value, f 0 = x0 → f 3 = x3 → An Try.f82 [1, 0, 1, 0, 0, 1] 49 f M Q
def qG (x0 : Value) (M : Store) (Q : KP) : Prop :=
 ∀ f : Nat → Value, f 0 = x0 → An Try.f82 [1, 1] 49 f M Q
def B9 (x0 : Value) (M : Store) (Q : KP) : Prop :=
 aB x0 (.int .i64 0) M Q
theorem Hb (h : B9 x0 M Q) : R F.h1 #[x0] M Q := by
 refine ro Try.func82 ?_
 exact ru (N := 49) (ct := (.two .no (.two (.two .no (.two (.here 1000) .no)) (.here 1001))))
  [⟨1002, fun a M => dfr a.defers (aB (a.get 0) (a.get 3) M Q), Aa Try.f82 [1, 0, 1, 0] Q⟩,
  ⟨1003, fF, Aa Try.f82 [1, 1] Q⟩]
  [1000, 1001] []
  ⟨en fun f M h => h f rfl rfl,
  el,
  trivial⟩
  h
def q8 (x0 x3 : Value) (M : Store) (Q : KP) : Prop :=
 OP (iH x0) fun t7 =>
 OP (ad .lss x3 t7) fun t8 =>
 BR t8 (
 qF x0 x3 M Q
 ) (
 qG x0 M Q
 )
theorem xX (h : q8 x0 x3 M Q) : aB x0 x3 M Q := by
 rintro f rfl rfl
 refine lp ?_
 exact ru (N := 49) (ct := (.two .no (.here 1000)))
  [⟨1002, fun a M => dfr a.defers (qF (a.get 0) (a.get 3) M Q), Aa Try.f82 [1, 0, 1, 0, 0, 1] Q⟩,
  ⟨2, fun a M => dfr a.defers (qG (a.get 0) M Q), Aa Try.f82 [1, 1] Q⟩]
  [1000] [2]
  ⟨en fun f M h => h f rfl rfl,
  en fun f M h => h f rfl,
  trivial⟩
  h
def lP (Q : KP) (M : Store) (x3 : Value) (x0 : Value) : Prop :=
 OP (aun .not (.bool true)) fun t40_8 =>
 BR t40_8 (
 NTs [(.bool false)] ∧ Q (.bool false) M
 ) (
 OP (ad .add x3 (.int .i64 1)) fun t10_8 =>
 aB x0 t10_8 M Q
 )
def zn (t13 : Value) (Q : KP) (M : Store) (x3 : Value) (x0 : Value) : Prop :=
 OP (ad .eql t13 (.int .u8 95)) fun t38_2 =>
 OP (aun .not t38_2) fun t40_11 =>
 BR t40_11 (
 NTs [(.bool false)] ∧ Q (.bool false) M
 ) (
 OP (ad .add x3 (.int .i64 1)) fun t10_11 =>
 aB x0 t10_11 M Q
 )
def zo (t13 : Value) (Q : KP) (M : Store) (x3 : Value) (x0 : Value) : Prop :=
 OP (ad .eql t13 (.int .u8 45)) fun t34_2 =>
 BR t34_2 (
 lP Q M x3 x0
 ) (
 zn t13 Q M x3 x0
 )
def q9 (t13 : Value) (Q : KP) (M : Store) (x3 : Value) (x0 : Value) : Prop :=
 OP (ad .eql t13 (.int .u8 46)) fun t30_2 =>
 BR t30_2 (
 lP Q M x3 x0
 ) (
 zo t13 Q M x3 x0
 )
def zp (Q : KP) (M : Store) (x3 : Value) (x0 : Value) (t13 : Value) : Prop :=
 BR undef (
 lP Q M x3 x0
 ) (
 q9 t13 Q M x3 x0
 )
def ra (t22 : Value) (Q : KP) (M : Store) (x3 : Value) (x0 : Value) (t13 : Value) : Prop :=
 BR t22 (
 zp Q M x3 x0 t13
 ) (
 q9 t13 Q M x3 x0
 )
def xM (x0 x3 : Value) (M : Store) (Q : KP) : Prop :=
 OP (ixS x0 x3) fun t13 =>
 OP (ad .geq t13 (.int .u8 97)) fun t15 =>
 BR t15 (
 OP (ad .leq t13 (.int .u8 122)) fun t18 =>
 BR t18 (
 OP (aun .not (.bool true)) fun t40 =>
 BR t40 (
 NTs [(.bool false)] ∧ Q (.bool false) M
 ) (
 OP (ad .add x3 (.int .i64 1)) fun t10 =>
 aB x0 t10 M Q
 )
 ) (
 OP (ad .geq t13 (.int .u8 48)) fun t22 =>
 BR3 t22 (
 OP (ad .leq t13 (.int .u8 57)) fun t25 =>
 BR t25 (
 OP (aun .not (.bool true)) fun t40_1 =>
 BR t40_1 (
 NTs [(.bool false)] ∧ Q (.bool false) M
 ) (
 OP (ad .add x3 (.int .i64 1)) fun t10_1 =>
 aB x0 t10_1 M Q
 )
 ) (
 OP (ad .eql t13 (.int .u8 46)) fun t30 =>
 BR t30 (
 OP (aun .not (.bool true)) fun t40_2 =>
 BR t40_2 (
 NTs [(.bool false)] ∧ Q (.bool false) M
 ) (
 OP (ad .add x3 (.int .i64 1)) fun t10_2 =>
 aB x0 t10_2 M Q
 )
 ) (
 OP (ad .eql t13 (.int .u8 45)) fun t34 =>
 BR t34 (
 OP (aun .not (.bool true)) fun t40_3 =>
 BR t40_3 (
 NTs [(.bool false)] ∧ Q (.bool false) M
 ) (
 OP (ad .add x3 (.int .i64 1)) fun t10_3 =>
 aB x0 t10_3 M Q
 )
 ) (
 OP (ad .eql t13 (.int .u8 95)) fun t38 =>
 OP (aun .not t38) fun t40_4 =>
 BR t40_4 (
 NTs [(.bool false)] ∧ Q (.bool false) M
 ) (
 OP (ad .add x3 (.int .i64 1)) fun t10_4 =>
 aB x0 t10_4 M Q
 )
 )
 )
 )
 ) (
 OP (ad .eql t13 (.int .u8 46)) fun t30_1 =>
 BR t30_1 (
 OP (aun .not (.bool true)) fun t40_5 =>
 BR t40_5 (
 NTs [(.bool false)] ∧ Q (.bool false) M
 ) (
 OP (ad .add x3 (.int .i64 1)) fun t10_5 =>
 aB x0 t10_5 M Q
 )
 ) (
 OP (ad .eql t13 (.int .u8 45)) fun t34_1 =>
 BR t34_1 (
 OP (aun .not (.bool true)) fun t40_6 =>
 BR t40_6 (
 NTs [(.bool false)] ∧ Q (.bool false) M
 ) (
 OP (ad .add x3 (.int .i64 1)) fun t10_6 =>
 aB x0 t10_6 M Q
 )
 ) (
 OP (ad .eql t13 (.int .u8 95)) fun t38_1 =>
 OP (aun .not t38_1) fun t40_7 =>
 BR t40_7 (
 NTs [(.bool false)] ∧ Q (.bool false) M
 ) (
 OP (ad .add x3 (.int .i64 1)) fun t10_7 =>
 aB x0 t10_7 M Q
 )
 )
 )
 ) (
 ra t22 Q M x3 x0 t13
 )
 )
 ) (
 OP (ad .geq t13 (.int .u8 48)) fun t22_1 =>
 BR3 t22_1 (
 OP (ad .leq t13 (.int .u8 57)) fun t25_1 =>
 BR t25_1 (
 OP (aun .not (.bool true)) fun t40_15 =>
 BR t40_15 (
 NTs [(.bool false)] ∧ Q (.bool false) M
 ) (
 OP (ad .add x3 (.int .i64 1)) fun t10_15 =>
 aB x0 t10_15 M Q
 )
 ) (
 OP (ad .eql t13 (.int .u8 46)) fun t30_4 =>
 BR t30_4 (
 OP (aun .not (.bool true)) fun t40_16 =>
 BR t40_16 (
 NTs [(.bool false)] ∧ Q (.bool false) M
 ) (
 OP (ad .add x3 (.int .i64 1)) fun t10_16 =>
 aB x0 t10_16 M Q
 )
 ) (
 OP (ad .eql t13 (.int .u8 45)) fun t34_4 =>
 BR t34_4 (
 OP (aun .not (.bool true)) fun t40_17 =>
 BR t40_17 (
 NTs [(.bool false)] ∧ Q (.bool false) M
 ) (
 OP (ad .add x3 (.int .i64 1)) fun t10_17 =>
 aB x0 t10_17 M Q
 )
 ) (
 OP (ad .eql t13 (.int .u8 95)) fun t38_4 =>
 OP (aun .not t38_4) fun t40_18 =>
 BR t40_18 (
 NTs [(.bool false)] ∧ Q (.bool false) M
 ) (
 OP (ad .add x3 (.int .i64 1)) fun t10_18 =>
 aB x0 t10_18 M Q
 )
 )
 )
 )
 ) (
 OP (ad .eql t13 (.int .u8 46)) fun t30_5 =>
 BR t30_5 (
 OP (aun .not (.bool true)) fun t40_19 =>
 BR t40_19 (
 NTs [(.bool false)] ∧ Q (.bool false) M
 ) (
 OP (ad .add x3 (.int .i64 1)) fun t10_19 =>
 aB x0 t10_19 M Q
 )
 ) (
 OP (ad .eql t13 (.int .u8 45)) fun t34_5 =>
 BR t34_5 (
 OP (aun .not (.bool true)) fun t40_20 =>
 BR t40_20 (
 NTs [(.bool false)] ∧ Q (.bool false) M
 ) (
 OP (ad .add x3 (.int .i64 1)) fun t10_20 =>
 aB x0 t10_20 M Q
 )
 ) (
 OP (ad .eql t13 (.int .u8 95)) fun t38_5 =>
 OP (aun .not t38_5) fun t40_21 =>
 BR t40_21 (
 NTs [(.bool false)] ∧ Q (.bool false) M
 ) (
 OP (ad .add x3 (.int .i64 1)) fun t10_21 =>
 aB x0 t10_21 M Q
 )
 )
 )
 ) (
 ra t22_1 Q M x3 x0 t13
 )
 )
theorem Eu (h : xM x0 x3 M Q) : qF x0 x3 M Q := by
 rintro f rfl rfl
 exact ru (N := 49) (ct := .no)
  [⟨0, fun a M => dfr a.defers (aB (a.get 0) (a.get 3) M Q), Aa Try.f82 [1, 0, 1, 0] Q⟩,
  kE Try.f82 Q 1]
  [] [0, 1]
  ⟨en fun f M h => h f rfl rfl,
  er,
  trivial⟩
  h
def xN (x0 : Value) (M : Store) (Q : KP) : Prop :=
 OP (iH x0) fun t42 =>
 OP (ad .geq t42 (.int .i64 1)) fun t43 =>
 BR t43 (
 OP (iH x0) fun t46 =>
 OP (ad .leq t46 (.int .i64 16)) fun t47 =>
 NTs [t47] ∧ Q t47 M
 ) (
 NTs [(.bool false)] ∧ Q (.bool false) M
 )
theorem Ev (h : xN x0 M Q) : qG x0 M Q := by
 rintro f rfl
 exact ru (N := 49) (ct := .no)
  [kE Try.f82 Q 1]
  [] [1]
  ⟨er,
  trivial⟩
  h
end Go.G

open Go.RowKit
namespace Go.G
open Go.Ab Go.Proofs
set_option linter.unusedVariables false
set_option maxRecDepth 100000
variable {x0 x1 x2 x3 x4 x5 x6 x7 x37 x42 x61 : Value} {M : Store} {Q : KP}
def Ca (x0 x1 : Value) (M : Store) (Q : KP) : Prop :=
 OP (aX x0) fun c =>
 LT (.pointer (some ⟨M.n, 0, none⟩)) (M.push (some (.inl (c, Ty.c, true)))) fun t2 M1 =>
 OP (fad 0 t2) fun t5 =>
 OP (ld 1 false t5 M1) fun t6 =>
 OP (ao .eql t6 x1) fun t8 =>
 BR t8 (
 OP (fad 3 t2) fun t10 =>
 OP (ld 1 false t10 M1) fun t11 =>
 OP (aun .not t11) fun t12 =>
 NTs [t12] ∧ Q t12 M1
 ) (
 NTs [(.bool false)] ∧ Q (.bool false) M1
 )
theorem Hc (h : Ca x0 x1 M Q) : R F.j #[x0, x1] M Q := by
 refine ro Try.func65 ?_
 exact ru (N := 14) (ct := .no)
  [kE Try.f65 Q 1]
  [] [1]
  ⟨er,
  trivial⟩
  h
def cI (x0 x4 x5 x6 : Value) (M : Store) (Q : KP) : Prop :=
 ∀ f : Nat → Value, f 0 = x0 → f 4 = x4 → f 5 = x5 → f 6 = x6 → An Try.f86 [1, 1, 1, 0, 1, 0] 47 f M Q
def hY (x0 x4 x5 x6 : Value) (M : Store) (Q : KP) : Prop :=
 ∀ f : Nat → Value, f 0 = x0 → f 4 = x4 → f 5 = x5 → f 6 = x6 → An Try.f86 [1, 1, 1, 0, 1, 0, 0, 1] 47 f M Q
def fc (x4 : Value) (M : Store) (Q : KP) : Prop :=
 ∀ f : Nat → Value, f 4 = x4 → An Try.f86 [1, 1, 1, 1] 47 f M Q
def dA (x0 x4 x5 x6 : Value) (M : Store) (Q : KP) : Prop :=
 ∀ f : Nat → Value, f 0 = x0 → f 4 = x4 → f 5 = x5 → f 6 = x6 → An Try.f86 [1, 1, 1, 0, 1, 0, 0, 1, 0, 0, 1] 47 f M Q
def cJ (x0 x4 x5 x6 : Value) (M : Store) (Q : KP) : Prop :=
 ∀ f : Nat → Value, f 0 = x0 → f 4 = x4 → f 5 = x5 → f 6 = x6 → An Try.f86 [1, 1, 1, 0, 1, 0, 0, 1, 1] 47 f M Q
def qh (x0 : Value) (M : Store) (Q : KP) : Prop :=
 cI x0 (.slice none 0 0) (.int .i64 0) (.int .i64 0) M Q
theorem yT (h : qh x0 M Q) : R F.x #[x0] M Q := by
 refine ro Try.func86 ?_
 exact ru (N := 47) (ct := (.two .no (.two .no (.two .no (.two (.two .no (.two (.here 1000) .no)) (.here 1001))))))
  [⟨1002, fun a M => dfr a.defers (cI (a.get 0) (a.get 4) (a.get 5) (a.get 6) M Q), Aa Try.f86 [1, 1, 1, 0, 1, 0] Q⟩,
  ⟨1003, fF, Aa Try.f86 [1, 1, 1, 1] Q⟩]
  [1000, 1001] []
  ⟨en fun f M h => h f rfl rfl rfl rfl,
  el,
  trivial⟩
  h
def fe (x0 x4 x5 x6 : Value) (M : Store) (Q : KP) : Prop :=
 OP (lenV x0) fun t11 =>
 OP (ad .leq x6 t11) fun t12 =>
 BR t12 (
 hY x0 x4 x5 x6 M Q
 ) (
 fc x4 M Q
 )
theorem iA (h : fe x0 x4 x5 x6 M Q) : cI x0 x4 x5 x6 M Q := by
 rintro f rfl rfl rfl rfl
 refine lp ?_
 exact ru (N := 47) (ct := (.two .no (.here 1000)))
  [⟨1002, fun a M => dfr a.defers (hY (a.get 0) (a.get 4) (a.get 5) (a.get 6) M Q), Aa Try.f86 [1, 1, 1, 0, 1, 0, 0, 1] Q⟩,
  ⟨2, fun a M => dfr a.defers (fc (a.get 4) M Q), Aa Try.f86 [1, 1, 1, 1] Q⟩]
  [1000] [2]
  ⟨en fun f M h => h f rfl rfl rfl rfl,
  en fun f M h => h f rfl,
  trivial⟩
  h
def iq (x0 x4 x5 x6 : Value) (M : Store) (Q : KP) : Prop :=
 OP (lenV x0) fun t17 =>
 OP (ad .lss x6 t17) fun t18 =>
 BR t18 (
 OP (ixA 4 x0 x6) fun t22 =>
 OP (ld 4 true t22 M) fun t23 =>
 R F.j #[t23, (.string ⟨#[59]⟩)] M fun t24 M1 =>
 OP (aun .not t24) fun t25 =>
 BR t25 (
 cJ x0 x4 x5 x6 M1 Q
 ) (
 dA x0 x4 x5 x6 M1 Q
 )
 ) (
 dA x0 x4 x5 x6 M Q
 )
theorem mX (h : iq x0 x4 x5 x6 M Q) : hY x0 x4 x5 x6 M Q := by
 rintro f rfl rfl rfl rfl
 exact ru (N := 47) (ct := (.two (.two (.two .no (.here 1000)) .no) (.here 1001)))
  [⟨1002, fun a M => dfr a.defers (dA (a.get 0) (a.get 4) (a.get 5) (a.get 6) M Q), Aa Try.f86 [1, 1, 1, 0, 1, 0, 0, 1, 0, 0, 1] Q⟩,
  ⟨1003, fun a M => dfr a.defers (cJ (a.get 0) (a.get 4) (a.get 5) (a.get 6) M Q), Aa Try.f86 [1, 1, 1, 0, 1, 0, 0, 1, 1] Q⟩]
  [1000, 1001] []
  ⟨en fun f M h => h f rfl rfl rfl rfl,
  en fun f M h => h f rfl rfl rfl rfl,
  trivial⟩
  h
def mR (x4 : Value) (M : Store) (Q : KP) : Prop :=
 R F.T #[x4] M fun t44 M1 =>
 OP (aun .not t44) fun t45 =>
 BR t45 (
 NTs [(.slice none 0 0), (.bool false)] ∧ Q (.tuple #[(.slice none 0 0), (.bool false)]) M1
 ) (
 NTs [x4, (.bool true)] ∧ Q (.tuple #[x4, (.bool true)]) M1
 )
theorem v5 (h : mR x4 M Q) : fc x4 M Q := by
 rintro f rfl
 exact ru (N := 47) (ct := .no)
  [kE Try.f86 Q 1]
  [] [1]
  ⟨er,
  trivial⟩
  h
def mS (x0 x4 x5 x6 : Value) (M : Store) (Q : KP) : Prop :=
 OP (slV 4 Ty.c x0 (some x5) (some x6) M) fun t31 =>
 R F.c1 #[t31] M fun t32 M1 =>
 OP (tup t32 0) fun t33 =>
 OP (tup t32 1) fun t34 =>
 LT (.pointer (some ⟨M1.n, 0, none⟩)) (M1.push (some (.inl ([(.int .i64 0), (.int .i64 0), (.string ⟨#[]⟩)], Ty.f, true)))) fun t7 M2 =>
 OP (st 3 t7 t33 M2) fun M3 =>
 OP (aun .not t34) fun t36 =>
 BR t36 (
 NTs [(.slice none 0 0), (.bool false)] ∧ Q (.tuple #[(.slice none 0 0), (.bool false)]) M3
 ) (
 OP (ld 3 true t7 M3) fun t38 =>
 OP (al (.agg #[(.int .i64 0), (.int .i64 0), (.string ⟨#[]⟩)]) 3 1 [(0, t38)]) fun c =>
 LT (.slice (some ⟨M3.n, 0, none⟩) 1 1) (M3.push (some (.inl (c, Ty.f, true)))) fun t39 M4 =>
 OP2 (appV 3 Ty.f x4 t39 M4) fun t40 M5 =>
 OP (ad .add x6 (.int .i64 1)) fun t42 =>
 cJ x0 t40 t42 x6 M5 Q
 )
theorem v6 (h : mS x0 x4 x5 x6 M Q) : dA x0 x4 x5 x6 M Q := by
 rintro f rfl rfl rfl rfl
 exact ru (N := 47) (ct := .no)
  [⟨0, fun a M => dfr a.defers (cJ (a.get 0) (a.get 4) (a.get 5) (a.get 6) M Q), Aa Try.f86 [1, 1, 1, 0, 1, 0, 0, 1, 1] Q⟩,
  kE Try.f86 Q 1]
  [] [0, 1]
  ⟨en fun f M h => h f rfl rfl rfl rfl,
  er,
  trivial⟩
  h
def ff (x0 x4 x5 x6 : Value) (M : Store) (Q : KP) : Prop :=
 OP (ad .add x6 (.int .i64 1)) fun t14 =>
 cI x0 x4 x5 t14 M Q
theorem iB (h : ff x0 x4 x5 x6 M Q) : cJ x0 x4 x5 x6 M Q := by
 rintro f rfl rfl rfl rfl
 exact ru (N := 47) (ct := .no)
  [⟨0, fun a M => dfr a.defers (cI (a.get 0) (a.get 4) (a.get 5) (a.get 6) M Q), Aa Try.f86 [1, 1, 1, 0, 1, 0] Q⟩]
  [] [0]
  ⟨en fun f M h => h f rfl rfl rfl rfl,
  trivial⟩
  h
def fL (x0 x2 x4 x5 : Value) (M : Store) (Q : KP) : Prop :=
 ∀ f : Nat → Value, f 0 = x0 → f 2 = x2 → f 4 = x4 → f 5 = x5 → An Try.f87 [1, 1, 1, 0, 1, 0] 89 f M Q
def oV (x0 x2 x4 x5 : Value) (M : Store) (Q : KP) : Prop :=
 ∀ f : Nat → Value, f 0 = x0 → f 2 = x2 → f 4 = x4 → f 5 = x5 → An Try.f87 [1, 1, 1, 0, 1, 0, 0, 1] 89 f M Q
def oW (x2 : Value) (M : Store) (Q : KP) : Prop :=
 ∀ f : Nat → Value, f 2 = x2 → An Try.f87 [1, 1, 1, 1] 89 f M Q
def kA (x0 x2 x5 : Value) (M : Store) (Q : KP) : Prop :=
 ∀ f : Nat → Value, f 0 = x0 → f 2 = x2 → f 5 = x5 → An Try.f87 [1, 1, 1, 0, 1, 0, 0, 1, 0, 0, 1] 89 f M Q
def ig (x0 x2 x6 x37 x42 : Value) (M : Store) (Q : KP) : Prop :=
 ∀ f : Nat → Value, f 0 = x0 → f 2 = x2 → f 6 = x6 → f 37 = x37 → f 42 = x42 → An Try.f87 [1, 1, 1, 0, 1, 0, 0, 1, 0, 0, 1, 1, 0, 1, 0, 1] 89 f M Q
def oX (x2 x6 : Value) (M : Store) (Q : KP) : Prop :=
 ∀ f : Nat → Value, f 2 = x2 → f 6 = x6 → An Try.f87 [1, 1, 1, 0, 1, 0, 0, 1, 0, 0, 1, 1, 1] 89 f M Q
def fM (x0 x2 x6 x61 : Value) (M : Store) (Q : KP) : Prop :=
 ∀ f : Nat → Value, f 0 = x0 → f 2 = x2 → f 6 = x6 → f 61 = x61 → An Try.f87 [1, 1, 1, 0, 1, 0, 0, 1, 0, 0, 1, 1, 0, 1, 0, 1, 1, 1] 89 f M Q
def zq (x0 : Value) (M : Store) (Q : KP) : Prop :=
 LT (.pointer (some ⟨M.n, 0, none⟩)) (M.push (some (.inl ([(.int .i64 0), (.int .i64 0), (.string ⟨#[]⟩)], Ty.f, true)))) fun t2 M1 =>
 OP (lenV x0) fun t10 =>
 OP (ad .eql t10 (.int .i64 0)) fun t11 =>
 BR t11 (
 OP (bB #[(.int .i64 0), (.int .i64 0), (.string ⟨#[]⟩)] [(0, 1), (1, 1), (2, 1)] []) fun t18 =>
 OP (st 3 t2 t18 M1) fun M2 =>
 OP (ld 3 true t2 M2) fun r2 =>
 NTs [r2, (.bool false)] ∧ Q (.tuple #[r2, (.bool false)]) M2
 ) (
 OP (ixA 4 x0 (.int .i64 0)) fun t14 =>
 OP (fad 3 t14) fun t15 =>
 OP (ld 1 false t15 M1) fun t16 =>
 BR t16 (
 OP (bB #[(.int .i64 0), (.int .i64 0), (.string ⟨#[]⟩)] [(0, 1), (1, 1), (2, 1)] []) fun t18_1 =>
 OP (st 3 t2 t18_1 M1) fun M3 =>
 OP (ld 3 true t2 M3) fun r2_1 =>
 NTs [r2_1, (.bool false)] ∧ Q (.tuple #[r2_1, (.bool false)]) M3
 ) (
 R F.Y #[] M1 fun t19 M4 =>
 fL x0 t2 t19 (.int .i64 1) M4 Q
 )
 )
theorem FO (h : zq x0 M Q) : R F.c1 #[x0] M Q := by
 refine ro Try.func87 ?_
 exact ru (N := 89) (ct := (.two .no (.two .no (.two .no (.two (.two .no (.two (.here 1000) .no)) (.here 1001))))))
  [⟨1002, fun a M => dfr a.defers (fL (a.get 0) (a.get 2) (a.get 4) (a.get 5) M Q), Aa Try.f87 [1, 1, 1, 0, 1, 0] Q⟩,
  ⟨1003, fF, Aa Try.f87 [1, 1, 1, 1] Q⟩,
  kE Try.f87 Q 1]
  [1000, 1001] [1]
  ⟨en fun f M h => h f rfl rfl rfl rfl,
  el,
  er,
  trivial⟩
  h
def pc (x0 x2 x4 x5 : Value) (M : Store) (Q : KP) : Prop :=
 OP (lenV x4) fun t22 =>
 OP (ad .lss x5 t22) fun t23 =>
 BR t23 (
 oV x0 x2 x4 x5 M Q
 ) (
 oW x2 M Q
 )
theorem v7 (h : pc x0 x2 x4 x5 M Q) : fL x0 x2 x4 x5 M Q := by
 rintro f rfl rfl rfl rfl
 refine lp ?_
 exact ru (N := 89) (ct := (.two .no (.here 1000)))
  [⟨1002, fun a M => dfr a.defers (oV (a.get 0) (a.get 2) (a.get 4) (a.get 5) M Q), Aa Try.f87 [1, 1, 1, 0, 1, 0, 0, 1] Q⟩,
  ⟨2, fun a M => dfr a.defers (oW (a.get 2) M Q), Aa Try.f87 [1, 1, 1, 1] Q⟩]
  [1000] [2]
  ⟨en fun f M h => h f rfl rfl rfl rfl,
  en fun f M h => h f rfl,
  trivial⟩
  h
def vp (x0 x2 x4 x5 : Value) (M : Store) (Q : KP) : Prop :=
 OP (ixA 1 x4 x5) fun t28 =>
 OP (ld 1 false t28 M) fun t29 =>
 OP (ixA 4 x0 (.int .i64 0)) fun t31 =>
 OP (fad 0 t31) fun t32 =>
 OP (ld 1 false t32 M) fun t33 =>
 OP (ao .neq t29 t33) fun t34 =>
 BR t34 (
 OP (ad .add x5 (.int .i64 1)) fun t25 =>
 fL x0 x2 x4 t25 M Q
 ) (
 kA x0 x2 x5 M Q
 )
theorem CU (h : vp x0 x2 x4 x5 M Q) : oV x0 x2 x4 x5 M Q := by
 rintro f rfl rfl rfl rfl
 exact ru (N := 89) (ct := (.two (.two (.two .no (.here 1000)) .no) .no))
  [⟨1002, fun a M => dfr a.defers (kA (a.get 0) (a.get 2) (a.get 5) M Q), Aa Try.f87 [1, 1, 1, 0, 1, 0, 0, 1, 0, 0, 1] Q⟩,
  ⟨0, fun a M => dfr a.defers (fL (a.get 0) (a.get 2) (a.get 4) (a.get 5) M Q), Aa Try.f87 [1, 1, 1, 0, 1, 0] Q⟩]
  [1000] [0]
  ⟨en fun f M h => h f rfl rfl rfl,
  en fun f M h => h f rfl rfl rfl rfl,
  trivial⟩
  h
def vq (x2 : Value) (M : Store) (Q : KP) : Prop :=
 OP (bB #[(.int .i64 0), (.int .i64 0), (.string ⟨#[]⟩)] [(0, 1), (1, 1), (2, 1)] []) fun t88 =>
 OP (st 3 x2 t88 M) fun M1 =>
 OP (ld 3 true x2 M1) fun r2 =>
 NTs [r2, (.bool false)] ∧ Q (.tuple #[r2, (.bool false)]) M1
theorem CV (h : vq x2 M Q) : oW x2 M Q := by
 rintro f rfl
 exact ru (N := 89) (ct := .no)
  [kE Try.f87 Q 1]
  [] [1]
  ⟨er,
  trivial⟩
  h
def vr (x0 x2 x5 : Value) (M : Store) (Q : KP) : Prop :=
 OP (bB #[(.int .i64 0), (.int .i64 0), (.string ⟨#[]⟩)] [(0, 1), (1, 1), (2, 1)] [(0, x5)]) fun t36 =>
 LT (.pointer (some ⟨M.n, 0, none⟩)) (M.push (some (.inl ([(.int .i64 0), (.int .i64 0), (.string ⟨#[]⟩)], Ty.f, true)))) fun t6 M1 =>
 OP (st 3 t6 t36 M1) fun M2 =>
 OP (ad .eql x5 (.int .i64 1)) fun t43 =>
 BR t43 (
 ig x0 x2 t6 x5 t43 M2 Q
 ) (
 OP (ad .eql x5 (.int .i64 10)) fun t44 =>
 ig x0 x2 t6 x5 t44 M2 Q
 )
theorem CX (h : vr x0 x2 x5 M Q) : kA x0 x2 x5 M Q := by
 rintro f rfl rfl rfl
 exact ru (N := 89) (ct := (.two .no (.two (.two .no (.two (.two .no (.here 1000)) .no)) (.here 1001))))
  [⟨1002, fun a M => dfr a.defers (ig (a.get 0) (a.get 2) (a.get 6) (a.get 37) (a.get 42) M Q), Aa Try.f87 [1, 1, 1, 0, 1, 0, 0, 1, 0, 0, 1, 1, 0, 1, 0, 1] Q⟩,
  ⟨1003, fF, Aa Try.f87 [1, 1, 1, 0, 1, 0, 0, 1, 0, 0, 1, 1, 1] Q⟩]
  [1000, 1001] []
  ⟨en fun f M h => h f rfl rfl rfl rfl rfl,
  el,
  trivial⟩
  h
def vt (x0 x2 x6 x37 x42 : Value) (M : Store) (Q : KP) : Prop :=
 BR x42 (
 OP (lenV x0) fun t46 =>
 OP (ad .neq t46 (.int .i64 2)) fun t47 =>
 BR t47 (
 OP (bB #[(.int .i64 0), (.int .i64 0), (.string ⟨#[]⟩)] [(0, 1), (1, 1), (2, 1)] []) fun t55 =>
 OP (st 3 x2 t55 M) fun M1 =>
 OP (ld 3 true x2 M1) fun r2 =>
 NTs [r2, (.bool false)] ∧ Q (.tuple #[r2, (.bool false)]) M1
 ) (
 OP (ixA 4 x0 (.int .i64 1)) fun t50 =>
 OP (fad 3 t50) fun t51 =>
 OP (ld 1 false t51 M) fun t52 =>
 OP (aun .not t52) fun t53 =>
 BR t53 (
 OP (bB #[(.int .i64 0), (.int .i64 0), (.string ⟨#[]⟩)] [(0, 1), (1, 1), (2, 1)] []) fun t55_1 =>
 OP (st 3 x2 t55_1 M) fun M2 =>
 OP (ld 3 true x2 M2) fun r2_1 =>
 NTs [r2_1, (.bool false)] ∧ Q (.tuple #[r2_1, (.bool false)]) M2
 ) (
 OP (ixA 4 x0 (.int .i64 1)) fun t57 =>
 OP (fad 0 t57) fun t58 =>
 OP (ld 1 false t58 M) fun t59 =>
 OP (fad 2 x6) fun t60 =>
 OP (st 1 t60 t59 M) fun M3 =>
 oX x2 x6 M3 Q
 )
 )
 ) (
 OP (ad .eql x37 (.int .i64 2)) fun t62 =>
 BR t62 (
 fM x0 x2 x6 t62 M Q
 ) (
 OP (ad .eql x37 (.int .i64 7)) fun t63 =>
 BR t63 (
 fM x0 x2 x6 t63 M Q
 ) (
 OP (ad .eql x37 (.int .i64 8)) fun t64 =>
 fM x0 x2 x6 t64 M Q
 )
 )
 )
theorem CY (h : vt x0 x2 x6 x37 x42 M Q) : ig x0 x2 x6 x37 x42 M Q := by
 rintro f rfl rfl rfl rfl rfl
 exact ru (N := 89) (ct := (.two .no (.two .no (.here 1000))))
  [⟨1002, fun a M => dfr a.defers (fM (a.get 0) (a.get 2) (a.get 6) (a.get 61) M Q), Aa Try.f87 [1, 1, 1, 0, 1, 0, 0, 1, 0, 0, 1, 1, 0, 1, 0, 1, 1, 1] Q⟩,
  ⟨0, fun a M => dfr a.defers (oX (a.get 2) (a.get 6) M Q), Aa Try.f87 [1, 1, 1, 0, 1, 0, 0, 1, 0, 0, 1, 1, 1] Q⟩,
  kE Try.f87 Q 1]
  [1000] [0, 1]
  ⟨en fun f M h => h f rfl rfl rfl rfl,
  en fun f M h => h f rfl rfl,
  er,
  trivial⟩
  h
def vu (x2 x6 : Value) (M : Store) (Q : KP) : Prop :=
 OP (ld 3 true x6 M) fun t87 =>
 OP (st 3 x2 t87 M) fun M1 =>
 OP (ld 3 true x2 M1) fun r2 =>
 NTs [r2, (.bool true)] ∧ Q (.tuple #[r2, (.bool true)]) M1
theorem CZ (h : vu x2 x6 M Q) : oX x2 x6 M Q := by
 rintro f rfl rfl
 exact ru (N := 89) (ct := .no)
  [kE Try.f87 Q 1]
  [] [1]
  ⟨er,
  trivial⟩
  h
def vv (x0 x2 x6 x61 : Value) (M : Store) (Q : KP) : Prop :=
 BR x61 (
 OP (lenV x0) fun t66 =>
 OP (ad .neq t66 (.int .i64 2)) fun t67 =>
 BR t67 (
 OP (bB #[(.int .i64 0), (.int .i64 0), (.string ⟨#[]⟩)] [(0, 1), (1, 1), (2, 1)] []) fun t74 =>
 OP (st 3 x2 t74 M) fun M1 =>
 OP (ld 3 true x2 M1) fun r2 =>
 NTs [r2, (.bool false)] ∧ Q (.tuple #[r2, (.bool false)]) M1
 ) (
 OP (ixA 4 x0 (.int .i64 1)) fun t70 =>
 OP (fad 3 t70) fun t71 =>
 OP (ld 1 false t71 M) fun t72 =>
 BR t72 (
 OP (bB #[(.int .i64 0), (.int .i64 0), (.string ⟨#[]⟩)] [(0, 1), (1, 1), (2, 1)] []) fun t74_1 =>
 OP (st 3 x2 t74_1 M) fun M2 =>
 OP (ld 3 true x2 M2) fun r2_1 =>
 NTs [r2_1, (.bool false)] ∧ Q (.tuple #[r2_1, (.bool false)]) M2
 ) (
 OP (ixA 4 x0 (.int .i64 1)) fun t77 =>
 OP (fad 0 t77) fun t78 =>
 OP (ld 1 false t78 M) fun t79 =>
 R F.v #[t79, (.int .i64 9)] M fun t80 M3 =>
 OP (tup t80 0) fun t81 =>
 OP (tup t80 1) fun t82 =>
 OP (fad 1 x6) fun t84 =>
 OP (st 1 t84 t81 M3) fun M4 =>
 OP (ld 3 true x6 M4) fun t85 =>
 OP (st 3 x2 t85 M4) fun M5 =>
 OP (ld 3 true x2 M5) fun r2_2 =>
 NTs [r2_2, t82] ∧ Q (.tuple #[r2_2, t82]) M5
 )
 )
 ) (
 OP (ld 3 true x6 M) fun t38 =>
 OP (lenV x0) fun t40 =>
 OP (ad .eql t40 (.int .i64 1)) fun t41 =>
 OP (st 3 x2 t38 M) fun M6 =>
 OP (ld 3 true x2 M6) fun r2_3 =>
 NTs [r2_3, t41] ∧ Q (.tuple #[r2_3, t41]) M6
 )
theorem C0 (h : vv x0 x2 x6 x61 M Q) : fM x0 x2 x6 x61 M Q := by
 rintro f rfl rfl rfl rfl
 exact ru (N := 89) (ct := .no)
  [kE Try.f87 Q 1]
  [] [1]
  ⟨er,
  trivial⟩
  h
def dW (x0 x3 : Value) (M : Store) (Q : KP) : Prop :=
 ∀ f : Nat → Value, f 0 = x0 → f 3 = x3 → An Try.f88 [1, 0, 1, 0] 98 f M Q
def lf (x0 x3 : Value) (M : Store) (Q : KP) : Prop :=
 ∀ f : Nat → Value, f 0 = x0 → f 3 = x3 → An Try.f88 [1, 0, 1, 0, 0, 1] 98 f M Q
def lg (x0 : Value) (M : Store) (Q : KP) : Prop :=
 ∀ f : Nat → Value, f 0 = x0 → An Try.f88 [1, 1] 98 f M Q
def ax (x0 x3 x4 x5 x6 x7 : Value) (M : Store) (Q : KP) : Prop :=
 ∀ f : Nat → Value, f 0 = x0 → f 3 = x3 → f 4 = x4 → f 5 = x5 → f 6 = x6 → f 7 = x7 → An Try.f88 [1, 0, 1, 0, 0, 1, 0, 0, 1, 1, 1, 1, 1] 98 f M Q
def dX (x0 x3 x4 x5 x6 x7 : Value) (M : Store) (Q : KP) : Prop :=
 ∀ f : Nat → Value, f 0 = x0 → f 3 = x3 → f 4 = x4 → f 5 = x5 → f 6 = x6 → f 7 = x7 → An Try.f88 [1, 0, 1, 0, 0, 1, 0, 0, 1, 1, 1, 1, 1, 1] 98 f M Q
def bd (x0 x3 : Value) (M : Store) (Q : KP) : Prop :=
 ∀ f : Nat → Value, f 0 = x0 → f 3 = x3 → An Try.f88 [1, 0, 1, 0, 0, 1, 1] 98 f M Q
def vi (x0 : Value) (M : Store) (Q : KP) : Prop :=
 dW x0 (.int .i64 0) M Q
theorem CN (h : vi x0 M Q) : R F.T #[x0] M Q := by
 refine ro Try.func88 ?_
 exact ru (N := 98) (ct := (.two .no (.two (.two .no (.two (.here 1000) .no)) (.here 1001))))
  [⟨1002, fun a M => dfr a.defers (dW (a.get 0) (a.get 3) M Q), Aa Try.f88 [1, 0, 1, 0] Q⟩,
  ⟨1003, fF, Aa Try.f88 [1, 1] Q⟩]
  [1000, 1001] []
  ⟨en fun f M h => h f rfl rfl,
  el,
  trivial⟩
  h
def lO (x0 x3 : Value) (M : Store) (Q : KP) : Prop :=
 OP (lenV x0) fun t10 =>
 OP (ad .lss x3 t10) fun t11 =>
 BR t11 (
 lf x0 x3 M Q
 ) (
 lg x0 M Q
 )
theorem rS (h : lO x0 x3 M Q) : dW x0 x3 M Q := by
 rintro f rfl rfl
 refine lp ?_
 exact ru (N := 98) (ct := (.two .no (.here 1000)))
  [⟨1002, fun a M => dfr a.defers (lf (a.get 0) (a.get 3) M Q), Aa Try.f88 [1, 0, 1, 0, 0, 1] Q⟩,
  ⟨2, fun a M => dfr a.defers (lg (a.get 0) M Q), Aa Try.f88 [1, 1] Q⟩]
  [1000] [2]
  ⟨en fun f M h => h f rfl rfl,
  en fun f M h => h f rfl,
  trivial⟩
  h
def qX (x0 x3 : Value) (M : Store) (Q : KP) : Prop :=
 OP (ixA 3 x0 x3) fun t16 =>
 OP (ld 3 true t16 M) fun t17 =>
 LT (.pointer (some ⟨M.n, 0, none⟩)) (M.push (some (.inl ([(.int .i64 0), (.int .i64 0), (.string ⟨#[]⟩)], Ty.f, true)))) fun t4 M1 =>
 OP (st 3 t4 t17 M1) fun M2 =>
 OP (fad 0 t4) fun t18 =>
 OP (ld 1 false t18 M2) fun t19 =>
 OP (ad .eql t19 (.int .i64 1)) fun t20 =>
 BR t20 (
 OP (fad 0 t4) fun t31 =>
 OP (ld 1 false t31 M2) fun t32 =>
 OP (ad .eql t32 (.int .i64 1)) fun t33 =>
 BR t33 (
 OP (fad 0 t4) fun t39 =>
 OP (ld 1 false t39 M2) fun t40 =>
 OP (ad .eql t40 (.int .i64 2)) fun t41 =>
 BR t41 (
 ax x0 x3 t4 (.bool true) (.bool true) (.int .i64 15) M2 Q
 ) (
 ax x0 x3 t4 (.bool true) (.bool true) (.int .i64 0) M2 Q
 )
 ) (
 OP (fad 0 t4) fun t35 =>
 OP (ld 1 false t35 M2) fun t36 =>
 OP (ad .eql t36 (.int .i64 10)) fun t37 =>
 OP (fad 0 t4) fun t39_1 =>
 OP (ld 1 false t39_1 M2) fun t40_1 =>
 OP (ad .eql t40_1 (.int .i64 2)) fun t41_1 =>
 BR t41_1 (
 ax x0 x3 t4 (.bool true) t37 (.int .i64 15) M2 Q
 ) (
 ax x0 x3 t4 (.bool true) t37 (.int .i64 0) M2 Q
 )
 )
 ) (
 OP (fad 0 t4) fun t22 =>
 OP (ld 1 false t22 M2) fun t23 =>
 OP (ad .eql t23 (.int .i64 2)) fun t24 =>
 BR t24 (
 OP (fad 0 t4) fun t31_1 =>
 OP (ld 1 false t31_1 M2) fun t32_1 =>
 OP (ad .eql t32_1 (.int .i64 1)) fun t33_1 =>
 BR t33_1 (
 OP (fad 0 t4) fun t39_2 =>
 OP (ld 1 false t39_2 M2) fun t40_2 =>
 OP (ad .eql t40_2 (.int .i64 2)) fun t41_2 =>
 BR t41_2 (
 ax x0 x3 t4 (.bool true) (.bool true) (.int .i64 15) M2 Q
 ) (
 ax x0 x3 t4 (.bool true) (.bool true) (.int .i64 0) M2 Q
 )
 ) (
 OP (fad 0 t4) fun t35_1 =>
 OP (ld 1 false t35_1 M2) fun t36_1 =>
 OP (ad .eql t36_1 (.int .i64 10)) fun t37_1 =>
 OP (fad 0 t4) fun t39_3 =>
 OP (ld 1 false t39_3 M2) fun t40_3 =>
 OP (ad .eql t40_3 (.int .i64 2)) fun t41_3 =>
 BR t41_3 (
 ax x0 x3 t4 (.bool true) t37_1 (.int .i64 15) M2 Q
 ) (
 ax x0 x3 t4 (.bool true) t37_1 (.int .i64 0) M2 Q
 )
 )
 ) (
 OP (fad 0 t4) fun t27 =>
 OP (ld 1 false t27 M2) fun t28 =>
 OP (ad .eql t28 (.int .i64 3)) fun t29 =>
 OP (fad 0 t4) fun t31_2 =>
 OP (ld 1 false t31_2 M2) fun t32_2 =>
 OP (ad .eql t32_2 (.int .i64 1)) fun t33_2 =>
 BR t33_2 (
 OP (fad 0 t4) fun t39_4 =>
 OP (ld 1 false t39_4 M2) fun t40_4 =>
 OP (ad .eql t40_4 (.int .i64 2)) fun t41_4 =>
 BR t41_4 (
 ax x0 x3 t4 t29 (.bool true) (.int .i64 15) M2 Q
 ) (
 ax x0 x3 t4 t29 (.bool true) (.int .i64 0) M2 Q
 )
 ) (
 OP (fad 0 t4) fun t35_2 =>
 OP (ld 1 false t35_2 M2) fun t36_2 =>
 OP (ad .eql t36_2 (.int .i64 10)) fun t37_2 =>
 OP (fad 0 t4) fun t39_5 =>
 OP (ld 1 false t39_5 M2) fun t40_5 =>
 OP (ad .eql t40_5 (.int .i64 2)) fun t41_5 =>
 BR t41_5 (
 ax x0 x3 t4 t29 t37_2 (.int .i64 15) M2 Q
 ) (
 ax x0 x3 t4 t29 t37_2 (.int .i64 0) M2 Q
 )
 )
 )
 )
theorem zJ (h : qX x0 x3 M Q) : lf x0 x3 M Q := by
 rintro f rfl rfl
 exact ru (N := 98) (ct := (.two (.two (.two .no (.two .no (.two .no (.two .no (.two .no (.here 1000)))))) .no) (.here 1001)))
  [⟨1002, fun a M => dfr a.defers (ax (a.get 0) (a.get 3) (a.get 4) (a.get 5) (a.get 6) (a.get 7) M Q), Aa Try.f88 [1, 0, 1, 0, 0, 1, 0, 0, 1, 1, 1, 1, 1] Q⟩,
  ⟨1003, fF, Aa Try.f88 [1, 0, 1, 0, 0, 1, 1] Q⟩]
  [1000, 1001] []
  ⟨en fun f M h => h f rfl rfl rfl rfl rfl rfl,
  el,
  trivial⟩
  h
def qY (x0 : Value) (M : Store) (Q : KP) : Prop :=
 OP (lenV x0) fun t91 =>
 OP (ad .geq t91 (.int .i64 1)) fun t92 =>
 BR t92 (
 OP (lenV x0) fun t95 =>
 OP (ad .leq t95 (.int .i64 8)) fun t96 =>
 NTs [t96] ∧ Q t96 M
 ) (
 NTs [(.bool false)] ∧ Q (.bool false) M
 )
theorem zK (h : qY x0 M Q) : lg x0 M Q := by
 rintro f rfl
 exact ru (N := 98) (ct := .no)
  [kE Try.f88 Q 1]
  [] [1]
  ⟨er,
  trivial⟩
  h
def qZ (x0 x3 x4 x5 x6 x7 : Value) (M : Store) (Q : KP) : Prop :=
 OP (fad 0 x4) fun t42 =>
 OP (ld 1 false t42 M) fun t43 =>
 OP (ad .eql t43 (.int .i64 7)) fun t44 =>
 BR t44 (
 dX x0 x3 x4 x5 x6 (.int .i64 999) M Q
 ) (
 OP (fad 0 x4) fun t46 =>
 OP (ld 1 false t46 M) fun t47 =>
 OP (ad .eql t47 (.int .i64 8)) fun t48 =>
 BR t48 (
 dX x0 x3 x4 x5 x6 (.int .i64 999) M Q
 ) (
 dX x0 x3 x4 x5 x6 x7 M Q
 )
 )
theorem zL (h : qZ x0 x3 x4 x5 x6 x7 M Q) : ax x0 x3 x4 x5 x6 x7 M Q := by
 rintro f rfl rfl rfl rfl rfl rfl
 exact ru (N := 98) (ct := (.two .no (.here 1000)))
  [⟨1002, fun a M => dfr a.defers (dX (a.get 0) (a.get 3) (a.get 4) (a.get 5) (a.get 6) (a.get 7) M Q), Aa Try.f88 [1, 0, 1, 0, 0, 1, 0, 0, 1, 1, 1, 1, 1, 1] Q⟩]
  [1000] []
  ⟨en fun f M h => h f rfl rfl rfl rfl rfl rfl,
  trivial⟩
  h
def q6 (x0 x3 x4 x5 x6 x7 : Value) (M : Store) (Q : KP) : Prop :=
 OP (fad 0 x4) fun t50 =>
 OP (ld 1 false t50 M) fun t51 =>
 OP (ad .lss t51 (.int .i64 1)) fun t52 =>
 BR t52 (
 NTs [(.bool false)] ∧ Q (.bool false) M
 ) (
 OP (fad 0 x4) fun t54 =>
 OP (ld 1 false t54 M) fun t55 =>
 OP (ad .gtr t55 (.int .i64 11)) fun t56 =>
 BR t56 (
 NTs [(.bool false)] ∧ Q (.bool false) M
 ) (
 OP (ad .eql x3 (.int .i64 0)) fun t61 =>
 OP (gJ Try.prog false .neq Ty.j x5 t61) fun t62 =>
 BR t62 (
 NTs [(.bool false)] ∧ Q (.bool false) M
 ) (
 OP (fad 1 x4) fun t65 =>
 OP (ld 1 false t65 M) fun t66 =>
 OP (ad .lss t66 (.int .i64 0)) fun t67 =>
 BR t67 (
 NTs [(.bool false)] ∧ Q (.bool false) M
 ) (
 OP (fad 1 x4) fun t70 =>
 OP (ld 1 false t70 M) fun t71 =>
 OP (ad .gtr t71 x7) fun t73 =>
 BR t73 (
 NTs [(.bool false)] ∧ Q (.bool false) M
 ) (
 OP (fad 2 x4) fun t76 =>
 OP (ld 1 false t76 M) fun t77 =>
 R F.X #[t77] M fun t78 M1 =>
 OP (aun .not t78) fun t79 =>
 BR t79 (
 NTs [(.bool false)] ∧ Q (.bool false) M1
 ) (
 OP (aun .not x6) fun t83 =>
 BR3 t83 (
 OP (fad 2 x4) fun t85 =>
 OP (ld 1 false t85 M1) fun t86 =>
 OP (ao .neq t86 (.string ⟨#[]⟩)) fun t87 =>
 BR t87 (
 NTs [(.bool false)] ∧ Q (.bool false) M1
 ) (
 bd x0 x3 M1 Q
 )
 ) (
 bd x0 x3 M1 Q
 ) (
 BR t83 (
 BR undef (
 NTs [(.bool false)] ∧ Q (.bool false) M1
 ) (
 bd x0 x3 M1 Q
 )
 ) (
 bd x0 x3 M1 Q
 )
 )
 )
 )
 )
 )
 )
 )
theorem zM (h : q6 x0 x3 x4 x5 x6 x7 M Q) : dX x0 x3 x4 x5 x6 x7 M Q := by
 rintro f rfl rfl rfl rfl rfl rfl
 exact ru (N := 98) (ct := .no)
  [⟨0, fun a M => dfr a.defers (bd (a.get 0) (a.get 3) M Q), Aa Try.f88 [1, 0, 1, 0, 0, 1, 1] Q⟩,
  kE Try.f88 Q 1]
  [] [0, 1]
  ⟨en fun f M h => h f rfl rfl,
  er,
  trivial⟩
  h
def q7 (x0 x3 : Value) (M : Store) (Q : KP) : Prop :=
 OP (ad .add x3 (.int .i64 1)) fun t13 =>
 dW x0 t13 M Q
theorem zN (h : q7 x0 x3 M Q) : bd x0 x3 M Q := by
 rintro f rfl rfl
 exact ru (N := 98) (ct := .no)
  [⟨0, fun a M => dfr a.defers (dW (a.get 0) (a.get 3) M Q), Aa Try.f88 [1, 0, 1, 0] Q⟩]
  [] [0]
  ⟨en fun f M h => h f rfl rfl,
  trivial⟩
  h
def vx (M : Store) (Q : KP) : Prop :=
 OP (al (.string ⟨#[]⟩) 1 12 [(0, (.string ⟨#[]⟩)), (1, (.string ⟨#[116, 101, 120, 116]⟩)), (2, (.string ⟨#[105, 110]⟩)), (3, (.string ⟨#[97, 108, 108]⟩)), (4, (.string ⟨#[117, 112, 112, 101, 114]⟩)), (5, (.string ⟨#[108, 111, 119, 101, 114]⟩)), (6, (.string ⟨#[114, 101, 118]⟩)), (7, (.string ⟨#[116, 97, 107, 101]⟩)), (8, (.string ⟨#[100, 114, 111, 112]⟩)), (9, (.string ⟨#[116, 119, 105, 99, 101]⟩)), (10, (.string ⟨#[106, 111, 105, 110]⟩)), (11, (.string ⟨#[102, 97, 105, 108]⟩))]) fun c =>
 LT (.slice (some ⟨M.n, 0, none⟩) 12 12) (M.push (some (.inl (c, Ty.a, true)))) fun t1 M1 =>
 NTs [t1] ∧ Q t1 M1
theorem C2 (h : vx M Q) : R F.Y #[] M Q := by
 refine ro Try.func89 ?_
 exact ru (N := 2) (ct := .no)
  [kE Try.f89 Q 1]
  [] [1]
  ⟨er,
  trivial⟩
  h
def dp (x0 x1 x6 x7 : Value) (M : Store) (Q : KP) : Prop :=
 ∀ f : Nat → Value, f 0 = x0 → f 1 = x1 → f 6 = x6 → f 7 = x7 → An Try.f90 [1, 1, 0, 1, 0] 49 f M Q
def j1 (x0 x1 x6 x7 : Value) (M : Store) (Q : KP) : Prop :=
 ∀ f : Nat → Value, f 0 = x0 → f 1 = x1 → f 6 = x6 → f 7 = x7 → An Try.f90 [1, 1, 0, 1, 0, 0, 1] 49 f M Q
def j3 (x0 x6 : Value) (M : Store) (Q : KP) : Prop :=
 ∀ f : Nat → Value, f 0 = x0 → f 6 = x6 → An Try.f90 [1, 1, 1] 49 f M Q
def tB (x0 x1 : Value) (M : Store) (Q : KP) : Prop :=
 dp x0 x1 (.int .i64 0) (.int .i64 0) M Q
theorem Bg (h : tB x0 x1 M Q) : R F.v #[x0, x1] M Q := by
 refine ro Try.func90 ?_
 exact ru (N := 49) (ct := (.two .no (.two .no (.two (.two .no (.two (.here 1000) .no)) (.here 1001)))))
  [⟨1002, fun a M => dfr a.defers (dp (a.get 0) (a.get 1) (a.get 6) (a.get 7) M Q), Aa Try.f90 [1, 1, 0, 1, 0] Q⟩,
  ⟨1003, fF, Aa Try.f90 [1, 1, 1] Q⟩]
  [1000, 1001] []
  ⟨en fun f M h => h f rfl rfl rfl rfl,
  el,
  trivial⟩
  h
def j9 (x0 x1 x6 x7 : Value) (M : Store) (Q : KP) : Prop :=
 OP (iH x0) fun t10 =>
 OP (ad .lss x7 t10) fun t11 =>
 BR t11 (
 j1 x0 x1 x6 x7 M Q
 ) (
 j3 x0 x6 M Q
 )
theorem qr (h : j9 x0 x1 x6 x7 M Q) : dp x0 x1 x6 x7 M Q := by
 rintro f rfl rfl rfl rfl
 refine lp ?_
 exact ru (N := 49) (ct := (.two .no (.here 1000)))
  [⟨1002, fun a M => dfr a.defers (j1 (a.get 0) (a.get 1) (a.get 6) (a.get 7) M Q), Aa Try.f90 [1, 1, 0, 1, 0, 0, 1] Q⟩,
  ⟨2, fun a M => dfr a.defers (j3 (a.get 0) (a.get 6) M Q), Aa Try.f90 [1, 1, 1] Q⟩]
  [1000] [2]
  ⟨en fun f M h => h f rfl rfl rfl rfl,
  en fun f M h => h f rfl rfl,
  trivial⟩
  h
def qf (x0 x1 x6 x7 : Value) (M : Store) (Q : KP) : Prop :=
 OP (ixS x0 x7) fun t16 =>
 OP (ad .lss t16 (.int .u8 48)) fun t17 =>
 BR t17 (
 NTs [(.int .i64 0), (.bool false)] ∧ Q (.tuple #[(.int .i64 0), (.bool false)]) M
 ) (
 OP (ixS x0 x7) fun t21 =>
 OP (ad .gtr t21 (.int .u8 57)) fun t22 =>
 BR t22 (
 NTs [(.int .i64 0), (.bool false)] ∧ Q (.tuple #[(.int .i64 0), (.bool false)]) M
 ) (
 OP (ad .geq x7 x1) fun t27 =>
 BR t27 (
 NTs [(.int .i64 0), (.bool false)] ∧ Q (.tuple #[(.int .i64 0), (.bool false)]) M
 ) (
 OP (ad .mul (.int .i64 10) x6) fun t30 =>
 OP (ixS x0 x7) fun t33 =>
 OP (ad .sub t33 (.int .u8 48)) fun t34 =>
 OP (cvI .i64 t34) fun t35 =>
 OP (ad .add t30 t35) fun t36 =>
 OP (ad .add x7 (.int .i64 1)) fun t13 =>
 dp x0 x1 t36 t13 M Q
 )
 )
 )
theorem yR (h : qf x0 x1 x6 x7 M Q) : j1 x0 x1 x6 x7 M Q := by
 rintro f rfl rfl rfl rfl
 exact ru (N := 49) (ct := .no)
  [⟨0, fun a M => dfr a.defers (dp (a.get 0) (a.get 1) (a.get 6) (a.get 7) M Q), Aa Try.f90 [1, 1, 0, 1, 0] Q⟩,
  kE Try.f90 Q 1]
  [] [0, 1]
  ⟨en fun f M h => h f rfl rfl rfl rfl,
  er,
  trivial⟩
  h
def qg (x0 x6 : Value) (M : Store) (Q : KP) : Prop :=
 OP (ao .eql x0 (.string ⟨#[]⟩)) fun t38 =>
 BR t38 (
 NTs [(.int .i64 0), (.bool false)] ∧ Q (.tuple #[(.int .i64 0), (.bool false)]) M
 ) (
 OP (ao .neq x0 (.string ⟨#[48]⟩)) fun t41 =>
 BR3 t41 (
 OP (ixS x0 (.int .i64 0)) fun t44 =>
 OP (ad .eql t44 (.int .u8 48)) fun t45 =>
 BR t45 (
 NTs [(.int .i64 0), (.bool false)] ∧ Q (.tuple #[(.int .i64 0), (.bool false)]) M
 ) (
 NTs [x6, (.bool true)] ∧ Q (.tuple #[x6, (.bool true)]) M
 )
 ) (
 NTs [x6, (.bool true)] ∧ Q (.tuple #[x6, (.bool true)]) M
 ) (
 BR t41 (
 BR undef (
 NTs [(.int .i64 0), (.bool false)] ∧ Q (.tuple #[(.int .i64 0), (.bool false)]) M
 ) (
 NTs [x6, (.bool true)] ∧ Q (.tuple #[x6, (.bool true)]) M
 )
 ) (
 NTs [x6, (.bool true)] ∧ Q (.tuple #[x6, (.bool true)]) M
 )
 )
 )
theorem yS (h : qg x0 x6 M Q) : j3 x0 x6 M Q := by
 rintro f rfl rfl
 exact ru (N := 49) (ct := .no)
  [kE Try.f90 Q 1]
  [] [1]
  ⟨er,
  trivial⟩
  h
def d7 (x0 x3 : Value) (M : Store) (Q : KP) : Prop :=
 ∀ f : Nat → Value, f 0 = x0 → f 3 = x3 → An Try.f91 [1, 0, 1, 0] 29 f M Q
def ly (x0 x3 : Value) (M : Store) (Q : KP) : Prop :=
 ∀ f : Nat → Value, f 0 = x0 → f 3 = x3 → An Try.f91 [1, 0, 1, 0, 0, 1] 29 f M Q
def lz (x0 : Value) (M : Store) (Q : KP) : Prop :=
 ∀ f : Nat → Value, f 0 = x0 → An Try.f91 [1, 1] 29 f M Q
def vw (x0 : Value) (M : Store) (Q : KP) : Prop :=
 d7 x0 (.int .i64 0) M Q
theorem C1 (h : vw x0 M Q) : R F.X #[x0] M Q := by
 refine ro Try.func91 ?_
 exact ru (N := 29) (ct := (.two .no (.two (.two .no (.two (.here 1000) .no)) (.here 1001))))
  [⟨1002, fun a M => dfr a.defers (d7 (a.get 0) (a.get 3) M Q), Aa Try.f91 [1, 0, 1, 0] Q⟩,
  ⟨1003, fF, Aa Try.f91 [1, 1] Q⟩]
  [1000, 1001] []
  ⟨en fun f M h => h f rfl rfl,
  el,
  trivial⟩
  h
def lX (x0 x3 : Value) (M : Store) (Q : KP) : Prop :=
 OP (iH x0) fun t6 =>
 OP (ad .lss x3 t6) fun t7 =>
 BR t7 (
 ly x0 x3 M Q
 ) (
 lz x0 M Q
 )
theorem r5 (h : lX x0 x3 M Q) : d7 x0 x3 M Q := by
 rintro f rfl rfl
 refine lp ?_
 exact ru (N := 29) (ct := (.two .no (.here 1000)))
  [⟨1002, fun a M => dfr a.defers (ly (a.get 0) (a.get 3) M Q), Aa Try.f91 [1, 0, 1, 0, 0, 1] Q⟩,
  ⟨2, fun a M => dfr a.defers (lz (a.get 0) M Q), Aa Try.f91 [1, 1] Q⟩]
  [1000] [2]
  ⟨en fun f M h => h f rfl rfl,
  en fun f M h => h f rfl,
  trivial⟩
  h
def rv (x0 x3 : Value) (M : Store) (Q : KP) : Prop :=
 OP (ixS x0 x3) fun t12 =>
 OP (ad .lss t12 (.int .u8 32)) fun t13 =>
 BR t13 (
 NTs [(.bool false)] ∧ Q (.bool false) M
 ) (
 OP (ixS x0 x3) fun t17 =>
 OP (ad .gtr t17 (.int .u8 126)) fun t18 =>
 BR t18 (
 NTs [(.bool false)] ∧ Q (.bool false) M
 ) (
 OP (ixS x0 x3) fun t23 =>
 OP (ad .eql t23 (.int .u8 34)) fun t24 =>
 BR t24 (
 NTs [(.bool false)] ∧ Q (.bool false) M
 ) (
 OP (ad .add x3 (.int .i64 1)) fun t9 =>
 d7 x0 t9 M Q
 )
 )
 )
theorem z4 (h : rv x0 x3 M Q) : ly x0 x3 M Q := by
 rintro f rfl rfl
 exact ru (N := 29) (ct := .no)
  [⟨0, fun a M => dfr a.defers (d7 (a.get 0) (a.get 3) M Q), Aa Try.f91 [1, 0, 1, 0] Q⟩,
  kE Try.f91 Q 1]
  [] [0, 1]
  ⟨en fun f M h => h f rfl rfl,
  er,
  trivial⟩
  h
def rx (x0 : Value) (M : Store) (Q : KP) : Prop :=
 OP (iH x0) fun t27 =>
 OP (ad .leq t27 (.int .i64 64)) fun t28 =>
 NTs [t28] ∧ Q t28 M
theorem z5 (h : rx x0 M Q) : lz x0 M Q := by
 rintro f rfl
 exact ru (N := 29) (ct := .no)
  [kE Try.f91 Q 1]
  [] [1]
  ⟨er,
  trivial⟩
  h
end Go.G

open Go.RowKit
namespace Go.G
open Go.Ab Go.Proofs
set_option linter.unusedVariables false
set_option maxRecDepth 100000
variable {x0 x3 x4 x5 x6 x7 x8 x9 x10 x11 x12 x13 x17 x145 x146 x147 x164 x165 : Value} {M : Store} {Q : KP}
def nZ (x0 x3 x4 x5 x6 x7 x8 : Value) (M : Store) (Q : KP) : Prop :=
 ∀ f : Nat → Value, f 0 = x0 → f 3 = x3 → f 4 = x4 → f 5 = x5 → f 6 = x6 → f 7 = x7 → f 8 = x8 → An Try.f20 [1, 1, 1, 1, 1, 1, 0, 1, 0] 202 f M Q
def zg (x0 x3 x4 x5 x6 x7 x8 : Value) (M : Store) (Q : KP) : Prop :=
 ∀ f : Nat → Value, f 0 = x0 → f 3 = x3 → f 4 = x4 → f 5 = x5 → f 6 = x6 → f 7 = x7 → f 8 = x8 → An Try.f20 [1, 1, 1, 1, 1, 1, 0, 1, 0, 0, 1] 202 f M Q
def oc (x6 : Value) (M : Store) (Q : KP) : Prop :=
 ∀ f : Nat → Value, f 6 = x6 → An Try.f20 [1, 1, 1, 1, 1, 1, 1] 202 f M Q
def k7 (x0 x3 x4 x5 x6 x7 x8 x9 x10 : Value) (M : Store) (Q : KP) : Prop :=
 ∀ f : Nat → Value, f 0 = x0 → f 3 = x3 → f 4 = x4 → f 5 = x5 → f 6 = x6 → f 7 = x7 → f 8 = x8 → f 9 = x9 → f 10 = x10 → An Try.f20 [1, 1, 1, 1, 1, 1, 0, 1, 0, 0, 1, 0, 0, 1, 1, 1, 1] 202 f M Q
def gh (x0 x3 x4 x5 x6 x7 x8 x9 x10 x11 x12 x13 : Value) (M : Store) (Q : KP) : Prop :=
 ∀ f : Nat → Value, f 0 = x0 → f 3 = x3 → f 4 = x4 → f 5 = x5 → f 6 = x6 → f 7 = x7 → f 8 = x8 → f 9 = x9 → f 10 = x10 → f 11 = x11 → f 12 = x12 → f 13 = x13 → An Try.f20 [1, 1, 1, 1, 1, 1, 0, 1, 0, 0, 1, 0, 0, 1, 1, 1, 1, 1, 0, 1, 0] 202 f M Q
def zh (x0 x3 x4 x5 x6 x7 x8 x9 x10 x11 x12 x13 : Value) (M : Store) (Q : KP) : Prop :=
 ∀ f : Nat → Value, f 0 = x0 → f 3 = x3 → f 4 = x4 → f 5 = x5 → f 6 = x6 → f 7 = x7 → f 8 = x8 → f 9 = x9 → f 10 = x10 → f 11 = x11 → f 12 = x12 → f 13 = x13 → An Try.f20 [1, 1, 1, 1, 1, 1, 0, 1, 0, 0, 1, 0, 0, 1, 1, 1, 1, 1, 0, 1, 0, 0, 1] 202 f M Q
def vb (x0 x3 x4 x5 x6 x7 x8 x9 x10 x11 x12 : Value) (M : Store) (Q : KP) : Prop :=
 ∀ f : Nat → Value, f 0 = x0 → f 3 = x3 → f 4 = x4 → f 5 = x5 → f 6 = x6 → f 7 = x7 → f 8 = x8 → f 9 = x9 → f 10 = x10 → f 11 = x11 → f 12 = x12 → An Try.f20 [1, 1, 1, 1, 1, 1, 0, 1, 0, 0, 1, 0, 0, 1, 1, 1, 1, 1, 1] 202 f M Q
def od (x0 x3 x4 x5 x6 x7 x8 x9 x10 x11 x12 : Value) (M : Store) (Q : KP) : Prop :=
 ∀ f : Nat → Value, f 0 = x0 → f 3 = x3 → f 4 = x4 → f 5 = x5 → f 6 = x6 → f 7 = x7 → f 8 = x8 → f 9 = x9 → f 10 = x10 → f 11 = x11 → f 12 = x12 → An Try.f20 [1, 1, 1, 1, 1, 1, 0, 1, 0, 0, 1, 0, 0, 1, 1, 1, 1, 1, 1, 1] 202 f M Q
def qE (x0 x3 x4 x5 x6 x7 x8 x9 x10 x11 x12 : Value) (M : Store) (Q : KP) : Prop :=
 ∀ f : Nat → Value, f 0 = x0 → f 3 = x3 → f 4 = x4 → f 5 = x5 → f 6 = x6 → f 7 = x7 → f 8 = x8 → f 9 = x9 → f 10 = x10 → f 11 = x11 → f 12 = x12 → An Try.f20 [1, 1, 1, 1, 1, 1, 0, 1, 0, 0, 1, 0, 0, 1, 1, 1, 1, 1, 1, 1, 1] 202 f M Q
def kP (x0 x3 x4 x5 x6 x7 x8 x9 x10 x11 x12 x145 x146 x147 : Value) (M : Store) (Q : KP) : Prop :=
 ∀ f : Nat → Value, f 0 = x0 → f 3 = x3 → f 4 = x4 → f 5 = x5 → f 6 = x6 → f 7 = x7 → f 8 = x8 → f 9 = x9 → f 10 = x10 → f 11 = x11 → f 12 = x12 → f 145 = x145 → f 146 = x146 → f 147 = x147 → An Try.f20 [1, 1, 1, 1, 1, 1, 0, 1, 0, 0, 1, 0, 0, 1, 1, 1, 1, 1, 1, 1, 1, 1, 0, 1, 0] 202 f M Q
def wX (x0 x3 x4 x5 x6 x7 x8 x9 x10 x11 x12 : Value) (M : Store) (Q : KP) : Prop :=
 ∀ f : Nat → Value, f 0 = x0 → f 3 = x3 → f 4 = x4 → f 5 = x5 → f 6 = x6 → f 7 = x7 → f 8 = x8 → f 9 = x9 → f 10 = x10 → f 11 = x11 → f 12 = x12 → An Try.f20 [1, 1, 1, 1, 1, 1, 0, 1, 0, 0, 1, 0, 0, 1, 1, 1, 1, 1, 1, 1, 1, 1, 1] 202 f M Q
def kQ (x0 x3 x4 x5 x6 x7 x8 x9 x164 x165 : Value) (M : Store) (Q : KP) : Prop :=
 ∀ f : Nat → Value, f 0 = x0 → f 3 = x3 → f 4 = x4 → f 5 = x5 → f 6 = x6 → f 7 = x7 → f 8 = x8 → f 9 = x9 → f 164 = x164 → f 165 = x165 → An Try.f20 [1, 1, 1, 1, 1, 1, 0, 1, 0, 0, 1, 0, 0, 1, 1, 1, 1, 1, 1, 1, 1, 1, 1, 1, 0, 1, 0] 202 f M Q
def wY (x0 x3 x4 x5 x6 x7 x8 x9 x164 x165 : Value) (M : Store) (Q : KP) : Prop :=
 ∀ f : Nat → Value, f 0 = x0 → f 3 = x3 → f 4 = x4 → f 5 = x5 → f 6 = x6 → f 7 = x7 → f 8 = x8 → f 9 = x9 → f 164 = x164 → f 165 = x165 → An Try.f20 [1, 1, 1, 1, 1, 1, 0, 1, 0, 0, 1, 0, 0, 1, 1, 1, 1, 1, 1, 1, 1, 1, 1, 1, 0, 1, 0, 0, 1, 1] 202 f M Q
def wZ (x0 x3 x4 x5 x6 x7 x8 : Value) (M : Store) (Q : KP) : Prop :=
 ∀ f : Nat → Value, f 0 = x0 → f 3 = x3 → f 4 = x4 → f 5 = x5 → f 6 = x6 → f 7 = x7 → f 8 = x8 → An Try.f20 [1, 1, 1, 1, 1, 1, 0, 1, 0, 0, 1, 0, 0, 1, 1, 1, 1, 1, 1, 1, 1, 1, 1, 1, 1] 202 f M Q
def n0 (x0 x3 x4 x5 x6 x7 x8 x9 x17 x164 x165 : Value) (M : Store) (Q : KP) : Prop :=
 ∀ f : Nat → Value, f 0 = x0 → f 3 = x3 → f 4 = x4 → f 5 = x5 → f 6 = x6 → f 7 = x7 → f 8 = x8 → f 9 = x9 → f 17 = x17 → f 164 = x164 → f 165 = x165 → An Try.f20 [1, 1, 1, 1, 1, 1, 0, 1, 0, 0, 1, 0, 0, 1, 1, 1, 1, 1, 1, 1, 1, 1, 1, 1, 0, 1, 0, 0, 1, 1, 0, 0, 1, 1] 202 f M Q
def oa (x0 x3 x4 x5 x6 x7 x8 : Value) (M : Store) (Q : KP) : Prop :=
 ∀ f : Nat → Value, f 0 = x0 → f 3 = x3 → f 4 = x4 → f 5 = x5 → f 6 = x6 → f 7 = x7 → f 8 = x8 → An Try.f20 [1, 1, 1, 1, 1, 1, 0, 1, 0, 0, 1, 1] 202 f M Q
def kR (x0 x3 x4 x5 x6 x7 x8 x9 x164 x165 : Value) (M : Store) (Q : KP) : Prop :=
 ∀ f : Nat → Value, f 0 = x0 → f 3 = x3 → f 4 = x4 → f 5 = x5 → f 6 = x6 → f 7 = x7 → f 8 = x8 → f 9 = x9 → f 164 = x164 → f 165 = x165 → An Try.f20 [1, 1, 1, 1, 1, 1, 0, 1, 0, 0, 1, 0, 0, 1, 1, 1, 1, 1, 1, 1, 1, 1, 1, 1, 0, 1, 0, 0, 1, 1, 1] 202 f M Q
def Im (x0 : Value) (M : Store) (Q : KP) : Prop :=
 OP (al (.string ⟨#[]⟩) 1 8 [(0, (.string ⟨#[97]⟩)), (1, (.string ⟨#[98]⟩)), (2, (.string ⟨#[99]⟩)), (3, (.string ⟨#[100]⟩)), (4, (.string ⟨#[101]⟩)), (5, (.string ⟨#[102]⟩)), (6, (.string ⟨#[103]⟩)), (7, (.string ⟨#[104]⟩))]) fun c =>
 LT (.slice (some ⟨M.n, 0, none⟩) 8 8) (M.push (some (.inl (c, Ty.a, true)))) fun t19 M1 =>
 OP (al (.string ⟨#[]⟩) 1 3 [(0, (.string ⟨#[115]⟩)), (1, (.string ⟨#[116]⟩)), (2, (.string ⟨#[117]⟩))]) fun c_1 =>
 LT (.slice (some ⟨M1.n, 0, none⟩) 3 3) (M1.push (some (.inl (c_1, Ty.a, true)))) fun t20 M2 =>
 OP (al (.string ⟨#[]⟩) 1 8 [(0, (.string ⟨#[97, 108, 108]⟩)), (1, (.string ⟨#[97, 108, 108, 32, 59, 32, 117, 112, 112, 101, 114]⟩)), (2, (.string ⟨#[105, 110, 32, 48]⟩)), (3, (.string ⟨#[97, 108, 108, 32, 59, 32, 114, 101, 118]⟩)), (4, (.string ⟨#[116, 101, 120, 116, 32, 34, 107, 34]⟩)), (5, (.string ⟨#[97, 108, 108, 32, 59, 32, 116, 119, 105, 99, 101, 32, 59, 32, 116, 97, 107, 101, 32, 57]⟩)), (6, (.string ⟨#[97, 108, 108, 32, 59, 32, 106, 111, 105, 110, 32, 34, 46, 34, 32, 59, 32, 116, 97, 107, 101, 32, 50, 48]⟩)), (7, (.string ⟨#[97, 108, 108, 32, 59, 32, 102, 97, 105, 108]⟩))]) fun c_2 =>
 LT (.slice (some ⟨M2.n, 0, none⟩) 8 8) (M2.push (some (.inl (c_2, Ty.a, true)))) fun t21 M3 =>
 nZ x0 t19 t20 t21 (.string ⟨#[]⟩) (.int .i64 0) (.int .i64 0) M3 Q
theorem JM (h : Im x0 M Q) : R F.lM #[x0] M Q := by
 refine ro Try.func20 ?_
 exact ru (N := 202) (ct := (.two .no (.two .no (.two .no (.two .no (.two .no (.two .no (.two (.two .no (.two (.here 1000) .no)) (.here 1001)))))))))
  [⟨1002, fun a M => dfr a.defers (nZ (a.get 0) (a.get 3) (a.get 4) (a.get 5) (a.get 6) (a.get 7) (a.get 8) M Q), Aa Try.f20 [1, 1, 1, 1, 1, 1, 0, 1, 0] Q⟩,
  ⟨1003, fF, Aa Try.f20 [1, 1, 1, 1, 1, 1, 1] Q⟩]
  [1000, 1001] []
  ⟨en fun f M h => h f rfl rfl rfl rfl rfl rfl rfl,
  el,
  trivial⟩
  h
def zl (x0 x3 x4 x5 x6 x7 x8 : Value) (M : Store) (Q : KP) : Prop :=
 OP (lenV x0) fun t24 =>
 OP (ad .lss x8 t24) fun t25 =>
 BR t25 (
 OP (ad .lss x7 (.int .i64 7)) fun t28 =>
 BR t28 (
 OP (ad .lss x8 (.int .i64 7)) fun t32 =>
 BR t32 (
 zg x0 x3 x4 x5 x6 x7 x8 M Q
 ) (
 oc x6 M Q
 )
 ) (
 oc x6 M Q
 )
 ) (
 oc x6 M Q
 )
theorem Es (h : zl x0 x3 x4 x5 x6 x7 x8 M Q) : nZ x0 x3 x4 x5 x6 x7 x8 M Q := by
 rintro f rfl rfl rfl rfl rfl rfl rfl
 refine lp ?_
 exact ru (N := 202) (ct := (.two .no (.here 1000)))
  [⟨1002, fun a M => dfr a.defers (zg (a.get 0) (a.get 3) (a.get 4) (a.get 5) (a.get 6) (a.get 7) (a.get 8) M Q), Aa Try.f20 [1, 1, 1, 1, 1, 1, 0, 1, 0, 0, 1] Q⟩,
  ⟨2, fun a M => dfr a.defers (oc (a.get 6) M Q), Aa Try.f20 [1, 1, 1, 1, 1, 1, 1] Q⟩]
  [1000] [2]
  ⟨en fun f M h => h f rfl rfl rfl rfl rfl rfl rfl,
  en fun f M h => h f rfl,
  trivial⟩
  h
def Ej (x0 x3 x4 x5 x6 x7 x8 : Value) (M : Store) (Q : KP) : Prop :=
 OP (ixA 1 x0 x8) fun t38 =>
 OP (ld 1 false t38 M) fun t39 =>
 OP (ixA 1 x3 x7) fun t42 =>
 OP (ld 1 false t42 M) fun t43 =>
 OP (al (.string ⟨#[]⟩) 1 1 [(0, t43)]) fun c =>
 LT (.slice (some ⟨M.n, 0, none⟩) 1 1) (M.push (some (.inl (c, Ty.a, true)))) fun t44 M1 =>
 OP (ad .add x7 (.int .i64 1)) fun t46 =>
 OP (ad .and t39 (.int .i64 7)) fun t48 =>
 OP (ad .eql t48 (.int .i64 7)) fun t49 =>
 BR t49 (
 OP (ad .lss t46 (.int .i64 7)) fun t52 =>
 BR t52 (
 OP (ixA 1 x3 t46) fun t57 =>
 OP (ld 1 false t57 M1) fun t58 =>
 OP (al (.string ⟨#[]⟩) 1 1 [(0, t58)]) fun c_1 =>
 LT (.slice (some ⟨M1.n, 0, none⟩) 1 1) (M1.push (some (.inl (c_1, Ty.a, true)))) fun t59 M2 =>
 OP2 (appV 1 Ty.a t44 t59 M2) fun t60 M3 =>
 OP (ad .add t46 (.int .i64 1)) fun t62 =>
 k7 x0 x3 x4 x5 x6 t62 x8 t39 t60 M3 Q
 ) (
 k7 x0 x3 x4 x5 x6 t46 x8 t39 t44 M1 Q
 )
 ) (
 k7 x0 x3 x4 x5 x6 t46 x8 t39 t44 M1 Q
 )
theorem Io (h : Ej x0 x3 x4 x5 x6 x7 x8 M Q) : zg x0 x3 x4 x5 x6 x7 x8 M Q := by
 rintro f rfl rfl rfl rfl rfl rfl rfl
 exact ru (N := 202) (ct := (.two (.two (.two .no (.two .no (.two .no (.two .no (.here 1000))))) .no) (.here 1001)))
  [⟨1002, fun a M => dfr a.defers (k7 (a.get 0) (a.get 3) (a.get 4) (a.get 5) (a.get 6) (a.get 7) (a.get 8) (a.get 9) (a.get 10) M Q), Aa Try.f20 [1, 1, 1, 1, 1, 1, 0, 1, 0, 0, 1, 0, 0, 1, 1, 1, 1] Q⟩,
  ⟨1003, fF, Aa Try.f20 [1, 1, 1, 1, 1, 1, 0, 1, 0, 0, 1, 1] Q⟩]
  [1000, 1001] []
  ⟨en fun f M h => h f rfl rfl rfl rfl rfl rfl rfl rfl rfl,
  el,
  trivial⟩
  h
def Ek (x6 : Value) (M : Store) (Q : KP) : Prop :=
 OP2 (xq Ty.o x6 M) fun t201 M1 =>
 NTs [t201] ∧ Q t201 M1
theorem Ip (h : Ek x6 M Q) : oc x6 M Q := by
 rintro f rfl
 exact ru (N := 202) (ct := .no)
  [kE Try.f20 Q 1]
  [] [1]
  ⟨er,
  trivial⟩
  h
def El (x0 x3 x4 x5 x6 x7 x8 x9 x10 : Value) (M : Store) (Q : KP) : Prop :=
 gh x0 x3 x4 x5 x6 x7 x8 x9 x10 (.string ⟨#[]⟩) (.string ⟨#[]⟩) (.int .i64 0) M Q
theorem Iq (h : El x0 x3 x4 x5 x6 x7 x8 x9 x10 M Q) : k7 x0 x3 x4 x5 x6 x7 x8 x9 x10 M Q := by
 rintro f rfl rfl rfl rfl rfl rfl rfl rfl rfl
 exact ru (N := 202) (ct := (.two .no (.two (.two .no (.two (.here 1000) .no)) (.here 1001))))
  [⟨1002, fun a M => dfr a.defers (gh (a.get 0) (a.get 3) (a.get 4) (a.get 5) (a.get 6) (a.get 7) (a.get 8) (a.get 9) (a.get 10) (a.get 11) (a.get 12) (a.get 13) M Q), Aa Try.f20 [1, 1, 1, 1, 1, 1, 0, 1, 0, 0, 1, 0, 0, 1, 1, 1, 1, 1, 0, 1, 0] Q⟩,
  ⟨1003, fF, Aa Try.f20 [1, 1, 1, 1, 1, 1, 0, 1, 0, 0, 1, 0, 0, 1, 1, 1, 1, 1, 1] Q⟩]
  [1000, 1001] []
  ⟨en fun f M h => h f rfl rfl rfl rfl rfl rfl rfl rfl rfl rfl rfl rfl,
  el,
  trivial⟩
  h
def zm (x0 x3 x4 x5 x6 x7 x8 x9 x10 x11 x12 x13 : Value) (M : Store) (Q : KP) : Prop :=
 OP (ad .shr x9 (.int .u64 3)) fun t65 =>
 OP (ad .and t65 (.int .i64 3)) fun t66 =>
 OP (ad .lss x13 t66) fun t67 =>
 BR t67 (
 zh x0 x3 x4 x5 x6 x7 x8 x9 x10 x11 x12 x13 M Q
 ) (
 vb x0 x3 x4 x5 x6 x7 x8 x9 x10 x11 x12 M Q
 )
theorem Et (h : zm x0 x3 x4 x5 x6 x7 x8 x9 x10 x11 x12 x13 M Q) : gh x0 x3 x4 x5 x6 x7 x8 x9 x10 x11 x12 x13 M Q := by
 rintro f rfl rfl rfl rfl rfl rfl rfl rfl rfl rfl rfl rfl
 refine lp ?_
 exact ru (N := 202) (ct := (.two .no (.here 1000)))
  [⟨1002, fun a M => dfr a.defers (zh (a.get 0) (a.get 3) (a.get 4) (a.get 5) (a.get 6) (a.get 7) (a.get 8) (a.get 9) (a.get 10) (a.get 11) (a.get 12) (a.get 13) M Q), Aa Try.f20 [1, 1, 1, 1, 1, 1, 0, 1, 0, 0, 1, 0, 0, 1, 1, 1, 1, 1, 0, 1, 0, 0, 1] Q⟩,
  ⟨4, fun a M => dfr a.defers (vb (a.get 0) (a.get 3) (a.get 4) (a.get 5) (a.get 6) (a.get 7) (a.get 8) (a.get 9) (a.get 10) (a.get 11) (a.get 12) M Q), Aa Try.f20 [1, 1, 1, 1, 1, 1, 0, 1, 0, 0, 1, 0, 0, 1, 1, 1, 1, 1, 1] Q⟩]
  [1000] [4]
  ⟨en fun f M h => h f rfl rfl rfl rfl rfl rfl rfl rfl rfl rfl rfl rfl,
  en fun f M h => h f rfl rfl rfl rfl rfl rfl rfl rfl rfl rfl rfl,
  trivial⟩
  h
def Em (x0 x3 x4 x5 x6 x7 x8 x9 x10 x11 x12 x13 : Value) (M : Store) (Q : KP) : Prop :=
 OP (ad .mul (.int .i64 4) x13) fun t72 =>
 OP (ad .add (.int .i64 5) t72) fun t73 =>
 OP (cvI .u64 t73) fun t74 =>
 OP (ad .shr x9 t74) fun t75 =>
 OP (ad .and t75 (.int .i64 15)) fun t76 =>
 OP (ad .lss t76 (.int .i64 8)) fun t78 =>
 BR t78 (
 OP (lenV x10) fun t82 =>
 OP (ad .gtr x7 t82) fun t83 =>
 BR t83 (
 OP (ao .add x11 (.string ⟨#[32]⟩)) fun t86 =>
 OP (lenV x10) fun t91 =>
 OP (ad .sub x7 t91) fun t92 =>
 OP (ad .rem t76 t92) fun t93 =>
 OP (ixA 1 x3 t93) fun t94 =>
 OP (ld 1 false t94 M) fun t95 =>
 OP (ao .add t86 t95) fun t96 =>
 OP (ad .add x13 (.int .i64 1)) fun t69 =>
 gh x0 x3 x4 x5 x6 x7 x8 x9 x10 t96 x12 t69 M Q
 ) (
 OP (ao .add x11 (.string ⟨#[32]⟩)) fun t98 =>
 OP (ad .rem t76 (.int .i64 3)) fun t101 =>
 OP (ixA 1 x4 t101) fun t102 =>
 OP (ld 1 false t102 M) fun t103 =>
 OP (ao .add t98 t103) fun t104 =>
 OP (ad .add x13 (.int .i64 1)) fun t69_1 =>
 gh x0 x3 x4 x5 x6 x7 x8 x9 x10 t104 x12 t69_1 M Q
 )
 ) (
 OP (ao .add x11 (.string ⟨#[32]⟩)) fun t98_1 =>
 OP (ad .rem t76 (.int .i64 3)) fun t101_1 =>
 OP (ixA 1 x4 t101_1) fun t102_1 =>
 OP (ld 1 false t102_1 M) fun t103_1 =>
 OP (ao .add t98_1 t103_1) fun t104_1 =>
 OP (ad .add x13 (.int .i64 1)) fun t69_2 =>
 gh x0 x3 x4 x5 x6 x7 x8 x9 x10 t104_1 x12 t69_2 M Q
 )
theorem Ir (h : Em x0 x3 x4 x5 x6 x7 x8 x9 x10 x11 x12 x13 M Q) : zh x0 x3 x4 x5 x6 x7 x8 x9 x10 x11 x12 x13 M Q := by
 rintro f rfl rfl rfl rfl rfl rfl rfl rfl rfl rfl rfl rfl
 exact ru (N := 202) (ct := .no)
  [⟨0, fun a M => dfr a.defers (gh (a.get 0) (a.get 3) (a.get 4) (a.get 5) (a.get 6) (a.get 7) (a.get 8) (a.get 9) (a.get 10) (a.get 11) (a.get 12) (a.get 13) M Q), Aa Try.f20 [1, 1, 1, 1, 1, 1, 0, 1, 0, 0, 1, 0, 0, 1, 1, 1, 1, 1, 0, 1, 0] Q⟩]
  [] [0]
  ⟨en fun f M h => h f rfl rfl rfl rfl rfl rfl rfl rfl rfl rfl rfl rfl,
  trivial⟩
  h
def Eo (x0 x3 x4 x5 x6 x7 x8 x9 x10 x11 x12 : Value) (M : Store) (Q : KP) : Prop :=
 OP (ad .shr x9 (.int .u64 17)) fun t106 =>
 OP (ad .and t106 (.int .i64 3)) fun t107 =>
 OP (ad .eql t107 (.int .i64 0)) fun t108 =>
 BR t108 (
 OP (lenV x10) fun t112 =>
 OP (ad .gtr x7 t112) fun t113 =>
 BR t113 (
 OP (ad .shr x9 (.int .u64 19)) fun t117 =>
 OP (ad .and t117 (.int .i64 7)) fun t118 =>
 OP (lenV x10) fun t121 =>
 OP (ad .sub x7 t121) fun t122 =>
 OP (ad .rem t118 t122) fun t123 =>
 OP (ixA 1 x3 t123) fun t124 =>
 OP (ld 1 false t124 M) fun t125 =>
 OP (ao .add (.string ⟨#[32, 124, 32]⟩) t125) fun t126 =>
 od x0 x3 x4 x5 x6 x7 x8 x9 x10 x11 t126 M Q
 ) (
 od x0 x3 x4 x5 x6 x7 x8 x9 x10 x11 x12 M Q
 )
 ) (
 od x0 x3 x4 x5 x6 x7 x8 x9 x10 x11 x12 M Q
 )
theorem Is (h : Eo x0 x3 x4 x5 x6 x7 x8 x9 x10 x11 x12 M Q) : vb x0 x3 x4 x5 x6 x7 x8 x9 x10 x11 x12 M Q := by
 rintro f rfl rfl rfl rfl rfl rfl rfl rfl rfl rfl rfl
 exact ru (N := 202) (ct := (.two .no (.here 1000)))
  [⟨1002, fun a M => dfr a.defers (od (a.get 0) (a.get 3) (a.get 4) (a.get 5) (a.get 6) (a.get 7) (a.get 8) (a.get 9) (a.get 10) (a.get 11) (a.get 12) M Q), Aa Try.f20 [1, 1, 1, 1, 1, 1, 0, 1, 0, 0, 1, 0, 0, 1, 1, 1, 1, 1, 1, 1] Q⟩]
  [1000] []
  ⟨en fun f M h => h f rfl rfl rfl rfl rfl rfl rfl rfl rfl rfl rfl,
  trivial⟩
  h
def Ep (x0 x3 x4 x5 x6 x7 x8 x9 x10 x11 x12 : Value) (M : Store) (Q : KP) : Prop :=
 OP (ad .shr x9 (.int .u64 22)) fun t128 =>
 OP (ad .and t128 (.int .i64 7)) fun t129 =>
 OP (ad .eql t129 (.int .i64 0)) fun t130 =>
 BR t130 (
 OP (ao .add x6 (.string ⟨#[112, 104, 111, 110, 121, 32, 112]⟩)) fun t132 =>
 OP (ad .sub x7 (.int .i64 1)) fun t135 =>
 OP (ixA 1 x3 t135) fun t136 =>
 OP (ld 1 false t136 M) fun t137 =>
 OP (ao .add t132 t137) fun t138 =>
 OP (ao .add t138 (.string ⟨#[32, 58]⟩)) fun t139 =>
 OP (ao .add t139 x11) fun t141 =>
 OP (ao .add t141 (.string ⟨#[10]⟩)) fun t142 =>
 qE x0 x3 x4 x5 t142 x7 x8 x9 x10 x11 x12 M Q
 ) (
 qE x0 x3 x4 x5 x6 x7 x8 x9 x10 x11 x12 M Q
 )
theorem It (h : Ep x0 x3 x4 x5 x6 x7 x8 x9 x10 x11 x12 M Q) : od x0 x3 x4 x5 x6 x7 x8 x9 x10 x11 x12 M Q := by
 rintro f rfl rfl rfl rfl rfl rfl rfl rfl rfl rfl rfl
 exact ru (N := 202) (ct := (.two .no (.here 1000)))
  [⟨1002, fun a M => dfr a.defers (qE (a.get 0) (a.get 3) (a.get 4) (a.get 5) (a.get 6) (a.get 7) (a.get 8) (a.get 9) (a.get 10) (a.get 11) (a.get 12) M Q), Aa Try.f20 [1, 1, 1, 1, 1, 1, 0, 1, 0, 0, 1, 0, 0, 1, 1, 1, 1, 1, 1, 1, 1] Q⟩]
  [1000] []
  ⟨en fun f M h => h f rfl rfl rfl rfl rfl rfl rfl rfl rfl rfl rfl,
  trivial⟩
  h
def Er (x0 x3 x4 x5 x6 x7 x8 x9 x10 x11 x12 : Value) (M : Store) (Q : KP) : Prop :=
 OP (ao .add x6 (.string ⟨#[114, 117, 108, 101]⟩)) fun t144 =>
 OP (lenV x10) fun t146 =>
 kP x0 x3 x4 x5 t144 x7 x8 x9 x10 x11 x12 x10 t146 (.int .i64 0) M Q
theorem Iu (h : Er x0 x3 x4 x5 x6 x7 x8 x9 x10 x11 x12 M Q) : qE x0 x3 x4 x5 x6 x7 x8 x9 x10 x11 x12 M Q := by
 rintro f rfl rfl rfl rfl rfl rfl rfl rfl rfl rfl rfl
 exact ru (N := 202) (ct := (.two .no (.two (.two .no (.two (.here 1000) .no)) (.here 1001))))
  [⟨1002, fun a M => dfr a.defers (kP (a.get 0) (a.get 3) (a.get 4) (a.get 5) (a.get 6) (a.get 7) (a.get 8) (a.get 9) (a.get 10) (a.get 11) (a.get 12) (a.get 145) (a.get 146) (a.get 147) M Q), Aa Try.f20 [1, 1, 1, 1, 1, 1, 0, 1, 0, 0, 1, 0, 0, 1, 1, 1, 1, 1, 1, 1, 1, 1, 0, 1, 0] Q⟩,
  ⟨1003, fF, Aa Try.f20 [1, 1, 1, 1, 1, 1, 0, 1, 0, 0, 1, 0, 0, 1, 1, 1, 1, 1, 1, 1, 1, 1, 1] Q⟩]
  [1000, 1001] []
  ⟨en fun f M h => h f rfl rfl rfl rfl rfl rfl rfl rfl rfl rfl rfl rfl rfl rfl,
  el,
  trivial⟩
  h
def w8 (x0 x3 x4 x5 x6 x7 x8 x9 x10 x11 x12 x145 x146 x147 : Value) (M : Store) (Q : KP) : Prop :=
 OP (ad .lss x147 x146) fun t148 =>
 BR t148 (
 OP (ixA 1 x145 x147) fun t149 =>
 OP (ld 1 false t149 M) fun t150 =>
 OP (ao .add x6 (.string ⟨#[32]⟩)) fun t152 =>
 OP (ao .add t152 t150) fun t154 =>
 OP (ad .add x147 (.int .i64 1)) fun t155 =>
 kP x0 x3 x4 x5 t154 x7 x8 x9 x10 x11 x12 x145 x146 t155 M Q
 ) (
 wX x0 x3 x4 x5 x6 x7 x8 x9 x10 x11 x12 M Q
 )
theorem Cb (h : w8 x0 x3 x4 x5 x6 x7 x8 x9 x10 x11 x12 x145 x146 x147 M Q) : kP x0 x3 x4 x5 x6 x7 x8 x9 x10 x11 x12 x145 x146 x147 M Q := by
 rintro f rfl rfl rfl rfl rfl rfl rfl rfl rfl rfl rfl rfl rfl rfl
 refine lp ?_
 exact ru (N := 202) (ct := .no)
  [⟨0, fun a M => dfr a.defers (kP (a.get 0) (a.get 3) (a.get 4) (a.get 5) (a.get 6) (a.get 7) (a.get 8) (a.get 9) (a.get 10) (a.get 11) (a.get 12) (a.get 145) (a.get 146) (a.get 147) M Q), Aa Try.f20 [1, 1, 1, 1, 1, 1, 0, 1, 0, 0, 1, 0, 0, 1, 1, 1, 1, 1, 1, 1, 1, 1, 0, 1, 0] Q⟩,
  ⟨6, fun a M => dfr a.defers (wX (a.get 0) (a.get 3) (a.get 4) (a.get 5) (a.get 6) (a.get 7) (a.get 8) (a.get 9) (a.get 10) (a.get 11) (a.get 12) M Q), Aa Try.f20 [1, 1, 1, 1, 1, 1, 0, 1, 0, 0, 1, 0, 0, 1, 1, 1, 1, 1, 1, 1, 1, 1, 1] Q⟩]
  [] [0, 6]
  ⟨en fun f M h => h f rfl rfl rfl rfl rfl rfl rfl rfl rfl rfl rfl rfl rfl rfl,
  en fun f M h => h f rfl rfl rfl rfl rfl rfl rfl rfl rfl rfl rfl,
  trivial⟩
  h
def B3 (x0 x3 x4 x5 x6 x7 x8 x9 x10 x11 x12 : Value) (M : Store) (Q : KP) : Prop :=
 OP (ao .add x6 (.string ⟨#[32, 58]⟩)) fun t157 =>
 OP (ao .add t157 x11) fun t159 =>
 OP (ao .add t159 x12) fun t161 =>
 OP (ao .add t161 (.string ⟨#[32, 61]⟩)) fun t162 =>
 OP (lenV x10) fun t164 =>
 kQ x0 x3 x4 x5 t162 x7 x8 x9 t164 (.int .i64 0) M Q
theorem G5 (h : B3 x0 x3 x4 x5 x6 x7 x8 x9 x10 x11 x12 M Q) : wX x0 x3 x4 x5 x6 x7 x8 x9 x10 x11 x12 M Q := by
 rintro f rfl rfl rfl rfl rfl rfl rfl rfl rfl rfl rfl
 exact ru (N := 202) (ct := (.two .no (.two (.two .no (.two (.here 1000) .no)) (.here 1001))))
  [⟨1002, fun a M => dfr a.defers (kQ (a.get 0) (a.get 3) (a.get 4) (a.get 5) (a.get 6) (a.get 7) (a.get 8) (a.get 9) (a.get 164) (a.get 165) M Q), Aa Try.f20 [1, 1, 1, 1, 1, 1, 0, 1, 0, 0, 1, 0, 0, 1, 1, 1, 1, 1, 1, 1, 1, 1, 1, 1, 0, 1, 0] Q⟩,
  ⟨1003, fF, Aa Try.f20 [1, 1, 1, 1, 1, 1, 0, 1, 0, 0, 1, 0, 0, 1, 1, 1, 1, 1, 1, 1, 1, 1, 1, 1, 1] Q⟩]
  [1000, 1001] []
  ⟨en fun f M h => h f rfl rfl rfl rfl rfl rfl rfl rfl rfl rfl,
  el,
  trivial⟩
  h
def w9 (x0 x3 x4 x5 x6 x7 x8 x9 x164 x165 : Value) (M : Store) (Q : KP) : Prop :=
 OP (ad .lss x165 x164) fun t166 =>
 BR t166 (
 wY x0 x3 x4 x5 x6 x7 x8 x9 x164 x165 M Q
 ) (
 wZ x0 x3 x4 x5 x6 x7 x8 M Q
 )
theorem Cc (h : w9 x0 x3 x4 x5 x6 x7 x8 x9 x164 x165 M Q) : kQ x0 x3 x4 x5 x6 x7 x8 x9 x164 x165 M Q := by
 rintro f rfl rfl rfl rfl rfl rfl rfl rfl rfl rfl
 refine lp ?_
 exact ru (N := 202) (ct := (.two .no (.two .no (.here 1000))))
  [⟨1002, fun a M => dfr a.defers (wY (a.get 0) (a.get 3) (a.get 4) (a.get 5) (a.get 6) (a.get 7) (a.get 8) (a.get 9) (a.get 164) (a.get 165) M Q), Aa Try.f20 [1, 1, 1, 1, 1, 1, 0, 1, 0, 0, 1, 0, 0, 1, 1, 1, 1, 1, 1, 1, 1, 1, 1, 1, 0, 1, 0, 0, 1, 1] Q⟩,
  ⟨8, fun a M => dfr a.defers (wZ (a.get 0) (a.get 3) (a.get 4) (a.get 5) (a.get 6) (a.get 7) (a.get 8) M Q), Aa Try.f20 [1, 1, 1, 1, 1, 1, 0, 1, 0, 0, 1, 0, 0, 1, 1, 1, 1, 1, 1, 1, 1, 1, 1, 1, 1] Q⟩]
  [1000] [8]
  ⟨en fun f M h => h f rfl rfl rfl rfl rfl rfl rfl rfl rfl rfl,
  en fun f M h => h f rfl rfl rfl rfl rfl rfl rfl,
  trivial⟩
  h
def B4 (x0 x3 x4 x5 x6 x7 x8 x9 x164 x165 : Value) (M : Store) (Q : KP) : Prop :=
 OP (ad .gtr x165 (.int .i64 0)) fun t169 =>
 BR t169 (
 OP (ao .add x6 (.string ⟨#[32, 44]⟩)) fun t171 =>
 n0 x0 x3 x4 x5 t171 x7 x8 x9 x165 x164 x165 M Q
 ) (
 n0 x0 x3 x4 x5 x6 x7 x8 x9 x165 x164 x165 M Q
 )
theorem G6 (h : B4 x0 x3 x4 x5 x6 x7 x8 x9 x164 x165 M Q) : wY x0 x3 x4 x5 x6 x7 x8 x9 x164 x165 M Q := by
 rintro f rfl rfl rfl rfl rfl rfl rfl rfl rfl rfl
 exact ru (N := 202) (ct := (.two (.two (.two .no (.two .no (.here 1000))) .no) (.here 1001)))
  [⟨1002, fun a M => dfr a.defers (n0 (a.get 0) (a.get 3) (a.get 4) (a.get 5) (a.get 6) (a.get 7) (a.get 8) (a.get 9) (a.get 17) (a.get 164) (a.get 165) M Q), Aa Try.f20 [1, 1, 1, 1, 1, 1, 0, 1, 0, 0, 1, 0, 0, 1, 1, 1, 1, 1, 1, 1, 1, 1, 1, 1, 0, 1, 0, 0, 1, 1, 0, 0, 1, 1] Q⟩,
  ⟨1003, fF, Aa Try.f20 [1, 1, 1, 1, 1, 1, 0, 1, 0, 0, 1, 0, 0, 1, 1, 1, 1, 1, 1, 1, 1, 1, 1, 1, 0, 1, 0, 0, 1, 1, 1] Q⟩]
  [1000, 1001] []
  ⟨en fun f M h => h f rfl rfl rfl rfl rfl rfl rfl rfl rfl rfl rfl,
  el,
  trivial⟩
  h
def B5 (x0 x3 x4 x5 x6 x7 x8 : Value) (M : Store) (Q : KP) : Prop :=
 OP (ao .add x6 (.string ⟨#[10]⟩)) fun t199 =>
 oa x0 x3 x4 x5 t199 x7 x8 M Q
theorem G7 (h : B5 x0 x3 x4 x5 x6 x7 x8 M Q) : wZ x0 x3 x4 x5 x6 x7 x8 M Q := by
 rintro f rfl rfl rfl rfl rfl rfl rfl
 exact ru (N := 202) (ct := .no)
  [⟨0, fun a M => dfr a.defers (oa (a.get 0) (a.get 3) (a.get 4) (a.get 5) (a.get 6) (a.get 7) (a.get 8) M Q), Aa Try.f20 [1, 1, 1, 1, 1, 1, 0, 1, 0, 0, 1, 1] Q⟩]
  [] [0]
  ⟨en fun f M h => h f rfl rfl rfl rfl rfl rfl rfl,
  trivial⟩
  h
def B6 (x0 x3 x4 x5 x6 x7 x8 x9 x17 x164 x165 : Value) (M : Store) (Q : KP) : Prop :=
 OP (ad .mul (.int .i64 2) x17) fun t175 =>
 OP (ad .add (.int .i64 24) t175) fun t176 =>
 OP (cvI .u64 t176) fun t177 =>
 OP (ad .shr x9 t177) fun t178 =>
 OP (ad .and t178 (.int .i64 7)) fun t179 =>
 OP (lenV x5) fun t181 =>
 OP (ad .rem t179 t181) fun t182 =>
 OP (ixA 1 x5 t182) fun t183 =>
 OP (ld 1 false t183 M) fun t184 =>
 OP (ad .shr x9 (.int .u64 28)) fun t186 =>
 OP (ad .and t186 (.int .i64 3)) fun t187 =>
 OP (ad .gtr t187 (.int .i64 0)) fun t188 =>
 BR t188 (
 OP (ao .eql t184 (.string ⟨#[97, 108, 108, 32, 59, 32, 102, 97, 105, 108]⟩)) fun t191 =>
 BR t191 (
 OP (ao .add x6 (.string ⟨#[32]⟩)) fun t194 =>
 OP (ao .add t194 (.string ⟨#[97, 108, 108]⟩)) fun t196 =>
 kR x0 x3 x4 x5 t196 x7 x8 x9 x164 x165 M Q
 ) (
 OP (ao .add x6 (.string ⟨#[32]⟩)) fun t194_1 =>
 OP (ao .add t194_1 t184) fun t196_1 =>
 kR x0 x3 x4 x5 t196_1 x7 x8 x9 x164 x165 M Q
 )
 ) (
 OP (ao .add x6 (.string ⟨#[32]⟩)) fun t194_2 =>
 OP (ao .add t194_2 t184) fun t196_2 =>
 kR x0 x3 x4 x5 t196_2 x7 x8 x9 x164 x165 M Q
 )
theorem G8 (h : B6 x0 x3 x4 x5 x6 x7 x8 x9 x17 x164 x165 M Q) : n0 x0 x3 x4 x5 x6 x7 x8 x9 x17 x164 x165 M Q := by
 rintro f rfl rfl rfl rfl rfl rfl rfl rfl rfl rfl rfl
 exact ru (N := 202) (ct := .no)
  [⟨0, fun a M => dfr a.defers (kR (a.get 0) (a.get 3) (a.get 4) (a.get 5) (a.get 6) (a.get 7) (a.get 8) (a.get 9) (a.get 164) (a.get 165) M Q), Aa Try.f20 [1, 1, 1, 1, 1, 1, 0, 1, 0, 0, 1, 0, 0, 1, 1, 1, 1, 1, 1, 1, 1, 1, 1, 1, 0, 1, 0, 0, 1, 1, 1] Q⟩]
  [] [0]
  ⟨en fun f M h => h f rfl rfl rfl rfl rfl rfl rfl rfl rfl rfl,
  trivial⟩
  h
def B7 (x0 x3 x4 x5 x6 x7 x8 : Value) (M : Store) (Q : KP) : Prop :=
 OP (ad .add x8 (.int .i64 1)) fun t35 =>
 nZ x0 x3 x4 x5 x6 x7 t35 M Q
theorem G9 (h : B7 x0 x3 x4 x5 x6 x7 x8 M Q) : oa x0 x3 x4 x5 x6 x7 x8 M Q := by
 rintro f rfl rfl rfl rfl rfl rfl rfl
 exact ru (N := 202) (ct := .no)
  [⟨0, fun a M => dfr a.defers (nZ (a.get 0) (a.get 3) (a.get 4) (a.get 5) (a.get 6) (a.get 7) (a.get 8) M Q), Aa Try.f20 [1, 1, 1, 1, 1, 1, 0, 1, 0] Q⟩]
  [] [0]
  ⟨en fun f M h => h f rfl rfl rfl rfl rfl rfl rfl,
  trivial⟩
  h
def B8 (x0 x3 x4 x5 x6 x7 x8 x9 x164 x165 : Value) (M : Store) (Q : KP) : Prop :=
 OP (ad .add x165 (.int .i64 1)) fun t197 =>
 kQ x0 x3 x4 x5 x6 x7 x8 x9 x164 t197 M Q
theorem Ha (h : B8 x0 x3 x4 x5 x6 x7 x8 x9 x164 x165 M Q) : kR x0 x3 x4 x5 x6 x7 x8 x9 x164 x165 M Q := by
 rintro f rfl rfl rfl rfl rfl rfl rfl rfl rfl rfl
 exact ru (N := 202) (ct := .no)
  [⟨0, fun a M => dfr a.defers (kQ (a.get 0) (a.get 3) (a.get 4) (a.get 5) (a.get 6) (a.get 7) (a.get 8) (a.get 9) (a.get 164) (a.get 165) M Q), Aa Try.f20 [1, 1, 1, 1, 1, 1, 0, 1, 0, 0, 1, 0, 0, 1, 1, 1, 1, 1, 1, 1, 1, 1, 1, 1, 0, 1, 0] Q⟩]
  [] [0]
  ⟨en fun f M h => h f rfl rfl rfl rfl rfl rfl rfl rfl rfl rfl,
  trivial⟩
  h
end Go.G
