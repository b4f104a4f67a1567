/-  -/
import Derived.Test.YtnonfejhkbaikaaPGN
open Go.RowKit
namespace Go.G
open Go.Ab Go.Proofs
set_option linter.unusedVariables false
set_option maxRecDepth 100000
def P_l8_GrphRules_1 (x1 x5 x7 x8 : Value) (M : Store) (Q : KP) : Prop :=
  ∀ f : Nat → Value, f 1 = x1 → f 5 = x5 → f 7 = x7 → f 8 = x8 → At Try.prog Ex none Try.f6 [1, 1, 1, 1, 0, 1, 0] ⟨⟨98, f⟩, []⟩ M Q
def P_l8_GrphRules_2 (x1 x5 x7 x8 : Value) (M : Store) (Q : KP) : Prop :=
  ∀ f : Nat → Value, f 1 = x1 → f 5 = x5 → f 7 = x7 → f 8 = x8 → At Try.prog Ex none Try.f6 [1, 1, 1, 1, 0, 1, 0, 0, 1] ⟨⟨98, f⟩, []⟩ M Q
def P_l8_GrphRules_3 (x5 x7 : Value) (M : Store) (Q : KP) : Prop :=
  ∀ f : Nat → Value, f 5 = x5 → f 7 = x7 → At Try.prog Ex none Try.f6 [1, 1, 1, 1, 1] ⟨⟨98, f⟩, []⟩ M Q
def S_l8_GrphRules (x0 x1 : Value) (M : Store) (Q : KP) : Prop :=
  R F.lM #[x0] M fun t16 M1 =>
  R F.r4_Parse #[t16] M1 fun t17 M2 =>
  OP (tup t17 0) fun t18 =>
  OP (tup t17 1) fun t19 =>
  LT (.pointer (some ⟨M2.n, 0, none⟩)) (M2.push (some (.inl ([(.slice none 0 0), (.slice none 0 0)], Ty.api_Manifest, true)))) fun t5 M3 =>
  LT (.pointer (some ⟨M3.n, 0, none⟩)) (M3.push (some (.inl ([(.int .i64 0), (.int .i64 0), (.int .i64 0)], Ty.api_Fault, true)))) fun t6 M4 =>
  OP (st 2 t5 t18 M4) fun M5 =>
  OP (st 3 t6 t19 M5) fun M6 =>
  OP (fad 0 t6) fun t20 =>
  OP (ld 1 false t20 M6) fun t21 =>
  OP (binI .neq t21 (.int .i64 0)) fun t22 =>
  BR t22 (
  NTs [(.bool false)] ∧ Q (.bool false) M6
  ) (
  P_l8_GrphRules_1 x1 t5 (.slice none 0 0) (.int .i64 0) M6 Q
  )
theorem T_l8_GrphRules {x0 x1 : Value} {M : Store} {Q : KP} (h : S_l8_GrphRules x0 x1 M Q) : R F.l8_GrphRules #[x0, x1] M Q := by
  refine runs_of (c := bodyOf Try.f6) Try.func6 rfl (by kernel_rfl) (by kernel_rfl) ?_
  unfold At
  exact rule (B := 1000) (N := 98) (ct := (.two .no (.two .no (.two .no (.two .no (.two (.two .no (.two (.here 1000) .no)) (.here 1001)))))))
    [⟨1002, fun a M => dfr a.defers (P_l8_GrphRules_1 (a.get 1) (a.get 5) (a.get 7) (a.get 8) M Q), fun a M => At Try.prog Ex none Try.f6 [1, 1, 1, 1, 0, 1, 0] a M Q⟩,
    ⟨1003, fun _ _ => False, fun a M => At Try.prog Ex none Try.f6 [1, 1, 1, 1, 1] a M Q⟩,
    ⟨1, fun a M => kfin Try.prog Try.f6.results.toList Q 1 a M, fun a M => kfin Try.prog Try.f6.results.toList Q 1 a M⟩]
    [1000, 1001] [1] (by kernel_rfl) (by kernel_rfl) (by kernel_rfl) (by kernel_rfl) (by kernel_rfl)
    ⟨fun a M hn h => by obtain ⟨⟨n, f⟩, ds⟩ := a; have hn : n = 98 := hn; subst hn; obtain ⟨hd, h⟩ := dfr_iff h; have hd : ds = [] := hd; subst hd; exact h f rfl rfl rfl rfl,
    fun _ _ _ h => h.elim,
    fun _ _ _ h => h,
    trivial⟩
    (cast (by kernel_rfl) h)
def S_l8_GrphRules_1 (x1 x5 x7 x8 : Value) (M : Store) (Q : KP) : Prop :=
  OP (lenV x1) fun t25 =>
  OP (binI .lss x8 t25) fun t26 =>
  BR t26 (
  OP (binI .lss x8 (.int .i64 4)) fun t29 =>
  BR t29 (
  P_l8_GrphRules_2 x1 x5 x7 x8 M Q
  ) (
  P_l8_GrphRules_3 x5 x7 M Q
  )
  ) (
  P_l8_GrphRules_3 x5 x7 M Q
  )
theorem T_l8_GrphRules_1 {x1 x5 x7 x8 : Value} {M : Store} {Q : KP} (h : S_l8_GrphRules_1 x1 x5 x7 x8 M Q) : P_l8_GrphRules_1 x1 x5 x7 x8 M Q := by
  intro f h1 h5 h7 h8; subst h1; subst h5; subst h7; subst h8
  unfold At
  refine cast (by kernel_rfl) (CW.loop (P := Try.prog) (E := Ex) (rd := none) (x := sub (bodyOf Try.f6) [1, 1, 1, 1, 0, 1, 0, 0]) (a := ⟨⟨98, f⟩, []⟩) (M := M) (K := kcont Try.prog Ex none (bodyOf Try.f6) [1, 1, 1, 1, 0, 1, 0] (kfin Try.prog Try.f6.results.toList Q)) ?_)
  exact rule (B := 1000) (N := 98) (ct := (.two .no (.here 1000)))
    [⟨1002, fun a M => dfr a.defers (P_l8_GrphRules_2 (a.get 1) (a.get 5) (a.get 7) (a.get 8) M Q), fun a M => At Try.prog Ex none Try.f6 [1, 1, 1, 1, 0, 1, 0, 0, 1] a M Q⟩,
    ⟨2, fun a M => dfr a.defers (P_l8_GrphRules_3 (a.get 5) (a.get 7) M Q), fun a M => At Try.prog Ex none Try.f6 [1, 1, 1, 1, 1] a M Q⟩]
    [1000] [2] (by kernel_rfl) (by kernel_rfl) (by kernel_rfl) (by kernel_rfl) (by kernel_rfl)
    ⟨fun a M hn h => by obtain ⟨⟨n, f⟩, ds⟩ := a; have hn : n = 98 := hn; subst hn; obtain ⟨hd, h⟩ := dfr_iff h; have hd : ds = [] := hd; subst hd; exact h f rfl rfl rfl rfl,
    fun a M hn h => by obtain ⟨⟨n, f⟩, ds⟩ := a; have hn : n = 98 := hn; subst hn; obtain ⟨hd, h⟩ := dfr_iff h; have hd : ds = [] := hd; subst hd; exact h f rfl rfl,
    trivial⟩
    (cast (by kernel_rfl) h)
def S_l8_GrphRules_2 (x1 x5 x7 x8 : Value) (M : Store) (Q : KP) : Prop :=
  OP (bldL (.string ⟨#[]⟩) 1 8 [(0, (.string ⟨#[97]⟩)), (1, (.string ⟨#[98]⟩)), (2, (.string ⟨#[99]⟩)), (3, (.string ⟨#[100]⟩)), (4, (.string ⟨#[101]⟩)), (5, (.string ⟨#[102]⟩)), (6, (.string ⟨#[122, 122]⟩)), (7, (.string ⟨#[112, 97]⟩))]) fun c =>
  LT (.slice (some ⟨M.n, 0, none⟩) 8 8) (M.push (some (.inl (c, Ty.string, true)))) fun t34 M1 =>
  OP (ixA 1 x1 x8) fun t37 =>
  OP (ld 1 false t37 M1) fun t38 =>
  OP (binI .and t38 (.int .i64 7)) fun t39 =>
  OP (ixA 1 t34 t39) fun t40 =>
  OP (ld 1 false t40 M1) fun t41 =>
  OP (bldL (.string ⟨#[]⟩) 1 1 [(0, t41)]) fun c_1 =>
  LT (.slice (some ⟨M1.n, 0, none⟩) 1 1) (M1.push (some (.inl (c_1, Ty.string, true)))) fun t42 M2 =>
  OP2 (appV 1 Ty.string x7 t42 M2) fun t43 M3 =>
  OP (binI .add x8 (.int .i64 1)) fun t32 =>
  P_l8_GrphRules_1 x1 x5 t43 t32 M3 Q
theorem T_l8_GrphRules_2 {x1 x5 x7 x8 : Value} {M : Store} {Q : KP} (h : S_l8_GrphRules_2 x1 x5 x7 x8 M Q) : P_l8_GrphRules_2 x1 x5 x7 x8 M Q := by
  intro f h1 h5 h7 h8; subst h1; subst h5; subst h7; subst h8
  unfold At
  exact rule (B := 1000) (N := 98) (ct := .no)
    [⟨0, fun a M => dfr a.defers (P_l8_GrphRules_1 (a.get 1) (a.get 5) (a.get 7) (a.get 8) M Q), fun a M => At Try.prog Ex none Try.f6 [1, 1, 1, 1, 0, 1, 0] a M Q⟩]
    [] [0] (by kernel_rfl) (by kernel_rfl) (by kernel_rfl) (by kernel_rfl) (by kernel_rfl)
    ⟨fun a M hn h => by obtain ⟨⟨n, f⟩, ds⟩ := a; have hn : n = 98 := hn; subst hn; obtain ⟨hd, h⟩ := dfr_iff h; have hd : ds = [] := hd; subst hd; exact h f rfl rfl rfl rfl,
    trivial⟩
    (cast (by kernel_rfl) h)
def S_l8_GrphRules_3 (x5 x7 : Value) (M : Store) (Q : KP) : Prop :=
  OP (ld 2 true x5 M) fun t45 =>
  R F.grph_Rules #[t45] M fun t46 M1 =>
  OP (tup t46 0) fun t47 =>
  OP (tup t46 1) fun t48 =>
  OP (ld 2 true x5 M1) fun t50 =>
  R F.r4_Rules #[t50] M1 fun t51 M2 =>
  OP (tup t51 0) fun t52 =>
  OP (tup t51 1) fun t53 =>
  OP (ld 2 true x5 M2) fun t54 =>
  LT (.pointer (some ⟨M2.n, 0, none⟩)) (M2.push (some (.inl ([(.slice none 0 0), (.slice none 0 0)], Ty.api_Manifest, true)))) fun t13 M3 =>
  OP (st 2 t13 t54 M3) fun M4 =>
  OP (fad 1 t13) fun t56 =>
  OP (st 1 t56 x7 M4) fun M5 =>
  OP (abin Try.prog false .eql Ty.bool t48 t53) fun t59 =>
  BR t59 (
  R F.r1_SameInts #[t47, t52] M5 fun t63 M6 =>
  TDx [0, 0, 3, 7, 15, 15, 63, 127, 255, 511, 511, 2047, 511, 511, 16383, 32767, 65535, 131071, 262143, 524287, 262143, 2097151, 4194303, 8388607, 16777215, 33554431, 67108863, 33554431, 268435455, 536870911, 1073741823, 2147483647, 4294967295, 4294967295, 17179869183, 34359738367, 68719476735, 137438953471, 274877906943, 549755813887, 1099511627775, 2199023255551] [M5.n, M5.n, M5.n, M5.n, M5.n, M5.n, M5.n] 6 M5 M6 ∧
  BR t63 (
  OP (ld 2 true x5 M6) fun t66 =>
  R F.grph_Wanted #[t66, x7] M6 fun t68 M7 =>
  TDj [9, 10] [M5.n, M5.n, M5.n, M5.n, M5.n, M5.n, M5.n, M6.n, M6.n, M6.n, M6.n, M6.n] M6 M7 ∧
  OP (ld 2 true x5 M7) fun t69 =>
  R F.r4_Wanted #[t69, x7] M7 fun t71 M8 =>
  TDx [0, 0, 3, 7, 15, 15, 63, 127, 255, 511, 511, 2047, 511, 511, 16383, 32767, 65535, 131071, 262143, 524287, 262143, 2097151, 4194303, 8388607, 16777215, 33554431, 67108863, 33554431, 268435455, 536870911, 1073741823, 2147483647, 4294967295, 4294967295, 17179869183, 34359738367, 68719476735, 137438953471, 274877906943, 549755813887, 1099511627775, 2199023255551] [M5.n, M5.n, M5.n, M5.n, M5.n, M5.n, M5.n, M6.n, M6.n, M6.n, M6.n, M6.n, M7.n, M7.n, M7.n] 14 M7 M8 ∧
  R F.r1_SameInts #[t68, t71] M8 fun t72 M9 =>
  TDx [0, 0, 3, 7, 15, 15, 63, 127, 255, 511, 511, 2047, 511, 511, 16383, 32767, 65535, 131071, 262143, 524287, 262143, 2097151, 4194303, 8388607, 16777215, 33554431, 67108863, 33554431, 268435455, 536870911, 1073741823, 2147483647, 4294967295, 4294967295, 17179869183, 34359738367, 68719476735, 137438953471, 274877906943, 549755813887, 1099511627775, 2199023255551] [M5.n, M5.n, M5.n, M5.n, M5.n, M5.n, M5.n, M6.n, M6.n, M6.n, M6.n, M6.n, M7.n, M7.n, M7.n, M8.n] 15 M8 M9 ∧
  BR t72 (
  OP (ld 2 true x5 M9) fun t75 =>
  R F.grph_Wanted #[t75, (.slice none 0 0)] M9 fun t76 M10 =>
  TDj [18] [M5.n, M5.n, M5.n, M5.n, M5.n, M5.n, M5.n, M6.n, M6.n, M6.n, M6.n, M6.n, M7.n, M7.n, M7.n, M8.n, M9.n, M9.n, M9.n, M9.n] M9 M10 ∧
  OP (ld 2 true x5 M10) fun t77 =>
  R F.r4_Wanted #[t77, (.slice none 0 0)] M10 fun t78 M11 =>
  TDx [0, 0, 3, 7, 15, 15, 63, 127, 255, 511, 511, 2047, 511, 511, 16383, 32767, 65535, 131071, 262143, 524287, 262143, 2097151, 4194303, 8388607, 16777215, 33554431, 67108863, 33554431, 268435455, 536870911, 1073741823, 2147483647, 4294967295, 4294967295, 17179869183, 34359738367, 68719476735, 137438953471, 274877906943, 549755813887, 1099511627775, 2199023255551] [M5.n, M5.n, M5.n, M5.n, M5.n, M5.n, M5.n, M6.n, M6.n, M6.n, M6.n, M6.n, M7.n, M7.n, M7.n, M8.n, M9.n, M9.n, M9.n, M9.n, M10.n, M10.n] 21 M10 M11 ∧
  R F.r1_SameInts #[t76, t78] M11 fun t79 M12 =>
  TDx [0, 0, 3, 7, 15, 15, 63, 127, 255, 511, 511, 2047, 511, 511, 16383, 32767, 65535, 131071, 262143, 524287, 262143, 2097151, 4194303, 8388607, 16777215, 33554431, 67108863, 33554431, 268435455, 536870911, 1073741823, 2147483647, 4294967295, 4294967295, 17179869183, 34359738367, 68719476735, 137438953471, 274877906943, 549755813887, 1099511627775, 2199023255551] [M5.n, M5.n, M5.n, M5.n, M5.n, M5.n, M5.n, M6.n, M6.n, M6.n, M6.n, M6.n, M7.n, M7.n, M7.n, M8.n, M9.n, M9.n, M9.n, M9.n, M10.n, M10.n, M11.n] 22 M11 M12 ∧
  BR t79 (
  OP (ld 2 true t13 M12) fun t82 =>
  R F.grph_Wanted #[t82, (.slice none 0 0)] M12 fun t83 M13 =>
  TDj [25] [M5.n, M5.n, M5.n, M5.n, M5.n, M5.n, M5.n, M6.n, M6.n, M6.n, M6.n, M6.n, M7.n, M7.n, M7.n, M8.n, M9.n, M9.n, M9.n, M9.n, M10.n, M10.n, M11.n, M12.n, M12.n, M12.n, M12.n] M12 M13 ∧
  OP (ld 2 true t13 M13) fun t84 =>
  R F.r4_Wanted #[t84, (.slice none 0 0)] M13 fun t85 M14 =>
  TDx [0, 0, 3, 7, 15, 15, 63, 127, 255, 511, 511, 2047, 511, 511, 16383, 32767, 65535, 131071, 262143, 524287, 262143, 2097151, 4194303, 8388607, 16777215, 33554431, 67108863, 33554431, 268435455, 536870911, 1073741823, 2147483647, 4294967295, 4294967295, 17179869183, 34359738367, 68719476735, 137438953471, 274877906943, 549755813887, 1099511627775, 2199023255551] [M5.n, M5.n, M5.n, M5.n, M5.n, M5.n, M5.n, M6.n, M6.n, M6.n, M6.n, M6.n, M7.n, M7.n, M7.n, M8.n, M9.n, M9.n, M9.n, M9.n, M10.n, M10.n, M11.n, M12.n, M12.n, M12.n, M12.n, M13.n, M13.n] 28 M13 M14 ∧
  R F.r1_SameInts #[t83, t85] M14 fun t86 M15 =>
  TDx [0, 0, 3, 7, 15, 15, 63, 127, 255, 511, 511, 2047, 511, 511, 16383, 32767, 65535, 131071, 262143, 524287, 262143, 2097151, 4194303, 8388607, 16777215, 33554431, 67108863, 33554431, 268435455, 536870911, 1073741823, 2147483647, 4294967295, 4294967295, 17179869183, 34359738367, 68719476735, 137438953471, 274877906943, 549755813887, 1099511627775, 2199023255551] [M5.n, M5.n, M5.n, M5.n, M5.n, M5.n, M5.n, M6.n, M6.n, M6.n, M6.n, M6.n, M7.n, M7.n, M7.n, M8.n, M9.n, M9.n, M9.n, M9.n, M10.n, M10.n, M11.n, M12.n, M12.n, M12.n, M12.n, M13.n, M13.n, M14.n] 29 M14 M15 ∧
  BR t86 (
  OP (bldS #[(.slice none 0 0), (.slice none 0 0)] [(0, 1), (1, 1)] []) fun t89 =>
  R F.grph_Wanted #[t89, x7] M15 fun t91 M16 =>
  TDx [0, 0, 3, 7, 15, 15, 63, 127, 255, 511, 511, 2047, 511, 511, 16383, 32767, 65535, 131071, 262143, 524287, 262143, 2097151, 4194303, 8388607, 16777215, 33554431, 67108863, 33554431, 268435455, 536870911, 1073741823, 2147483647, 4294967295, 4294967295, 17179869183, 34359738367, 68719476735, 137438953471, 274877906943, 549755813887, 1099511627775, 2199023255551] [M5.n, M5.n, M5.n, M5.n, M5.n, M5.n, M5.n, M6.n, M6.n, M6.n, M6.n, M6.n, M7.n, M7.n, M7.n, M8.n, M9.n, M9.n, M9.n, M9.n, M10.n, M10.n, M11.n, M12.n, M12.n, M12.n, M12.n, M13.n, M13.n, M14.n, M15.n, M15.n, M15.n, M15.n, M15.n] 34 M15 M16 ∧
  OP (lenV t91) fun t92 =>
  OP (binI .eql t92 (.int .i64 0)) fun t93 =>
  BR t93 (
  R F.l8_awake #[] M16 fun t96 M17 =>
  TDx [0, 0, 3, 7, 15, 15, 63, 127, 255, 511, 511, 2047, 511, 511, 16383, 32767, 65535, 131071, 262143, 524287, 262143, 2097151, 4194303, 8388607, 16777215, 33554431, 67108863, 33554431, 268435455, 536870911, 1073741823, 2147483647, 4294967295, 4294967295, 17179869183, 34359738367, 68719476735, 137438953471, 274877906943, 549755813887, 1099511627775, 2199023255551] [M5.n, M5.n, M5.n, M5.n, M5.n, M5.n, M5.n, M6.n, M6.n, M6.n, M6.n, M6.n, M7.n, M7.n, M7.n, M8.n, M9.n, M9.n, M9.n, M9.n, M10.n, M10.n, M11.n, M12.n, M12.n, M12.n, M12.n, M13.n, M13.n, M14.n, M15.n, M15.n, M15.n, M15.n, M15.n, M16.n, M16.n, M16.n, M16.n, M16.n] 39 M16 M17 ∧
  NTs [t96] ∧ Q t96 M17
  ) (
  NTs [(.bool false)] ∧ Q (.bool false) M16
  )
  ) (
  NTs [(.bool false)] ∧ Q (.bool false) M15
  )
  ) (
  NTs [(.bool false)] ∧ Q (.bool false) M12
  )
  ) (
  NTs [(.bool false)] ∧ Q (.bool false) M9
  )
  ) (
  NTs [(.bool false)] ∧ Q (.bool false) M6
  )
  ) (
  NTs [(.bool false)] ∧ Q (.bool false) M5
  )
theorem T_l8_GrphRules_3 {x5 x7 : Value} {M : Store} {Q : KP} (h : S_l8_GrphRules_3 x5 x7 M Q) : P_l8_GrphRules_3 x5 x7 M Q := by
  intro f h5 h7; subst h5; subst h7
  unfold At
  exact rule (B := 1000) (N := 98) (ct := .no)
    [⟨1, fun a M => kfin Try.prog Try.f6.results.toList Q 1 a M, fun a M => kfin Try.prog Try.f6.results.toList Q 1 a M⟩]
    [] [1] (by kernel_rfl) (by kernel_rfl) (by kernel_rfl) (by kernel_rfl) (by kernel_rfl)
    ⟨fun _ _ _ h => h,
    trivial⟩
    (cast (by kernel_rfl) h)
end Go.G
