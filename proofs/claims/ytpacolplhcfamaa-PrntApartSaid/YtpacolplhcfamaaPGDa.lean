/-  -/
import Derived.Test.YtpacolplhcfamaaPGN
open Go.RowKit
namespace Go.G
open Go.Ab Go.Proofs
set_option linter.unusedVariables false
set_option maxRecDepth 100000
def P_fettlelaw10_PrntApart_1 (x0 x1 x2 x3 x4 : Value) (M : Store) (Q : Value → Store → Prop) : Prop :=
  ∀ f : Nat → Value, f 0 = x0 → f 1 = x1 → f 2 = x2 → f 3 = x3 → f 4 = x4 → At Try.prog Ex none Try.f6 [1, 1] ⟨⟨149, f⟩, []⟩ M Q
def P_fettlelaw10_PrntApart_2 (x0 x1 x2 x3 x4 x32 x33 : Value) (M : Store) (Q : Value → Store → Prop) : Prop :=
  ∀ f : Nat → Value, f 0 = x0 → f 1 = x1 → f 2 = x2 → f 3 = x3 → f 4 = x4 → f 32 = x32 → f 33 = x33 → At Try.prog Ex none Try.f6 [1, 1, 0, 1, 0] ⟨⟨149, f⟩, []⟩ M Q
def P_fettlelaw10_PrntApart_3 (x0 x1 x2 x3 x4 x32 x33 : Value) (M : Store) (Q : Value → Store → Prop) : Prop :=
  ∀ f : Nat → Value, f 0 = x0 → f 1 = x1 → f 2 = x2 → f 3 = x3 → f 4 = x4 → f 32 = x32 → f 33 = x33 → At Try.prog Ex none Try.f6 [1, 1, 0, 1, 0, 0, 1, 1] ⟨⟨149, f⟩, []⟩ M Q
def P_fettlelaw10_PrntApart_4 (x0 x1 x2 x3 x4 : Value) (M : Store) (Q : Value → Store → Prop) : Prop :=
  ∀ f : Nat → Value, f 0 = x0 → f 1 = x1 → f 2 = x2 → f 3 = x3 → f 4 = x4 → At Try.prog Ex none Try.f6 [1, 1, 1] ⟨⟨149, f⟩, []⟩ M Q
def P_fettlelaw10_PrntApart_5 (x0 x1 x2 x12 : Value) (M : Store) (Q : Value → Store → Prop) : Prop :=
  ∀ f : Nat → Value, f 0 = x0 → f 1 = x1 → f 2 = x2 → f 12 = x12 → At Try.prog Ex none Try.f6 [1, 1, 1, 1, 1] ⟨⟨149, f⟩, []⟩ M Q
def S_fettlelaw10_PrntApart (x0 x1 x2 x3 x4 : Value) (M : Store) (Q : Value → Store → Prop) : Prop :=
  OP (lenV x2) fun t27 =>
  OP (binI .gtr t27 (.int .i64 8)) fun t28 =>
  BR t28 (
  OP (slV 1 Ty.sl_uint8 x2 none (some (.int .i64 8)) M) fun t30 =>
  P_fettlelaw10_PrntApart_1 x0 x1 t30 x3 x4 M Q
  ) (
  P_fettlelaw10_PrntApart_1 x0 x1 x2 x3 x4 M Q
  )
theorem T_fettlelaw10_PrntApart {x0 x1 x2 x3 x4 : Value} {M : Store} {Q : Value → Store → Prop} (h : S_fettlelaw10_PrntApart x0 x1 x2 x3 x4 M Q) : R F.fettlelaw10_PrntApart #[x0, x1, x2, x3, x4] M Q := by
  refine runs_of (c := bodyOf Try.f6) Try.func6 rfl (by kernel_rfl) (by kernel_rfl) ?_
  unfold At
  exact rule (B := 1000) (N := 149) (ct := (.two .no (.two .no (.here 1000))))
    [⟨1002, fun a M => dfr a.defers (P_fettlelaw10_PrntApart_1 (a.get 0) (a.get 1) (a.get 2) (a.get 3) (a.get 4) M Q), fun a M => At Try.prog Ex none Try.f6 [1, 1] a M Q⟩]
    [1000] [] (by kernel_rfl) (by kernel_rfl) (by kernel_rfl) (by kernel_rfl) (by kernel_rfl)
    ⟨fun a M hn h => by obtain ⟨⟨n, f⟩, ds⟩ := a; have hn : n = 149 := hn; subst hn; obtain ⟨hd, h⟩ := dfr_iff h; have hd : ds = [] := hd; subst hd; exact h f rfl rfl rfl rfl rfl,
    trivial⟩
    (cast (by kernel_rfl) h)
def S_fettlelaw10_PrntApart_1 (x0 x1 x2 x3 x4 : Value) (M : Store) (Q : Value → Store → Prop) : Prop :=
  OP (lenV x2) fun t32 =>
  P_fettlelaw10_PrntApart_2 x0 x1 x2 x3 x4 t32 (.int .i64 0) M Q
theorem T_fettlelaw10_PrntApart_1 {x0 x1 x2 x3 x4 : Value} {M : Store} {Q : Value → Store → Prop} (h : S_fettlelaw10_PrntApart_1 x0 x1 x2 x3 x4 M Q) : P_fettlelaw10_PrntApart_1 x0 x1 x2 x3 x4 M Q := by
  intro f h0 h1 h2 h3 h4; subst h0; subst h1; subst h2; subst h3; subst h4
  unfold At
  exact rule (B := 1000) (N := 149) (ct := (.two (.two .no (.two (.here 1000) .no)) (.here 1001)))
    [⟨1002, fun a M => dfr a.defers (P_fettlelaw10_PrntApart_2 (a.get 0) (a.get 1) (a.get 2) (a.get 3) (a.get 4) (a.get 32) (a.get 33) M Q), fun a M => At Try.prog Ex none Try.f6 [1, 1, 0, 1, 0] a M Q⟩,
    ⟨1003, fun _ _ => False, fun a M => At Try.prog Ex none Try.f6 [1, 1, 1] a M Q⟩]
    [1000, 1001] [] (by kernel_rfl) (by kernel_rfl) (by kernel_rfl) (by kernel_rfl) (by kernel_rfl)
    ⟨fun a M hn h => by obtain ⟨⟨n, f⟩, ds⟩ := a; have hn : n = 149 := hn; subst hn; obtain ⟨hd, h⟩ := dfr_iff h; have hd : ds = [] := hd; subst hd; exact h f rfl rfl rfl rfl rfl rfl rfl,
    fun _ _ _ h => h.elim,
    trivial⟩
    (cast (by kernel_rfl) h)
def S_fettlelaw10_PrntApart_2 (x0 x1 x2 x3 x4 x32 x33 : Value) (M : Store) (Q : Value → Store → Prop) : Prop :=
  OP (binI .lss x33 x32) fun t34 =>
  BR t34 (
  P_fettlelaw10_PrntApart_3 x0 x1 x2 x3 x4 x32 x33 M Q
  ) (
  P_fettlelaw10_PrntApart_4 x0 x1 x2 x3 x4 M Q
  )
theorem T_fettlelaw10_PrntApart_2 {x0 x1 x2 x3 x4 x32 x33 : Value} {M : Store} {Q : Value → Store → Prop} (h : S_fettlelaw10_PrntApart_2 x0 x1 x2 x3 x4 x32 x33 M Q) : P_fettlelaw10_PrntApart_2 x0 x1 x2 x3 x4 x32 x33 M Q := by
  intro f h0 h1 h2 h3 h4 h32 h33; subst h0; subst h1; subst h2; subst h3; subst h4; subst h32; subst h33
  unfold At
  refine cast (by kernel_rfl) (CW.loop (P := Try.prog) (E := Ex) (rd := none) (x := sub (bodyOf Try.f6) [1, 1, 0, 1, 0, 0]) (a := ⟨⟨149, f⟩, []⟩) (M := M) (K := kcont Try.prog Ex none (bodyOf Try.f6) [1, 1, 0, 1, 0] (kfin Try.prog Try.f6.results.toList Q)) ?_)
  exact rule (B := 1000) (N := 149) (ct := (.two .no (.two .no (.here 1000))))
    [⟨1002, fun a M => dfr a.defers (P_fettlelaw10_PrntApart_3 (a.get 0) (a.get 1) (a.get 2) (a.get 3) (a.get 4) (a.get 32) (a.get 33) M Q), fun a M => At Try.prog Ex none Try.f6 [1, 1, 0, 1, 0, 0, 1, 1] a M Q⟩,
    ⟨2, fun a M => dfr a.defers (P_fettlelaw10_PrntApart_4 (a.get 0) (a.get 1) (a.get 2) (a.get 3) (a.get 4) M Q), fun a M => At Try.prog Ex none Try.f6 [1, 1, 1] a M Q⟩]
    [1000] [2] (by kernel_rfl) (by kernel_rfl) (by kernel_rfl) (by kernel_rfl) (by kernel_rfl)
    ⟨fun a M hn h => by obtain ⟨⟨n, f⟩, ds⟩ := a; have hn : n = 149 := hn; subst hn; obtain ⟨hd, h⟩ := dfr_iff h; have hd : ds = [] := hd; subst hd; exact h f rfl rfl rfl rfl rfl rfl rfl,
    fun a M hn h => by obtain ⟨⟨n, f⟩, ds⟩ := a; have hn : n = 149 := hn; subst hn; obtain ⟨hd, h⟩ := dfr_iff h; have hd : ds = [] := hd; subst hd; exact h f rfl rfl rfl rfl rfl,
    trivial⟩
    (cast (by kernel_rfl) h)
def S_fettlelaw10_PrntApart_3 (x0 x1 x2 x3 x4 x32 x33 : Value) (M : Store) (Q : Value → Store → Prop) : Prop :=
  OP (ixA 1 x2 x33) fun t38 =>
  OP (ld 1 false t38 M) fun t39 =>
  OP (lenV t39) fun t40 =>
  OP (binI .gtr t40 (.int .i64 256)) fun t41 =>
  BR t41 (
  R F.fettlelaw10_awake #[] M fun t42 M1 =>
  NTs [t42] ∧ Q t42 M1
  ) (
  OP (binI .add x33 (.int .i64 1)) fun t43 =>
  P_fettlelaw10_PrntApart_2 x0 x1 x2 x3 x4 x32 t43 M Q
  )
theorem T_fettlelaw10_PrntApart_3 {x0 x1 x2 x3 x4 x32 x33 : Value} {M : Store} {Q : Value → Store → Prop} (h : S_fettlelaw10_PrntApart_3 x0 x1 x2 x3 x4 x32 x33 M Q) : P_fettlelaw10_PrntApart_3 x0 x1 x2 x3 x4 x32 x33 M Q := by
  intro f h0 h1 h2 h3 h4 h32 h33; subst h0; subst h1; subst h2; subst h3; subst h4; subst h32; subst h33
  unfold At
  exact rule (B := 1000) (N := 149) (ct := .no)
    [⟨0, fun a M => dfr a.defers (P_fettlelaw10_PrntApart_2 (a.get 0) (a.get 1) (a.get 2) (a.get 3) (a.get 4) (a.get 32) (a.get 33) M Q), fun a M => At Try.prog Ex none Try.f6 [1, 1, 0, 1, 0] a M Q⟩,
    ⟨1, fun a M => kfin Try.prog Try.f6.results.toList Q 1 a M, fun a M => kfin Try.prog Try.f6.results.toList Q 1 a M⟩]
    [] [0, 1] (by kernel_rfl) (by kernel_rfl) (by kernel_rfl) (by kernel_rfl) (by kernel_rfl)
    ⟨fun a M hn h => by obtain ⟨⟨n, f⟩, ds⟩ := a; have hn : n = 149 := hn; subst hn; obtain ⟨hd, h⟩ := dfr_iff h; have hd : ds = [] := hd; subst hd; exact h f rfl rfl rfl rfl rfl rfl rfl,
    fun _ _ _ h => h,
    trivial⟩
    (cast (by kernel_rfl) h)
def S_fettlelaw10_PrntApart_4 (x0 x1 x2 x3 x4 : Value) (M : Store) (Q : Value → Store → Prop) : Prop :=
  OP (aun .not x4) fun t46 =>
  BR t46 (
  OP (lenV x2) fun t49 =>
  OP (binI .gtr t49 (.int .i64 0)) fun t50 =>
  BR t50 (
  OP (binI .and x3 (.int .i64 255)) fun t53 =>
  OP (lenV x2) fun t55 =>
  OP (binI .rem t53 t55) fun t56 =>
  OP (bldL (.slice none 0 0) 1 0 []) fun c =>
  LT (.slice (some ⟨M.n, 0, none⟩) 0 0) (M.push (some (.inl (c, Ty.sl_uint8, true)))) fun t57 M1 =>
  OP2 (appV 1 Ty.sl_uint8 t57 x2 M1) fun t59 M2 =>
  OP (bldL (.int .u8 0) 1 0 []) fun c_1 =>
  LT (.slice (some ⟨M2.n, 0, none⟩) 0 0) (M2.push (some (.inl (c_1, Ty.uint8, true)))) fun t62 M3 =>
  OP (ixA 1 x2 t56) fun t65 =>
  OP (ld 1 false t65 M3) fun t66 =>
  OP (ixA 1 x2 t56) fun t69 =>
  OP (ld 1 false t69 M3) fun t70 =>
  OP (lenV t70) fun t71 =>
  OP (amin2 t71 (.int .i64 255)) fun t72 =>
  OP (slV 1 Ty.uint8 t66 none (some t72) M3) fun t73 =>
  OP2 (appV 1 Ty.uint8 t62 t73 M3) fun t74 M4 =>
  TDj [2, 3, 4, 5, 6, 7, 8, 9, 10, 11, 12, 13] [M2.n, M2.n, M2.n, M3.n, M3.n, M3.n, M3.n, M3.n, M3.n, M3.n, M3.n, M3.n, M3.n, M3.n, M3.n] M3 M4 ∧
  OP (binI .shr x3 (.int .u64 8)) fun t76 =>
  OP (cvI .u8 t76) fun t77 =>
  OP (bldL (.int .u8 0) 1 1 [(0, t77)]) fun c_2 =>
  LT (.slice (some ⟨M4.n, 0, none⟩) 1 1) (M4.push (some (.inl (c_2, Ty.uint8, true)))) fun t78 M5 =>
  OP2 (appV 1 Ty.uint8 t74 t78 M5) fun t79 M6 =>
  TDx [0, 0, 0, 0, 0, 24, 56, 0, 0, 384, 896, 1920, 3968, 8184, 16380, 0, 32768, 98304, 229376, 524284, 1048575, 2097151] [M2.n, M2.n, M2.n, M3.n, M3.n, M3.n, M3.n, M3.n, M3.n, M3.n, M3.n, M3.n, M3.n, M3.n, M3.n, M4.n, M4.n, M4.n, M4.n, M5.n] 19 M5 M6 ∧
  OP (ixA 1 t59 t56) fun t80 =>
  OP (st 1 t80 t79 M6) fun M7 =>
  TDx [0, 0, 0, 0, 0, 24, 56, 0, 0, 384, 896, 1920, 3968, 8184, 16380, 0, 32768, 98304, 229376, 524284, 1048575, 2097151] [M2.n, M2.n, M2.n, M3.n, M3.n, M3.n, M3.n, M3.n, M3.n, M3.n, M3.n, M3.n, M3.n, M3.n, M3.n, M4.n, M4.n, M4.n, M4.n, M5.n, M6.n, M6.n] 21 M6 M7 ∧
  P_fettlelaw10_PrntApart_5 x0 x1 x2 t59 M7 Q
  ) (
  P_fettlelaw10_PrntApart_5 x0 x1 x2 x2 M Q
  )
  ) (
  P_fettlelaw10_PrntApart_5 x0 x1 x2 x2 M Q
  )
theorem T_fettlelaw10_PrntApart_4 {x0 x1 x2 x3 x4 : Value} {M : Store} {Q : Value → Store → Prop} (h : S_fettlelaw10_PrntApart_4 x0 x1 x2 x3 x4 M Q) : P_fettlelaw10_PrntApart_4 x0 x1 x2 x3 x4 M Q := by
  intro f h0 h1 h2 h3 h4; subst h0; subst h1; subst h2; subst h3; subst h4
  unfold At
  exact rule (B := 1000) (N := 149) (ct := (.two .no (.two .no (.here 1000))))
    [⟨1002, fun a M => dfr a.defers (P_fettlelaw10_PrntApart_5 (a.get 0) (a.get 1) (a.get 2) (a.get 12) M Q), fun a M => At Try.prog Ex none Try.f6 [1, 1, 1, 1, 1] a M Q⟩]
    [1000] [] (by kernel_rfl) (by kernel_rfl) (by kernel_rfl) (by kernel_rfl) (by kernel_rfl)
    ⟨fun a M hn h => by obtain ⟨⟨n, f⟩, ds⟩ := a; have hn : n = 149 := hn; subst hn; obtain ⟨hd, h⟩ := dfr_iff h; have hd : ds = [] := hd; subst hd; exact h f rfl rfl rfl rfl,
    trivial⟩
    (cast (by kernel_rfl) h)
def S_fettlelaw10_PrntApart_5 (x0 x1 x2 x12 : Value) (M : Store) (Q : Value → Store → Prop) : Prop :=
  R F.fettlelaw6_Act #[x0] M fun t82 M1 =>
  R F.fettlelaw6_Act #[x1] M1 fun t84 M2 =>
  R F.prnt_Print #[t82, x2] M2 fun t87 M3 =>
  R F.prnt_Print #[t84, x12] M3 fun t90 M4 =>
  R F.fettleref4_SameAct #[t82, t84] M4 fun t93 M5 =>
  BR t93 (
  R F.fettleref1_SameRows #[x2, x12] M5 fun t97 M6 =>
  OP (cvBS t87 M6) fun t100 =>
  OP (cvBS t90 M6) fun t102 =>
  OP (binS .eql t100 t102) fun t103 =>
  OP (abin Try.prog false .neq Ty.bool t103 t97) fun t105 =>
  BR t105 (
  NTs [(.bool false)] ∧ Q (.bool false) M6
  ) (
  R F.prnt_Parse #[t87] M6 fun t108 M7 =>
  OP (tup t108 0) fun t109 =>
  OP (tup t108 1) fun t110 =>
  OP (tup t108 2) fun t111 =>
  R F.prnt_Value #[t87] M7 fun t114 M8 =>
  OP (tup t114 0) fun t115 =>
  OP (tup t114 1) fun t116 =>
  R F.fettleref4_Run #[t82, x2] M8 fun t120 M9 =>
  OP (tup t120 0) fun t121 =>
  OP (tup t120 1) fun t122 =>
  BR t111 (
  R F.fettleref4_SameAct #[t109, t82] M9 fun t127 M10 =>
  BR t127 (
  R F.fettleref1_SameRows #[t110, x2] M10 fun t132 M11 =>
  BR t132 (
  OP (abin Try.prog false .eql Ty.bool t116 t122) fun t137 =>
  BR t137 (
  OP (cvBS t115 M11) fun t141 =>
  OP (cvBS t121 M11) fun t143 =>
  OP (binS .eql t141 t143) fun t144 =>
  BR t144 (
  R F.fettlelaw10_awake #[] M11 fun t147 M12 =>
  NTs [t147] ∧ Q t147 M12
  ) (
  NTs [(.bool false)] ∧ Q (.bool false) M11
  )
  ) (
  NTs [(.bool false)] ∧ Q (.bool false) M11
  )
  ) (
  NTs [(.bool false)] ∧ Q (.bool false) M11
  )
  ) (
  NTs [(.bool false)] ∧ Q (.bool false) M10
  )
  ) (
  NTs [(.bool false)] ∧ Q (.bool false) M9
  )
  )
  ) (
  OP (cvBS t87 M5) fun t100_1 =>
  OP (cvBS t90 M5) fun t102_1 =>
  OP (binS .eql t100_1 t102_1) fun t103_1 =>
  OP (abin Try.prog false .neq Ty.bool t103_1 (.bool false)) fun t105_1 =>
  BR t105_1 (
  NTs [(.bool false)] ∧ Q (.bool false) M5
  ) (
  R F.prnt_Parse #[t87] M5 fun t108_1 M13 =>
  OP (tup t108_1 0) fun t109_1 =>
  OP (tup t108_1 1) fun t110_1 =>
  OP (tup t108_1 2) fun t111_1 =>
  R F.prnt_Value #[t87] M13 fun t114_1 M14 =>
  OP (tup t114_1 0) fun t115_1 =>
  OP (tup t114_1 1) fun t116_1 =>
  R F.fettleref4_Run #[t82, x2] M14 fun t120_1 M15 =>
  OP (tup t120_1 0) fun t121_1 =>
  OP (tup t120_1 1) fun t122_1 =>
  BR t111_1 (
  R F.fettleref4_SameAct #[t109_1, t82] M15 fun t127_1 M16 =>
  BR t127_1 (
  R F.fettleref1_SameRows #[t110_1, x2] M16 fun t132_1 M17 =>
  BR t132_1 (
  OP (abin Try.prog false .eql Ty.bool t116_1 t122_1) fun t137_1 =>
  BR t137_1 (
  OP (cvBS t115_1 M17) fun t141_1 =>
  OP (cvBS t121_1 M17) fun t143_1 =>
  OP (binS .eql t141_1 t143_1) fun t144_1 =>
  BR t144_1 (
  R F.fettlelaw10_awake #[] M17 fun t147_1 M18 =>
  NTs [t147_1] ∧ Q t147_1 M18
  ) (
  NTs [(.bool false)] ∧ Q (.bool false) M17
  )
  ) (
  NTs [(.bool false)] ∧ Q (.bool false) M17
  )
  ) (
  NTs [(.bool false)] ∧ Q (.bool false) M17
  )
  ) (
  NTs [(.bool false)] ∧ Q (.bool false) M16
  )
  ) (
  NTs [(.bool false)] ∧ Q (.bool false) M15
  )
  )
  )
theorem T_fettlelaw10_PrntApart_5 {x0 x1 x2 x12 : Value} {M : Store} {Q : Value → Store → Prop} (h : S_fettlelaw10_PrntApart_5 x0 x1 x2 x12 M Q) : P_fettlelaw10_PrntApart_5 x0 x1 x2 x12 M Q := by
  intro f h0 h1 h2 h12; subst h0; subst h1; subst h2; subst h12
  unfold At
  exact rule (B := 1000) (N := 149) (ct := .no)
    [⟨1, fun a M => kfin Try.prog Try.f6.results.toList Q 1 a M, fun a M => kfin Try.prog Try.f6.results.toList Q 1 a M⟩]
    [] [1] (by kernel_rfl) (by kernel_rfl) (by kernel_rfl) (by kernel_rfl) (by kernel_rfl)
    ⟨fun _ _ _ h => h,
    trivial⟩
    (cast (by kernel_rfl) h)
end Go.G
