/-  -/
import Derived.Test.YtpacolplhcfamaaPGN
open Go.RowKit
namespace Go.G
open Go.Ab Go.Proofs
set_option linter.unusedVariables false
set_option maxRecDepth 100000
def P_fettlelaw16_NeedTells_1 (x0 x1 x5 x6 x7 x25 x26 x27 : Value) (M : Store) (Q : Value → Store → Prop) : Prop :=
  ∀ f : Nat → Value, f 0 = x0 → f 1 = x1 → f 5 = x5 → f 6 = x6 → f 7 = x7 → f 25 = x25 → f 26 = x26 → f 27 = x27 → At Try.prog Ex none Try.f17 [1, 1, 1, 1, 1, 1, 0, 1, 0] ⟨⟨197, f⟩, []⟩ M Q
def P_fettlelaw16_NeedTells_2 (x0 x1 x5 x6 x7 x25 x26 x27 : Value) (M : Store) (Q : Value → Store → Prop) : Prop :=
  ∀ f : Nat → Value, f 0 = x0 → f 1 = x1 → f 5 = x5 → f 6 = x6 → f 7 = x7 → f 25 = x25 → f 26 = x26 → f 27 = x27 → At Try.prog Ex none Try.f17 [1, 1, 1, 1, 1, 1, 0, 1, 0, 0, 1, 1] ⟨⟨197, f⟩, []⟩ M Q
def P_fettlelaw16_NeedTells_3 (x0 x1 x5 x6 x7 : Value) (M : Store) (Q : Value → Store → Prop) : Prop :=
  ∀ f : Nat → Value, f 0 = x0 → f 1 = x1 → f 5 = x5 → f 6 = x6 → f 7 = x7 → At Try.prog Ex none Try.f17 [1, 1, 1, 1, 1, 1, 1] ⟨⟨197, f⟩, []⟩ M Q
def P_fettlelaw16_NeedTells_4 (x0 x1 x5 x6 x7 x8 x9 x10 x11 x25 x26 x27 x56 x64 : Value) (M : Store) (Q : Value → Store → Prop) : Prop :=
  ∀ f : Nat → Value, f 0 = x0 → f 1 = x1 → f 5 = x5 → f 6 = x6 → f 7 = x7 → f 8 = x8 → f 9 = x9 → f 10 = x10 → f 11 = x11 → f 25 = x25 → f 26 = x26 → f 27 = x27 → f 56 = x56 → f 64 = x64 → At Try.prog Ex none Try.f17 [1, 1, 1, 1, 1, 1, 0, 1, 0, 0, 1, 1, 0, 0, 1, 1, 1, 1, 0, 1] ⟨⟨197, f⟩, []⟩ M Q
def P_fettlelaw16_NeedTells_5 (x0 x1 x5 x6 x7 x13 : Value) (M : Store) (Q : Value → Store → Prop) : Prop :=
  ∀ f : Nat → Value, f 0 = x0 → f 1 = x1 → f 5 = x5 → f 6 = x6 → f 7 = x7 → f 13 = x13 → At Try.prog Ex none Try.f17 [1, 1, 1, 1, 1, 1, 1, 1, 1] ⟨⟨197, f⟩, []⟩ M Q
def P_fettlelaw16_NeedTells_6 (x0 x1 x5 x6 x7 x25 x26 x27 : Value) (M : Store) (Q : Value → Store → Prop) : Prop :=
  ∀ f : Nat → Value, f 0 = x0 → f 1 = x1 → f 5 = x5 → f 6 = x6 → f 7 = x7 → f 25 = x25 → f 26 = x26 → f 27 = x27 → At Try.prog Ex none Try.f17 [1, 1, 1, 1, 1, 1, 0, 1, 0, 0, 1, 1, 1] ⟨⟨197, f⟩, []⟩ M Q
def P_fettlelaw16_NeedTells_7 (x0 x1 x5 x6 x7 x13 : Value) (M : Store) (Q : Value → Store → Prop) : Prop :=
  ∀ f : Nat → Value, f 0 = x0 → f 1 = x1 → f 5 = x5 → f 6 = x6 → f 7 = x7 → f 13 = x13 → At Try.prog Ex none Try.f17 [1, 1, 1, 1, 1, 1, 1, 1, 1, 1] ⟨⟨197, f⟩, []⟩ M Q
def P_fettlelaw16_NeedTells_8 (x0 x5 x6 x7 x13 : Value) (M : Store) (Q : Value → Store → Prop) : Prop :=
  ∀ f : Nat → Value, f 0 = x0 → f 5 = x5 → f 6 = x6 → f 7 = x7 → f 13 = x13 → At Try.prog Ex none Try.f17 [1, 1, 1, 1, 1, 1, 1, 1, 1, 1, 1] ⟨⟨197, f⟩, []⟩ M Q
def P_fettlelaw16_NeedTells_9 (x0 x5 x6 x7 x13 x14 x158 : Value) (M : Store) (Q : Value → Store → Prop) : Prop :=
  ∀ f : Nat → Value, f 0 = x0 → f 5 = x5 → f 6 = x6 → f 7 = x7 → f 13 = x13 → f 14 = x14 → f 158 = x158 → At Try.prog Ex none Try.f17 [1, 1, 1, 1, 1, 1, 1, 1, 1, 1, 1, 1, 1, 0, 1, 0, 1, 0] ⟨⟨197, f⟩, []⟩ M Q
def P_fettlelaw16_NeedTells_10 (x5 x13 x14 : Value) (M : Store) (Q : Value → Store → Prop) : Prop :=
  ∀ f : Nat → Value, f 5 = x5 → f 13 = x13 → f 14 = x14 → At Try.prog Ex none Try.f17 [1, 1, 1, 1, 1, 1, 1, 1, 1, 1, 1, 1, 1, 1] ⟨⟨197, f⟩, []⟩ M Q
def P_fettlelaw16_NeedTells_11 (x0 x5 x6 x7 x13 x14 x158 : Value) (M : Store) (Q : Value → Store → Prop) : Prop :=
  ∀ f : Nat → Value, f 0 = x0 → f 5 = x5 → f 6 = x6 → f 7 = x7 → f 13 = x13 → f 14 = x14 → f 158 = x158 → At Try.prog Ex none Try.f17 [1, 1, 1, 1, 1, 1, 1, 1, 1, 1, 1, 1, 1, 0, 1, 0, 1, 0, 0, 1, 1] ⟨⟨197, f⟩, []⟩ M Q
def S_fettlelaw16_NeedTells (x0 x1 : Value) (M : Store) (Q : Value → Store → Prop) : Prop :=
  OP (lenV x0) fun t17 =>
  OP (binI .gtr t17 (.int .i64 300)) fun t18 =>
  BR t18 (
  R F.fettlelaw16_awake #[] M fun t19 M1 =>
  NTs [t19] ∧ Q t19 M1
  ) (
  R F.simf_New #[(.int .i64 1048576)] M fun t20 M2 =>
  OP (abin Try.prog true .eql Ty.p_simf_FS t20 (.pointer none)) fun t22 =>
  BR t22 (
  NTs [(.bool false)] ∧ Q (.bool false) M2
  ) (
  R F.fettlelaw16_Rule #[] M2 fun t23 M3 =>
  LT (.pointer (some ⟨M3.n, 0, none⟩)) (M3.push (some (.inl ([(.slice none 0 0), (.slice none 0 0), (.slice none 0 0), (.slice none 0 0), (.bool false)], Ty.api_Rule, true)))) fun t6 M4 =>
  OP (st 5 t6 t23 M4) fun M5 =>
  LT (.pointer (some ⟨M5.n, 0, none⟩)) (M5.push (some (.inl ([(.bool false), (.bool false)], Ty.a2_bool, true)))) fun t7 M6 =>
  OP (fad 0 t6) fun t24 =>
  OP (ld 1 false t24 M6) fun t25 =>
  OP (lenV t25) fun t26 =>
  P_fettlelaw16_NeedTells_1 x0 x1 t20 t6 t7 t25 t26 (.int .i64 0) M6 Q
  )
  )
theorem T_fettlelaw16_NeedTells {x0 x1 : Value} {M : Store} {Q : Value → Store → Prop} (h : S_fettlelaw16_NeedTells x0 x1 M Q) : R F.fettlelaw16_NeedTells #[x0, x1] M Q := by
  refine runs_of (c := bodyOf Try.f17) Try.func17 rfl (by kernel_rfl) (by kernel_rfl) ?_
  unfold At
  exact rule (B := 1000) (N := 197) (ct := (.two .no (.two .no (.two .no (.two .no (.two .no (.two .no (.two (.two .no (.two (.here 1000) .no)) (.here 1001)))))))))
    [⟨1002, fun a M => dfr a.defers (P_fettlelaw16_NeedTells_1 (a.get 0) (a.get 1) (a.get 5) (a.get 6) (a.get 7) (a.get 25) (a.get 26) (a.get 27) M Q), fun a M => At Try.prog Ex none Try.f17 [1, 1, 1, 1, 1, 1, 0, 1, 0] a M Q⟩,
    ⟨1003, fun _ _ => False, fun a M => At Try.prog Ex none Try.f17 [1, 1, 1, 1, 1, 1, 1] a M Q⟩,
    ⟨1, fun a M => kfin Try.prog Try.f17.results.toList Q 1 a M, fun a M => kfin Try.prog Try.f17.results.toList Q 1 a M⟩]
    [1000, 1001] [1] (by kernel_rfl) (by kernel_rfl) (by kernel_rfl) (by kernel_rfl) (by kernel_rfl)
    ⟨fun a M hn h => by obtain ⟨⟨n, f⟩, ds⟩ := a; have hn : n = 197 := hn; subst hn; obtain ⟨hd, h⟩ := dfr_iff h; have hd : ds = [] := hd; subst hd; exact h f rfl rfl rfl rfl rfl rfl rfl rfl,
    fun _ _ _ h => h.elim,
    fun _ _ _ h => h,
    trivial⟩
    (cast (by kernel_rfl) h)
def S_fettlelaw16_NeedTells_1 (x0 x1 x5 x6 x7 x25 x26 x27 : Value) (M : Store) (Q : Value → Store → Prop) : Prop :=
  OP (binI .lss x27 x26) fun t28 =>
  BR t28 (
  P_fettlelaw16_NeedTells_2 x0 x1 x5 x6 x7 x25 x26 x27 M Q
  ) (
  P_fettlelaw16_NeedTells_3 x0 x1 x5 x6 x7 M Q
  )
theorem T_fettlelaw16_NeedTells_1 {x0 x1 x5 x6 x7 x25 x26 x27 : Value} {M : Store} {Q : Value → Store → Prop} (h : S_fettlelaw16_NeedTells_1 x0 x1 x5 x6 x7 x25 x26 x27 M Q) : P_fettlelaw16_NeedTells_1 x0 x1 x5 x6 x7 x25 x26 x27 M Q := by
  intro f h0 h1 h5 h6 h7 h25 h26 h27; subst h0; subst h1; subst h5; subst h6; subst h7; subst h25; subst h26; subst h27
  unfold At
  refine cast (by kernel_rfl) (CW.loop (P := Try.prog) (E := Ex) (rd := none) (x := sub (bodyOf Try.f17) [1, 1, 1, 1, 1, 1, 0, 1, 0, 0]) (a := ⟨⟨197, f⟩, []⟩) (M := M) (K := kcont Try.prog Ex none (bodyOf Try.f17) [1, 1, 1, 1, 1, 1, 0, 1, 0] (kfin Try.prog Try.f17.results.toList Q)) ?_)
  exact rule (B := 1000) (N := 197) (ct := (.two .no (.two .no (.here 1000))))
    [⟨1002, fun a M => dfr a.defers (P_fettlelaw16_NeedTells_2 (a.get 0) (a.get 1) (a.get 5) (a.get 6) (a.get 7) (a.get 25) (a.get 26) (a.get 27) M Q), fun a M => At Try.prog Ex none Try.f17 [1, 1, 1, 1, 1, 1, 0, 1, 0, 0, 1, 1] a M Q⟩,
    ⟨2, fun a M => dfr a.defers (P_fettlelaw16_NeedTells_3 (a.get 0) (a.get 1) (a.get 5) (a.get 6) (a.get 7) M Q), fun a M => At Try.prog Ex none Try.f17 [1, 1, 1, 1, 1, 1, 1] a M Q⟩]
    [1000] [2] (by kernel_rfl) (by kernel_rfl) (by kernel_rfl) (by kernel_rfl) (by kernel_rfl)
    ⟨fun a M hn h => by obtain ⟨⟨n, f⟩, ds⟩ := a; have hn : n = 197 := hn; subst hn; obtain ⟨hd, h⟩ := dfr_iff h; have hd : ds = [] := hd; subst hd; exact h f rfl rfl rfl rfl rfl rfl rfl rfl,
    fun a M hn h => by obtain ⟨⟨n, f⟩, ds⟩ := a; have hn : n = 197 := hn; subst hn; obtain ⟨hd, h⟩ := dfr_iff h; have hd : ds = [] := hd; subst hd; exact h f rfl rfl rfl rfl rfl,
    trivial⟩
    (cast (by kernel_rfl) h)
def S_fettlelaw16_NeedTells_2 (x0 x1 x5 x6 x7 x25 x26 x27 : Value) (M : Store) (Q : Value → Store → Prop) : Prop :=
  OP (ixA 1 x25 x27) fun t30 =>
  OP (ld 1 false t30 M) fun t31 =>
  OP (fad 3 x6) fun t32 =>
  OP (ld 1 false t32 M) fun t33 =>
  OP (ixA 1 t33 x27) fun t35 =>
  OP (ld 1 false t35 M) fun t36 =>
  OP (bldL (.slice none 0 0) 1 1 [(0, x0)]) fun c =>
  LT (.slice (some ⟨M.n, 0, none⟩) 1 1) (M.push (some (.inl (c, Ty.sl_uint8, true)))) fun t38 M1 =>
  R F.fettleref10_Print #[t36, t38] M1 fun t39 M2 =>
  OP (fad 3 x6) fun t41 =>
  OP (ld 1 false t41 M2) fun t42 =>
  OP (ixA 1 t42 x27) fun t44 =>
  OP (ld 1 false t44 M2) fun t45 =>
  OP (bldL (.slice none 0 0) 1 1 [(0, x0)]) fun c_1 =>
  LT (.slice (some ⟨M2.n, 0, none⟩) 1 1) (M2.push (some (.inl (c_1, Ty.sl_uint8, true)))) fun t47 M3 =>
  R F.fettleref4_Run #[t45, t47] M3 fun t48 M4 =>
  OP (tup t48 0) fun t49 =>
  OP (tup t48 1) fun t50 =>
  OP (binI .mul (.int .i64 3) x27) fun t53 =>
  OP (cvI .u64 t53) fun t54 =>
  OP (binI .shr x1 t54) fun t55 =>
  OP (binI .and t55 (.int .i64 7)) fun t56 =>
  OP (binI .eql t56 (.int .i64 0)) fun t65 =>
  BR t65 (
  P_fettlelaw16_NeedTells_4 x0 x1 x5 x6 x7 x27 t31 t39 t49 x25 x26 x27 t56 t65 M4 Q
  ) (
  OP (binI .eql t56 (.int .i64 1)) fun t66 =>
  BR t66 (
  P_fettlelaw16_NeedTells_4 x0 x1 x5 x6 x7 x27 t31 t39 t49 x25 x26 x27 t56 t66 M4 Q
  ) (
  OP (binI .eql t56 (.int .i64 2)) fun t67 =>
  P_fettlelaw16_NeedTells_4 x0 x1 x5 x6 x7 x27 t31 t39 t49 x25 x26 x27 t56 t67 M4 Q
  )
  )
theorem T_fettlelaw16_NeedTells_2 {x0 x1 x5 x6 x7 x25 x26 x27 : Value} {M : Store} {Q : Value → Store → Prop} (h : S_fettlelaw16_NeedTells_2 x0 x1 x5 x6 x7 x25 x26 x27 M Q) : P_fettlelaw16_NeedTells_2 x0 x1 x5 x6 x7 x25 x26 x27 M Q := by
  intro f h0 h1 h5 h6 h7 h25 h26 h27; subst h0; subst h1; subst h5; subst h6; subst h7; subst h25; subst h26; subst h27
  unfold At
  exact rule (B := 1000) (N := 197) (ct := (.two (.two (.two .no (.two .no (.two .no (.two .no (.two (.two .no (.here 1000)) .no))))) .no) (.here 1001)))
    [⟨1002, fun a M => dfr a.defers (P_fettlelaw16_NeedTells_4 (a.get 0) (a.get 1) (a.get 5) (a.get 6) (a.get 7) (a.get 8) (a.get 9) (a.get 10) (a.get 11) (a.get 25) (a.get 26) (a.get 27) (a.get 56) (a.get 64) M Q), fun a M => At Try.prog Ex none Try.f17 [1, 1, 1, 1, 1, 1, 0, 1, 0, 0, 1, 1, 0, 0, 1, 1, 1, 1, 0, 1] a M Q⟩,
    ⟨1003, fun _ _ => False, fun a M => At Try.prog Ex none Try.f17 [1, 1, 1, 1, 1, 1, 0, 1, 0, 0, 1, 1, 1] a M Q⟩]
    [1000, 1001] [] (by kernel_rfl) (by kernel_rfl) (by kernel_rfl) (by kernel_rfl) (by kernel_rfl)
    ⟨fun a M hn h => by obtain ⟨⟨n, f⟩, ds⟩ := a; have hn : n = 197 := hn; subst hn; obtain ⟨hd, h⟩ := dfr_iff h; have hd : ds = [] := hd; subst hd; exact h f rfl rfl rfl rfl rfl rfl rfl rfl rfl rfl rfl rfl rfl rfl,
    fun _ _ _ h => h.elim,
    trivial⟩
    (cast (by kernel_rfl) h)
def S_fettlelaw16_NeedTells_3 (x0 x1 x5 x6 x7 : Value) (M : Store) (Q : Value → Store → Prop) : Prop :=
  OP (ixP 1 2 x7 (.int .i64 0)) fun t125 =>
  OP (ld 1 false t125 M) fun t126 =>
  BR t126 (
  P_fettlelaw16_NeedTells_5 x0 x1 x5 x6 x7 (.int .i64 2) M Q
  ) (
  OP (ixP 1 2 x7 (.int .i64 1)) fun t128 =>
  OP (ld 1 false t128 M) fun t129 =>
  BR t129 (
  P_fettlelaw16_NeedTells_5 x0 x1 x5 x6 x7 (.int .i64 2) M Q
  ) (
  P_fettlelaw16_NeedTells_5 x0 x1 x5 x6 x7 (.int .i64 1) M Q
  )
  )
theorem T_fettlelaw16_NeedTells_3 {x0 x1 x5 x6 x7 : Value} {M : Store} {Q : Value → Store → Prop} (h : S_fettlelaw16_NeedTells_3 x0 x1 x5 x6 x7 M Q) : P_fettlelaw16_NeedTells_3 x0 x1 x5 x6 x7 M Q := by
  intro f h0 h1 h5 h6 h7; subst h0; subst h1; subst h5; subst h6; subst h7
  unfold At
  exact rule (B := 1000) (N := 197) (ct := (.two .no (.two .no (.here 1000))))
    [⟨1002, fun a M => dfr a.defers (P_fettlelaw16_NeedTells_5 (a.get 0) (a.get 1) (a.get 5) (a.get 6) (a.get 7) (a.get 13) M Q), fun a M => At Try.prog Ex none Try.f17 [1, 1, 1, 1, 1, 1, 1, 1, 1] a M Q⟩]
    [1000] [] (by kernel_rfl) (by kernel_rfl) (by kernel_rfl) (by kernel_rfl) (by kernel_rfl)
    ⟨fun a M hn h => by obtain ⟨⟨n, f⟩, ds⟩ := a; have hn : n = 197 := hn; subst hn; obtain ⟨hd, h⟩ := dfr_iff h; have hd : ds = [] := hd; subst hd; exact h f rfl rfl rfl rfl rfl rfl,
    trivial⟩
    (cast (by kernel_rfl) h)
def S_fettlelaw16_NeedTells_4 (x0 x1 x5 x6 x7 x8 x9 x10 x11 x25 x26 x27 x56 x64 : Value) (M : Store) (Q : Value → Store → Prop) : Prop :=
  BR x64 (
  R F.fettleref10_Make #[x10, x11] M fun t72 M1 =>
  R F.simf_FS_Put #[x5, x9, t72] M1 fun t73 M2 =>
  P_fettlelaw16_NeedTells_6 x0 x1 x5 x6 x7 x25 x26 x27 M2 Q
  ) (
  OP (binI .eql x56 (.int .i64 3)) fun t75 =>
  BR t75 (
  OP (ixP 1 2 x7 x8) fun t77 =>
  OP (st 1 t77 (.bool true) M) fun M3 =>
  P_fettlelaw16_NeedTells_6 x0 x1 x5 x6 x7 x25 x26 x27 M3 Q
  ) (
  OP (binI .eql x56 (.int .i64 4)) fun t79 =>
  BR t79 (
  OP (bldL (.int .u8 0) 1 4 [(0, (.int .u8 110)), (1, (.int .u8 111)), (2, (.int .u8 110)), (3, (.int .u8 101))]) fun c =>
  LT (.slice (some ⟨M.n, 0, none⟩) 4 4) (M.push (some (.inl (c, Ty.uint8, true)))) fun t82 M4 =>
  OP2 (cvId t82 M4) fun t83 M5 =>
  R F.simf_FS_Put #[x5, x9, t83] M5 fun t84 M6 =>
  OP (ixP 1 2 x7 x8) fun t86 =>
  OP (st 1 t86 (.bool true) M6) fun M7 =>
  P_fettlelaw16_NeedTells_6 x0 x1 x5 x6 x7 x25 x26 x27 M7 Q
  ) (
  OP (binI .eql x56 (.int .i64 5)) fun t88 =>
  BR t88 (
  OP (fad 3 x6) fun t91 =>
  OP (ld 1 false t91 M) fun t92 =>
  OP (ixA 1 t92 x8) fun t94 =>
  OP (ld 1 false t94 M) fun t95 =>
  OP (bldL (.int .u8 0) 1 1 [(0, (.int .u8 1))]) fun c_1 =>
  LT (.slice (some ⟨M.n, 0, none⟩) 1 1) (M.push (some (.inl (c_1, Ty.uint8, true)))) fun t96 M8 =>
  OP2 (appV 1 Ty.uint8 t96 x0 M8) fun t98 M9 =>
  TDj [7, 8] [M.n, M.n, M.n, M.n, M.n, M.n, M.n, M.n, M8.n, M8.n] M8 M9 ∧
  OP (bldL (.slice none 0 0) 1 1 [(0, t98)]) fun c_2 =>
  LT (.slice (some ⟨M9.n, 0, none⟩) 1 1) (M9.push (some (.inl (c_2, Ty.sl_uint8, true)))) fun t99 M10 =>
  R F.fettleref10_Print #[t95, t99] M10 fun t100 M11 =>
  TDx [0, 0, 0, 4, 0, 28, 60, 0, 0, 384, 896, 2044, 0, 8188, 16383] [M.n, M.n, M.n, M.n, M.n, M.n, M.n, M.n, M8.n, M8.n, M9.n, M10.n] 11 M10 M11 ∧
  R F.fettleref10_Make #[t100, x11] M11 fun t102 M12 =>
  TDx [0, 0, 0, 4, 0, 28, 60, 0, 0, 384, 896, 2044, 0, 8188, 16383] [M.n, M.n, M.n, M.n, M.n, M.n, M.n, M.n, M8.n, M8.n, M9.n, M10.n, M11.n, M11.n] 13 M11 M12 ∧
  R F.simf_FS_Put #[x5, x9, t102] M12 fun t103 M13 =>
  TDx [0, 0, 0, 4, 0, 28, 60, 0, 0, 384, 896, 2044, 0, 8188, 16383] [M.n, M.n, M.n, M.n, M.n, M.n, M.n, M.n, M8.n, M8.n, M9.n, M10.n, M11.n, M11.n, M12.n] 14 M12 M13 ∧
  OP (ixP 1 2 x7 x8) fun t105 =>
  OP (st 1 t105 (.bool true) M13) fun M14 =>
  P_fettlelaw16_NeedTells_6 x0 x1 x5 x6 x7 x25 x26 x27 M14 Q
  ) (
  OP (binI .eql x56 (.int .i64 6)) fun t107 =>
  BR t107 (
  OP (fad 3 x6) fun t110 =>
  OP (ld 1 false t110 M) fun t111 =>
  OP (binI .sub (.int .i64 1) x8) fun t113 =>
  OP (ixA 1 t111 t113) fun t114 =>
  OP (ld 1 false t114 M) fun t115 =>
  OP (bldL (.slice none 0 0) 1 1 [(0, x0)]) fun c_3 =>
  LT (.slice (some ⟨M.n, 0, none⟩) 1 1) (M.push (some (.inl (c_3, Ty.sl_uint8, true)))) fun t117 M15 =>
  R F.fettleref10_Print #[t115, t117] M15 fun t118 M16 =>
  R F.fettleref10_Make #[t118, x11] M16 fun t120 M17 =>
  R F.simf_FS_Put #[x5, x9, t120] M17 fun t121 M18 =>
  OP (ixP 1 2 x7 x8) fun t123 =>
  OP (st 1 t123 (.bool true) M18) fun M19 =>
  P_fettlelaw16_NeedTells_6 x0 x1 x5 x6 x7 x25 x26 x27 M19 Q
  ) (
  OP (bldL (.int .u8 0) 1 7 [(0, (.int .u8 115)), (1, (.int .u8 112)), (2, (.int .u8 111)), (3, (.int .u8 105)), (4, (.int .u8 108)), (5, (.int .u8 101)), (6, (.int .u8 100))]) fun c_4 =>
  LT (.slice (some ⟨M.n, 0, none⟩) 7 7) (M.push (some (.inl (c_4, Ty.uint8, true)))) fun t60 M20 =>
  OP2 (cvId t60 M20) fun t61 M21 =>
  R F.fettleref10_Make #[x10, t61] M21 fun t62 M22 =>
  R F.simf_FS_Put #[x5, x9, t62] M22 fun t63 M23 =>
  P_fettlelaw16_NeedTells_6 x0 x1 x5 x6 x7 x25 x26 x27 M23 Q
  )
  )
  )
  )
  )
theorem T_fettlelaw16_NeedTells_4 {x0 x1 x5 x6 x7 x8 x9 x10 x11 x25 x26 x27 x56 x64 : Value} {M : Store} {Q : Value → Store → Prop} (h : S_fettlelaw16_NeedTells_4 x0 x1 x5 x6 x7 x8 x9 x10 x11 x25 x26 x27 x56 x64 M Q) : P_fettlelaw16_NeedTells_4 x0 x1 x5 x6 x7 x8 x9 x10 x11 x25 x26 x27 x56 x64 M Q := by
  intro f h0 h1 h5 h6 h7 h8 h9 h10 h11 h25 h26 h27 h56 h64; subst h0; subst h1; subst h5; subst h6; subst h7; subst h8; subst h9; subst h10; subst h11; subst h25; subst h26; subst h27; subst h56; subst h64
  unfold At
  exact rule (B := 1000) (N := 197) (ct := .no)
    [⟨0, fun a M => dfr a.defers (P_fettlelaw16_NeedTells_6 (a.get 0) (a.get 1) (a.get 5) (a.get 6) (a.get 7) (a.get 25) (a.get 26) (a.get 27) M Q), fun a M => At Try.prog Ex none Try.f17 [1, 1, 1, 1, 1, 1, 0, 1, 0, 0, 1, 1, 1] a M Q⟩]
    [] [0] (by kernel_rfl) (by kernel_rfl) (by kernel_rfl) (by kernel_rfl) (by kernel_rfl)
    ⟨fun a M hn h => by obtain ⟨⟨n, f⟩, ds⟩ := a; have hn : n = 197 := hn; subst hn; obtain ⟨hd, h⟩ := dfr_iff h; have hd : ds = [] := hd; subst hd; exact h f rfl rfl rfl rfl rfl rfl rfl rfl,
    trivial⟩
    (cast (by kernel_rfl) h)
def S_fettlelaw16_NeedTells_5 (x0 x1 x5 x6 x7 x13 : Value) (M : Store) (Q : Value → Store → Prop) : Prop :=
  OP (lenV x0) fun t132 =>
  OP (binI .gtr t132 (.int .i64 256)) fun t133 =>
  BR t133 (
  P_fettlelaw16_NeedTells_7 x0 x1 x5 x6 x7 (.int .i64 4) M Q
  ) (
  P_fettlelaw16_NeedTells_7 x0 x1 x5 x6 x7 x13 M Q
  )
theorem T_fettlelaw16_NeedTells_5 {x0 x1 x5 x6 x7 x13 : Value} {M : Store} {Q : Value → Store → Prop} (h : S_fettlelaw16_NeedTells_5 x0 x1 x5 x6 x7 x13 M Q) : P_fettlelaw16_NeedTells_5 x0 x1 x5 x6 x7 x13 M Q := by
  intro f h0 h1 h5 h6 h7 h13; subst h0; subst h1; subst h5; subst h6; subst h7; subst h13
  unfold At
  exact rule (B := 1000) (N := 197) (ct := (.two .no (.here 1000)))
    [⟨1002, fun a M => dfr a.defers (P_fettlelaw16_NeedTells_7 (a.get 0) (a.get 1) (a.get 5) (a.get 6) (a.get 7) (a.get 13) M Q), fun a M => At Try.prog Ex none Try.f17 [1, 1, 1, 1, 1, 1, 1, 1, 1, 1] a M Q⟩]
    [1000] [] (by kernel_rfl) (by kernel_rfl) (by kernel_rfl) (by kernel_rfl) (by kernel_rfl)
    ⟨fun a M hn h => by obtain ⟨⟨n, f⟩, ds⟩ := a; have hn : n = 197 := hn; subst hn; obtain ⟨hd, h⟩ := dfr_iff h; have hd : ds = [] := hd; subst hd; exact h f rfl rfl rfl rfl rfl rfl,
    trivial⟩
    (cast (by kernel_rfl) h)
def S_fettlelaw16_NeedTells_6 (x0 x1 x5 x6 x7 x25 x26 x27 : Value) (M : Store) (Q : Value → Store → Prop) : Prop :=
  OP (binI .add x27 (.int .i64 1)) fun t124 =>
  P_fettlelaw16_NeedTells_1 x0 x1 x5 x6 x7 x25 x26 t124 M Q
theorem T_fettlelaw16_NeedTells_6 {x0 x1 x5 x6 x7 x25 x26 x27 : Value} {M : Store} {Q : Value → Store → Prop} (h : S_fettlelaw16_NeedTells_6 x0 x1 x5 x6 x7 x25 x26 x27 M Q) : P_fettlelaw16_NeedTells_6 x0 x1 x5 x6 x7 x25 x26 x27 M Q := by
  intro f h0 h1 h5 h6 h7 h25 h26 h27; subst h0; subst h1; subst h5; subst h6; subst h7; subst h25; subst h26; subst h27
  unfold At
  exact rule (B := 1000) (N := 197) (ct := .no)
    [⟨0, fun a M => dfr a.defers (P_fettlelaw16_NeedTells_1 (a.get 0) (a.get 1) (a.get 5) (a.get 6) (a.get 7) (a.get 25) (a.get 26) (a.get 27) M Q), fun a M => At Try.prog Ex none Try.f17 [1, 1, 1, 1, 1, 1, 0, 1, 0] a M Q⟩]
    [] [0] (by kernel_rfl) (by kernel_rfl) (by kernel_rfl) (by kernel_rfl) (by kernel_rfl)
    ⟨fun a M hn h => by obtain ⟨⟨n, f⟩, ds⟩ := a; have hn : n = 197 := hn; subst hn; obtain ⟨hd, h⟩ := dfr_iff h; have hd : ds = [] := hd; subst hd; exact h f rfl rfl rfl rfl rfl rfl rfl rfl,
    trivial⟩
    (cast (by kernel_rfl) h)
def S_fettlelaw16_NeedTells_7 (x0 x1 x5 x6 x7 x13 : Value) (M : Store) (Q : Value → Store → Prop) : Prop :=
  OP (binI .shr x1 (.int .u64 6)) fun t135 =>
  OP (binI .and t135 (.int .i64 7)) fun t136 =>
  OP (binI .gtr t136 (.int .i64 0)) fun t137 =>
  BR t137 (
  R F.simf_FS_Put #[x5, (.string ⟨#[115]⟩), x0] M fun t140 M1 =>
  P_fettlelaw16_NeedTells_8 x0 x5 x6 x7 x13 M1 Q
  ) (
  P_fettlelaw16_NeedTells_8 x0 x5 x6 x7 (.int .i64 3) M Q
  )
theorem T_fettlelaw16_NeedTells_7 {x0 x1 x5 x6 x7 x13 : Value} {M : Store} {Q : Value → Store → Prop} (h : S_fettlelaw16_NeedTells_7 x0 x1 x5 x6 x7 x13 M Q) : P_fettlelaw16_NeedTells_7 x0 x1 x5 x6 x7 x13 M Q := by
  intro f h0 h1 h5 h6 h7 h13; subst h0; subst h1; subst h5; subst h6; subst h7; subst h13
  unfold At
  exact rule (B := 1000) (N := 197) (ct := (.two .no (.here 1000)))
    [⟨1002, fun a M => dfr a.defers (P_fettlelaw16_NeedTells_8 (a.get 0) (a.get 5) (a.get 6) (a.get 7) (a.get 13) M Q), fun a M => At Try.prog Ex none Try.f17 [1, 1, 1, 1, 1, 1, 1, 1, 1, 1, 1] a M Q⟩]
    [1000] [] (by kernel_rfl) (by kernel_rfl) (by kernel_rfl) (by kernel_rfl) (by kernel_rfl)
    ⟨fun a M hn h => by obtain ⟨⟨n, f⟩, ds⟩ := a; have hn : n = 197 := hn; subst hn; obtain ⟨hd, h⟩ := dfr_iff h; have hd : ds = [] := hd; subst hd; exact h f rfl rfl rfl rfl rfl,
    trivial⟩
    (cast (by kernel_rfl) h)
def S_fettlelaw16_NeedTells_8 (x0 x5 x6 x7 x13 : Value) (M : Store) (Q : Value → Store → Prop) : Prop :=
  OP (ld 5 true x6 M) fun t141 =>
  R F.need_New #[t141, (.func (.func F.fettlelaw16_made) #[] #[])] M fun t142 M1 =>
  OP (abin Try.prog true .eql Ty.p_need_Ask t142 (.pointer none)) fun t144 =>
  BR t144 (
  NTs [(.bool false)] ∧ Q (.bool false) M1
  ) (
  R F.fettlelaw16_ask #[x5, t142] M1 fun t148 M2 =>
  OP (binI .neq t148 x13) fun t150 =>
  BR t150 (
  NTs [(.bool false)] ∧ Q (.bool false) M2
  ) (
  OP (binI .eql x13 (.int .i64 2)) fun t153 =>
  BR t153 (
  P_fettlelaw16_NeedTells_9 x0 x5 x6 x7 x13 t142 (.int .i64 0) M2 Q
  ) (
  OP (binI .eql x13 (.int .i64 1)) fun t156 =>
  BR t156 (
  P_fettlelaw16_NeedTells_9 x0 x5 x6 x7 x13 t142 (.int .i64 0) M2 Q
  ) (
  P_fettlelaw16_NeedTells_10 x5 x13 t142 M2 Q
  )
  )
  )
  )
theorem T_fettlelaw16_NeedTells_8 {x0 x5 x6 x7 x13 : Value} {M : Store} {Q : Value → Store → Prop} (h : S_fettlelaw16_NeedTells_8 x0 x5 x6 x7 x13 M Q) : P_fettlelaw16_NeedTells_8 x0 x5 x6 x7 x13 M Q := by
  intro f h0 h5 h6 h7 h13; subst h0; subst h5; subst h6; subst h7; subst h13
  unfold At
  exact rule (B := 1000) (N := 197) (ct := (.two .no (.two .no (.two (.two .no (.two (.two .no (.two (.here 1000) .no)) .no)) (.here 1001)))))
    [⟨1002, fun a M => dfr a.defers (P_fettlelaw16_NeedTells_9 (a.get 0) (a.get 5) (a.get 6) (a.get 7) (a.get 13) (a.get 14) (a.get 158) M Q), fun a M => At Try.prog Ex none Try.f17 [1, 1, 1, 1, 1, 1, 1, 1, 1, 1, 1, 1, 1, 0, 1, 0, 1, 0] a M Q⟩,
    ⟨1003, fun a M => dfr a.defers (P_fettlelaw16_NeedTells_10 (a.get 5) (a.get 13) (a.get 14) M Q), fun a M => At Try.prog Ex none Try.f17 [1, 1, 1, 1, 1, 1, 1, 1, 1, 1, 1, 1, 1, 1] a M Q⟩,
    ⟨1, fun a M => kfin Try.prog Try.f17.results.toList Q 1 a M, fun a M => kfin Try.prog Try.f17.results.toList Q 1 a M⟩]
    [1000, 1001] [1] (by kernel_rfl) (by kernel_rfl) (by kernel_rfl) (by kernel_rfl) (by kernel_rfl)
    ⟨fun a M hn h => by obtain ⟨⟨n, f⟩, ds⟩ := a; have hn : n = 197 := hn; subst hn; obtain ⟨hd, h⟩ := dfr_iff h; have hd : ds = [] := hd; subst hd; exact h f rfl rfl rfl rfl rfl rfl rfl,
    fun a M hn h => by obtain ⟨⟨n, f⟩, ds⟩ := a; have hn : n = 197 := hn; subst hn; obtain ⟨hd, h⟩ := dfr_iff h; have hd : ds = [] := hd; subst hd; exact h f rfl rfl rfl,
    fun _ _ _ h => h,
    trivial⟩
    (cast (by kernel_rfl) h)
def S_fettlelaw16_NeedTells_9 (x0 x5 x6 x7 x13 x14 x158 : Value) (M : Store) (Q : Value → Store → Prop) : Prop :=
  OP (binI .lss x158 (.int .i64 2)) fun t159 =>
  BR t159 (
  P_fettlelaw16_NeedTells_11 x0 x5 x6 x7 x13 x14 x158 M Q
  ) (
  P_fettlelaw16_NeedTells_10 x5 x13 x14 M Q
  )
theorem T_fettlelaw16_NeedTells_9 {x0 x5 x6 x7 x13 x14 x158 : Value} {M : Store} {Q : Value → Store → Prop} (h : S_fettlelaw16_NeedTells_9 x0 x5 x6 x7 x13 x14 x158 M Q) : P_fettlelaw16_NeedTells_9 x0 x5 x6 x7 x13 x14 x158 M Q := by
  intro f h0 h5 h6 h7 h13 h14 h158; subst h0; subst h5; subst h6; subst h7; subst h13; subst h14; subst h158
  unfold At
  refine cast (by kernel_rfl) (CW.loop (P := Try.prog) (E := Ex) (rd := none) (x := sub (bodyOf Try.f17) [1, 1, 1, 1, 1, 1, 1, 1, 1, 1, 1, 1, 1, 0, 1, 0, 1, 0, 0]) (a := ⟨⟨197, f⟩, []⟩) (M := M) (K := kcont Try.prog Ex none (bodyOf Try.f17) [1, 1, 1, 1, 1, 1, 1, 1, 1, 1, 1, 1, 1, 0, 1, 0, 1, 0] (kfin Try.prog Try.f17.results.toList Q)) ?_)
  exact rule (B := 1000) (N := 197) (ct := (.two .no (.two .no (.here 1000))))
    [⟨1002, fun a M => dfr a.defers (P_fettlelaw16_NeedTells_11 (a.get 0) (a.get 5) (a.get 6) (a.get 7) (a.get 13) (a.get 14) (a.get 158) M Q), fun a M => At Try.prog Ex none Try.f17 [1, 1, 1, 1, 1, 1, 1, 1, 1, 1, 1, 1, 1, 0, 1, 0, 1, 0, 0, 1, 1] a M Q⟩,
    ⟨5, fun a M => dfr a.defers (P_fettlelaw16_NeedTells_10 (a.get 5) (a.get 13) (a.get 14) M Q), fun a M => At Try.prog Ex none Try.f17 [1, 1, 1, 1, 1, 1, 1, 1, 1, 1, 1, 1, 1, 1] a M Q⟩]
    [1000] [5] (by kernel_rfl) (by kernel_rfl) (by kernel_rfl) (by kernel_rfl) (by kernel_rfl)
    ⟨fun a M hn h => by obtain ⟨⟨n, f⟩, ds⟩ := a; have hn : n = 197 := hn; subst hn; obtain ⟨hd, h⟩ := dfr_iff h; have hd : ds = [] := hd; subst hd; exact h f rfl rfl rfl rfl rfl rfl rfl,
    fun a M hn h => by obtain ⟨⟨n, f⟩, ds⟩ := a; have hn : n = 197 := hn; subst hn; obtain ⟨hd, h⟩ := dfr_iff h; have hd : ds = [] := hd; subst hd; exact h f rfl rfl rfl,
    trivial⟩
    (cast (by kernel_rfl) h)
def S_fettlelaw16_NeedTells_10 (x5 x13 x14 : Value) (M : Store) (Q : Value → Store → Prop) : Prop :=
  R F.need_Ask_Step #[x14, x5] M fun t191 M1 =>
  OP (binI .eql t191 x13) fun t193 =>
  BR t193 (
  R F.fettlelaw16_awake #[] M1 fun t195 M2 =>
  NTs [t195] ∧ Q t195 M2
  ) (
  NTs [(.bool false)] ∧ Q (.bool false) M1
  )
theorem T_fettlelaw16_NeedTells_10 {x5 x13 x14 : Value} {M : Store} {Q : Value → Store → Prop} (h : S_fettlelaw16_NeedTells_10 x5 x13 x14 M Q) : P_fettlelaw16_NeedTells_10 x5 x13 x14 M Q := by
  intro f h5 h13 h14; subst h5; subst h13; subst h14
  unfold At
  exact rule (B := 1000) (N := 197) (ct := .no)
    [⟨1, fun a M => kfin Try.prog Try.f17.results.toList Q 1 a M, fun a M => kfin Try.prog Try.f17.results.toList Q 1 a M⟩]
    [] [1] (by kernel_rfl) (by kernel_rfl) (by kernel_rfl) (by kernel_rfl) (by kernel_rfl)
    ⟨fun _ _ _ h => h,
    trivial⟩
    (cast (by kernel_rfl) h)
def S_fettlelaw16_NeedTells_11 (x0 x5 x6 x7 x13 x14 x158 : Value) (M : Store) (Q : Value → Store → Prop) : Prop :=
  R F.need_Ask_Old #[x14] M fun t162 M1 =>
  TDj [0] [M.n, M.n] M M1 ∧
  OP (ixA 1 t162 x158) fun t164 =>
  OP (ld 1 false t164 M1) fun t165 =>
  OP (ixP 1 2 x7 x158) fun t167 =>
  OP (ld 1 false t167 M1) fun t168 =>
  OP (abin Try.prog false .neq Ty.bool t165 t168) fun t169 =>
  BR t169 (
  NTs [(.bool false)] ∧ Q (.bool false) M1
  ) (
  R F.need_Ask_Prints #[x14] M1 fun t172 M2 =>
  TDj [10] [M.n, M.n, M1.n, M1.n, M1.n, M1.n, M1.n, M1.n, M1.n, M1.n, M1.n, M1.n] M1 M2 ∧
  OP (ixA 1 t172 x158) fun t174 =>
  OP (ld 1 false t174 M2) fun t175 =>
  OP (cvBS t175 M2) fun t176 =>
  OP (fad 3 x6) fun t177 =>
  OP (ld 1 false t177 M2) fun t178 =>
  OP (ixA 1 t178 x158) fun t180 =>
  OP (ld 1 false t180 M2) fun t181 =>
  OP (bldL (.slice none 0 0) 1 1 [(0, x0)]) fun c =>
  LT (.slice (some ⟨M2.n, 0, none⟩) 1 1) (M2.push (some (.inl (c, Ty.sl_uint8, true)))) fun t183 M3 =>
  R F.fettleref10_Print #[t181, t183] M3 fun t184 M4 =>
  TDj [16, 17, 18, 19, 20, 21, 22] [M.n, M.n, M1.n, M1.n, M1.n, M1.n, M1.n, M1.n, M1.n, M1.n, M1.n, M1.n, M2.n, M2.n, M2.n, M2.n, M2.n, M2.n, M2.n, M2.n, M2.n, M2.n, M2.n, M3.n] M3 M4 ∧
  OP (cvBS t184 M4) fun t185 =>
  OP (binS .neq t176 t185) fun t186 =>
  BR t186 (
  NTs [(.bool false)] ∧ Q (.bool false) M4
  ) (
  OP (binI .add x158 (.int .i64 1)) fun t188 =>
  P_fettlelaw16_NeedTells_9 x0 x5 x6 x7 x13 x14 t188 M4 Q
  )
  )
theorem T_fettlelaw16_NeedTells_11 {x0 x5 x6 x7 x13 x14 x158 : Value} {M : Store} {Q : Value → Store → Prop} (h : S_fettlelaw16_NeedTells_11 x0 x5 x6 x7 x13 x14 x158 M Q) : P_fettlelaw16_NeedTells_11 x0 x5 x6 x7 x13 x14 x158 M Q := by
  intro f h0 h5 h6 h7 h13 h14 h158; subst h0; subst h5; subst h6; subst h7; subst h13; subst h14; subst h158
  unfold At
  exact rule (B := 1000) (N := 197) (ct := .no)
    [⟨0, fun a M => dfr a.defers (P_fettlelaw16_NeedTells_9 (a.get 0) (a.get 5) (a.get 6) (a.get 7) (a.get 13) (a.get 14) (a.get 158) M Q), fun a M => At Try.prog Ex none Try.f17 [1, 1, 1, 1, 1, 1, 1, 1, 1, 1, 1, 1, 1, 0, 1, 0, 1, 0] a M Q⟩,
    ⟨1, fun a M => kfin Try.prog Try.f17.results.toList Q 1 a M, fun a M => kfin Try.prog Try.f17.results.toList Q 1 a M⟩]
    [] [0, 1] (by kernel_rfl) (by kernel_rfl) (by kernel_rfl) (by kernel_rfl) (by kernel_rfl)
    ⟨fun a M hn h => by obtain ⟨⟨n, f⟩, ds⟩ := a; have hn : n = 197 := hn; subst hn; obtain ⟨hd, h⟩ := dfr_iff h; have hd : ds = [] := hd; subst hd; exact h f rfl rfl rfl rfl rfl rfl rfl,
    fun _ _ _ h => h,
    trivial⟩
    (cast (by kernel_rfl) h)
end Go.G
