/-  -/
import Derived.Test.YtpacolplhcfamaaPGN
open Go.RowKit
namespace Go.G
open Go.Ab Go.Proofs
set_option linter.unusedVariables false
set_option maxRecDepth 100000
def P_fettlelaw16_NeedLater_1 (x0 x1 x2 x7 x8 x9 x10 x11 : Value) (M : Store) (Q : Value → Store → Prop) : Prop :=
  ∀ f : Nat → Value, f 0 = x0 → f 1 = x1 → f 2 = x2 → f 7 = x7 → f 8 = x8 → f 9 = x9 → f 10 = x10 → f 11 = x11 → At Try.prog Ex none Try.f14 [1, 1, 1, 1, 1, 1, 1, 1, 1, 0, 1, 0] ⟨⟨105, f⟩, []⟩ M Q
def P_fettlelaw16_NeedLater_2 (x0 x1 x8 x9 x10 : Value) (M : Store) (Q : Value → Store → Prop) : Prop :=
  ∀ f : Nat → Value, f 0 = x0 → f 1 = x1 → f 8 = x8 → f 9 = x9 → f 10 = x10 → At Try.prog Ex none Try.f14 [1, 1, 1, 1, 1, 1, 1, 1, 1, 1] ⟨⟨105, f⟩, []⟩ M Q
def P_fettlelaw16_NeedLater_3 (x8 x12 x84 x85 x86 : Value) (M : Store) (Q : Value → Store → Prop) : Prop :=
  ∀ f : Nat → Value, f 8 = x8 → f 12 = x12 → f 84 = x84 → f 85 = x85 → f 86 = x86 → At Try.prog Ex none Try.f14 [1, 1, 1, 1, 1, 1, 1, 1, 1, 1, 1, 1, 1, 0, 1, 0] ⟨⟨105, f⟩, []⟩ M Q
def P_fettlelaw16_NeedLater_4 (x8 x12 x84 x85 x86 : Value) (M : Store) (Q : Value → Store → Prop) : Prop :=
  ∀ f : Nat → Value, f 8 = x8 → f 12 = x12 → f 84 = x84 → f 85 = x85 → f 86 = x86 → At Try.prog Ex none Try.f14 [1, 1, 1, 1, 1, 1, 1, 1, 1, 1, 1, 1, 1, 0, 1, 0, 0, 1, 1] ⟨⟨105, f⟩, []⟩ M Q
def P_fettlelaw16_NeedLater_5 (M : Store) (Q : Value → Store → Prop) : Prop :=
  ∀ f : Nat → Value, At Try.prog Ex none Try.f14 [1, 1, 1, 1, 1, 1, 1, 1, 1, 1, 1, 1, 1, 1] ⟨⟨105, f⟩, []⟩ M Q
def S_fettlelaw16_NeedLater (x0 x1 x2 : Value) (M : Store) (Q : Value → Store → Prop) : Prop :=
  OP (lenV x0) fun t16 =>
  OP (binI .gtr t16 (.int .i64 200)) fun t17 =>
  BR t17 (
  R F.fettlelaw16_awake #[] M fun t23 M1 =>
  NTs [t23] ∧ Q t23 M1
  ) (
  OP (lenV x1) fun t20 =>
  OP (binI .gtr t20 (.int .i64 200)) fun t21 =>
  BR t21 (
  R F.fettlelaw16_awake #[] M fun t23_1 M2 =>
  NTs [t23_1] ∧ Q t23_1 M2
  ) (
  R F.simf_New #[(.int .i64 1048576)] M fun t24 M3 =>
  R F.fettlelaw16_Rule #[] M3 fun t25 M4 =>
  LT (.pointer (some ⟨M4.n, 0, none⟩)) (M4.push (some (.inl ([(.slice none 0 0), (.slice none 0 0), (.slice none 0 0), (.slice none 0 0), (.bool false)], Ty.api_Rule, true)))) fun t8 M5 =>
  OP (st 5 t8 t25 M5) fun M6 =>
  OP (abin Try.prog true .eql Ty.p_simf_FS t24 (.pointer none)) fun t27 =>
  BR t27 (
  NTs [(.bool false)] ∧ Q (.bool false) M6
  ) (
  R F.simf_FS_Put #[t24, (.string ⟨#[115]⟩), x0] M6 fun t30 M7 =>
  OP (ld 5 true t8 M7) fun t31 =>
  R F.need_New #[t31, (.func (.func F.fettlelaw16_made) #[] #[])] M7 fun t32 M8 =>
  OP (abin Try.prog true .eql Ty.p_need_Ask t32 (.pointer none)) fun t34 =>
  BR t34 (
  NTs [(.bool false)] ∧ Q (.bool false) M8
  ) (
  P_fettlelaw16_NeedLater_1 x0 x1 x2 t24 t8 t32 (.int .i64 0) (.int .i64 0) M8 Q
  )
  )
  )
  )
theorem T_fettlelaw16_NeedLater {x0 x1 x2 : Value} {M : Store} {Q : Value → Store → Prop} (h : S_fettlelaw16_NeedLater x0 x1 x2 M Q) : R F.fettlelaw16_NeedLater #[x0, x1, x2] M Q := by
  refine runs_of (c := bodyOf Try.f14) Try.func14 rfl (by kernel_rfl) (by kernel_rfl) ?_
  unfold At
  exact rule (B := 1000) (N := 105) (ct := (.two .no (.two .no (.two .no (.two .no (.two .no (.two .no (.two .no (.two .no (.two .no (.two (.two .no (.two (.here 1000) .no)) (.here 1001))))))))))))
    [⟨1002, fun a M => dfr a.defers (P_fettlelaw16_NeedLater_1 (a.get 0) (a.get 1) (a.get 2) (a.get 7) (a.get 8) (a.get 9) (a.get 10) (a.get 11) M Q), fun a M => At Try.prog Ex none Try.f14 [1, 1, 1, 1, 1, 1, 1, 1, 1, 0, 1, 0] a M Q⟩,
    ⟨1003, fun _ _ => False, fun a M => At Try.prog Ex none Try.f14 [1, 1, 1, 1, 1, 1, 1, 1, 1, 1] a M Q⟩,
    ⟨1, fun a M => kfin Try.prog Try.f14.results.toList Q 1 a M, fun a M => kfin Try.prog Try.f14.results.toList Q 1 a M⟩]
    [1000, 1001] [1] (by kernel_rfl) (by kernel_rfl) (by kernel_rfl) (by kernel_rfl) (by kernel_rfl)
    ⟨fun a M hn h => by obtain ⟨⟨n, f⟩, ds⟩ := a; have hn : n = 105 := hn; subst hn; obtain ⟨hd, h⟩ := dfr_iff h; have hd : ds = [] := hd; subst hd; exact h f rfl rfl rfl rfl rfl rfl rfl rfl,
    fun _ _ _ h => h.elim,
    fun _ _ _ h => h,
    trivial⟩
    (cast (by kernel_rfl) h)
def S_fettlelaw16_NeedLater_1 (x0 x1 x2 x7 x8 x9 x10 x11 : Value) (M : Store) (Q : Value → Store → Prop) : Prop :=
  OP (binI .lss x11 (.int .i64 50)) fun t36 =>
  BR t36 (
  OP (binI .eql x10 (.int .i64 0)) fun t39 =>
  BR t39 (
  OP (binI .and x2 (.int .i64 7)) fun t45 =>
  OP (binI .eql x11 t45) fun t46 =>
  BR t46 (
  R F.simf_FS_Put #[x7, (.string ⟨#[115]⟩), x1] M fun t49 M1 =>
  R F.need_Ask_Step #[x9, x7] M1 fun t52 M2 =>
  OP (binI .add x11 (.int .i64 1)) fun t42 =>
  P_fettlelaw16_NeedLater_1 x0 x1 x2 x7 x8 x9 t52 t42 M2 Q
  ) (
  R F.need_Ask_Step #[x9, x7] M fun t52_1 M3 =>
  OP (binI .add x11 (.int .i64 1)) fun t42_1 =>
  P_fettlelaw16_NeedLater_1 x0 x1 x2 x7 x8 x9 t52_1 t42_1 M3 Q
  )
  ) (
  P_fettlelaw16_NeedLater_2 x0 x1 x8 x9 x10 M Q
  )
  ) (
  P_fettlelaw16_NeedLater_2 x0 x1 x8 x9 x10 M Q
  )
theorem T_fettlelaw16_NeedLater_1 {x0 x1 x2 x7 x8 x9 x10 x11 : Value} {M : Store} {Q : Value → Store → Prop} (h : S_fettlelaw16_NeedLater_1 x0 x1 x2 x7 x8 x9 x10 x11 M Q) : P_fettlelaw16_NeedLater_1 x0 x1 x2 x7 x8 x9 x10 x11 M Q := by
  intro f h0 h1 h2 h7 h8 h9 h10 h11; subst h0; subst h1; subst h2; subst h7; subst h8; subst h9; subst h10; subst h11
  unfold At
  refine cast (by kernel_rfl) (CW.loop (P := Try.prog) (E := Ex) (rd := none) (x := sub (bodyOf Try.f14) [1, 1, 1, 1, 1, 1, 1, 1, 1, 0, 1, 0, 0]) (a := ⟨⟨105, f⟩, []⟩) (M := M) (K := kcont Try.prog Ex none (bodyOf Try.f14) [1, 1, 1, 1, 1, 1, 1, 1, 1, 0, 1, 0] (kfin Try.prog Try.f14.results.toList Q)) ?_)
  exact rule (B := 1000) (N := 105) (ct := .no)
    [⟨0, fun a M => dfr a.defers (P_fettlelaw16_NeedLater_1 (a.get 0) (a.get 1) (a.get 2) (a.get 7) (a.get 8) (a.get 9) (a.get 10) (a.get 11) M Q), fun a M => At Try.prog Ex none Try.f14 [1, 1, 1, 1, 1, 1, 1, 1, 1, 0, 1, 0] a M Q⟩,
    ⟨2, fun a M => dfr a.defers (P_fettlelaw16_NeedLater_2 (a.get 0) (a.get 1) (a.get 8) (a.get 9) (a.get 10) M Q), fun a M => At Try.prog Ex none Try.f14 [1, 1, 1, 1, 1, 1, 1, 1, 1, 1] a M Q⟩]
    [] [0, 2] (by kernel_rfl) (by kernel_rfl) (by kernel_rfl) (by kernel_rfl) (by kernel_rfl)
    ⟨fun a M hn h => by obtain ⟨⟨n, f⟩, ds⟩ := a; have hn : n = 105 := hn; subst hn; obtain ⟨hd, h⟩ := dfr_iff h; have hd : ds = [] := hd; subst hd; exact h f rfl rfl rfl rfl rfl rfl rfl rfl,
    fun a M hn h => by obtain ⟨⟨n, f⟩, ds⟩ := a; have hn : n = 105 := hn; subst hn; obtain ⟨hd, h⟩ := dfr_iff h; have hd : ds = [] := hd; subst hd; exact h f rfl rfl rfl rfl rfl,
    trivial⟩
    (cast (by kernel_rfl) h)
def S_fettlelaw16_NeedLater_2 (x0 x1 x8 x9 x10 : Value) (M : Store) (Q : Value → Store → Prop) : Prop :=
  OP (binI .neq x10 (.int .i64 2)) fun t54 =>
  BR t54 (
  NTs [(.bool false)] ∧ Q (.bool false) M
  ) (
  R F.need_Ask_Prints #[x9] M fun t57 M1 =>
  OP (lenV t57) fun t58 =>
  OP (binI .neq t58 (.int .i64 2)) fun t59 =>
  BR t59 (
  NTs [(.bool false)] ∧ Q (.bool false) M1
  ) (
  R F.need_Ask_Values #[x9] M1 fun t63 M2 =>
  OP (lenV t63) fun t64 =>
  OP (binI .neq t64 (.int .i64 1)) fun t65 =>
  BR t65 (
  NTs [(.bool false)] ∧ Q (.bool false) M2
  ) (
  R F.need_Ask_Values #[x9] M2 fun t68 M3 =>
  OP (ixA 1 t68 (.int .i64 0)) fun t69 =>
  OP (ld 1 false t69 M3) fun t70 =>
  OP (cvBS t70 M3) fun t72 =>
  OP (cvBS x0 M3) fun t74 =>
  OP (binS .neq t72 t74) fun t75 =>
  BR t75 (
  OP (cvBS t70 M3) fun t78 =>
  OP (cvBS x1 M3) fun t80 =>
  OP (binS .neq t78 t80) fun t81 =>
  BR t81 (
  NTs [(.bool false)] ∧ Q (.bool false) M3
  ) (
  R F.need_Ask_Prints #[x9] M3 fun t84 M4 =>
  OP (lenV t84) fun t85 =>
  P_fettlelaw16_NeedLater_3 x8 t70 t84 t85 (.int .i64 0) M4 Q
  )
  ) (
  R F.need_Ask_Prints #[x9] M3 fun t84_1 M5 =>
  OP (lenV t84_1) fun t85_1 =>
  P_fettlelaw16_NeedLater_3 x8 t70 t84_1 t85_1 (.int .i64 0) M5 Q
  )
  )
  )
  )
theorem T_fettlelaw16_NeedLater_2 {x0 x1 x8 x9 x10 : Value} {M : Store} {Q : Value → Store → Prop} (h : S_fettlelaw16_NeedLater_2 x0 x1 x8 x9 x10 M Q) : P_fettlelaw16_NeedLater_2 x0 x1 x8 x9 x10 M Q := by
  intro f h0 h1 h8 h9 h10; subst h0; subst h1; subst h8; subst h9; subst h10
  unfold At
  exact rule (B := 1000) (N := 105) (ct := (.two .no (.two .no (.two .no (.two (.two .no (.two (.here 1000) .no)) (.here 1001))))))
    [⟨1002, fun a M => dfr a.defers (P_fettlelaw16_NeedLater_3 (a.get 8) (a.get 12) (a.get 84) (a.get 85) (a.get 86) M Q), fun a M => At Try.prog Ex none Try.f14 [1, 1, 1, 1, 1, 1, 1, 1, 1, 1, 1, 1, 1, 0, 1, 0] a M Q⟩,
    ⟨1003, fun _ _ => False, fun a M => At Try.prog Ex none Try.f14 [1, 1, 1, 1, 1, 1, 1, 1, 1, 1, 1, 1, 1, 1] a M Q⟩,
    ⟨1, fun a M => kfin Try.prog Try.f14.results.toList Q 1 a M, fun a M => kfin Try.prog Try.f14.results.toList Q 1 a M⟩]
    [1000, 1001] [1] (by kernel_rfl) (by kernel_rfl) (by kernel_rfl) (by kernel_rfl) (by kernel_rfl)
    ⟨fun a M hn h => by obtain ⟨⟨n, f⟩, ds⟩ := a; have hn : n = 105 := hn; subst hn; obtain ⟨hd, h⟩ := dfr_iff h; have hd : ds = [] := hd; subst hd; exact h f rfl rfl rfl rfl rfl,
    fun _ _ _ h => h.elim,
    fun _ _ _ h => h,
    trivial⟩
    (cast (by kernel_rfl) h)
def S_fettlelaw16_NeedLater_3 (x8 x12 x84 x85 x86 : Value) (M : Store) (Q : Value → Store → Prop) : Prop :=
  OP (binI .lss x86 x85) fun t87 =>
  BR t87 (
  P_fettlelaw16_NeedLater_4 x8 x12 x84 x85 x86 M Q
  ) (
  P_fettlelaw16_NeedLater_5 M Q
  )
theorem T_fettlelaw16_NeedLater_3 {x8 x12 x84 x85 x86 : Value} {M : Store} {Q : Value → Store → Prop} (h : S_fettlelaw16_NeedLater_3 x8 x12 x84 x85 x86 M Q) : P_fettlelaw16_NeedLater_3 x8 x12 x84 x85 x86 M Q := by
  intro f h8 h12 h84 h85 h86; subst h8; subst h12; subst h84; subst h85; subst h86
  unfold At
  refine cast (by kernel_rfl) (CW.loop (P := Try.prog) (E := Ex) (rd := none) (x := sub (bodyOf Try.f14) [1, 1, 1, 1, 1, 1, 1, 1, 1, 1, 1, 1, 1, 0, 1, 0, 0]) (a := ⟨⟨105, f⟩, []⟩) (M := M) (K := kcont Try.prog Ex none (bodyOf Try.f14) [1, 1, 1, 1, 1, 1, 1, 1, 1, 1, 1, 1, 1, 0, 1, 0] (kfin Try.prog Try.f14.results.toList Q)) ?_)
  exact rule (B := 1000) (N := 105) (ct := (.two .no (.two .no (.here 1000))))
    [⟨1002, fun a M => dfr a.defers (P_fettlelaw16_NeedLater_4 (a.get 8) (a.get 12) (a.get 84) (a.get 85) (a.get 86) M Q), fun a M => At Try.prog Ex none Try.f14 [1, 1, 1, 1, 1, 1, 1, 1, 1, 1, 1, 1, 1, 0, 1, 0, 0, 1, 1] a M Q⟩,
    ⟨4, fun a M => dfr a.defers (P_fettlelaw16_NeedLater_5 M Q), fun a M => At Try.prog Ex none Try.f14 [1, 1, 1, 1, 1, 1, 1, 1, 1, 1, 1, 1, 1, 1] a M Q⟩]
    [1000] [4] (by kernel_rfl) (by kernel_rfl) (by kernel_rfl) (by kernel_rfl) (by kernel_rfl)
    ⟨fun a M hn h => by obtain ⟨⟨n, f⟩, ds⟩ := a; have hn : n = 105 := hn; subst hn; obtain ⟨hd, h⟩ := dfr_iff h; have hd : ds = [] := hd; subst hd; exact h f rfl rfl rfl rfl rfl,
    fun a M hn h => by obtain ⟨⟨n, f⟩, ds⟩ := a; have hn : n = 105 := hn; subst hn; obtain ⟨hd, h⟩ := dfr_iff h; have hd : ds = [] := hd; subst hd; exact h f,
    trivial⟩
    (cast (by kernel_rfl) h)
def S_fettlelaw16_NeedLater_4 (x8 x12 x84 x85 x86 : Value) (M : Store) (Q : Value → Store → Prop) : Prop :=
  OP (ixA 1 x84 x86) fun t89 =>
  OP (ld 1 false t89 M) fun t90 =>
  OP (cvBS t90 M) fun t92 =>
  OP (fad 3 x8) fun t93 =>
  OP (ld 1 false t93 M) fun t94 =>
  OP (ixA 1 t94 x86) fun t96 =>
  OP (ld 1 false t96 M) fun t97 =>
  OP (bldL (.slice none 0 0) 1 1 [(0, x12)]) fun c =>
  LT (.slice (some ⟨M.n, 0, none⟩) 1 1) (M.push (some (.inl (c, Ty.sl_uint8, true)))) fun t99 M1 =>
  R F.fettleref10_Print #[t97, t99] M1 fun t100 M2 =>
  TDj [2, 3, 4, 5, 6, 7, 8] [M.n, M.n, M.n, M.n, M.n, M.n, M.n, M.n, M.n, M1.n] M1 M2 ∧
  OP (cvBS t100 M2) fun t101 =>
  OP (binS .neq t92 t101) fun t102 =>
  BR t102 (
  NTs [(.bool false)] ∧ Q (.bool false) M2
  ) (
  OP (binI .add x86 (.int .i64 1)) fun t103 =>
  P_fettlelaw16_NeedLater_3 x8 x12 x84 x85 t103 M2 Q
  )
theorem T_fettlelaw16_NeedLater_4 {x8 x12 x84 x85 x86 : Value} {M : Store} {Q : Value → Store → Prop} (h : S_fettlelaw16_NeedLater_4 x8 x12 x84 x85 x86 M Q) : P_fettlelaw16_NeedLater_4 x8 x12 x84 x85 x86 M Q := by
  intro f h8 h12 h84 h85 h86; subst h8; subst h12; subst h84; subst h85; subst h86
  unfold At
  exact rule (B := 1000) (N := 105) (ct := .no)
    [⟨0, fun a M => dfr a.defers (P_fettlelaw16_NeedLater_3 (a.get 8) (a.get 12) (a.get 84) (a.get 85) (a.get 86) M Q), fun a M => At Try.prog Ex none Try.f14 [1, 1, 1, 1, 1, 1, 1, 1, 1, 1, 1, 1, 1, 0, 1, 0] a M Q⟩,
    ⟨1, fun a M => kfin Try.prog Try.f14.results.toList Q 1 a M, fun a M => kfin Try.prog Try.f14.results.toList Q 1 a M⟩]
    [] [0, 1] (by kernel_rfl) (by kernel_rfl) (by kernel_rfl) (by kernel_rfl) (by kernel_rfl)
    ⟨fun a M hn h => by obtain ⟨⟨n, f⟩, ds⟩ := a; have hn : n = 105 := hn; subst hn; obtain ⟨hd, h⟩ := dfr_iff h; have hd : ds = [] := hd; subst hd; exact h f rfl rfl rfl rfl rfl,
    fun _ _ _ h => h,
    trivial⟩
    (cast (by kernel_rfl) h)
def S_fettlelaw16_NeedLater_5 (M : Store) (Q : Value → Store → Prop) : Prop :=
  R F.fettlelaw16_awake #[] M fun t104 M1 =>
  NTs [t104] ∧ Q t104 M1
theorem T_fettlelaw16_NeedLater_5 {M : Store} {Q : Value → Store → Prop} (h : S_fettlelaw16_NeedLater_5 M Q) : P_fettlelaw16_NeedLater_5 M Q := by
  intro f 
  unfold At
  exact rule (B := 1000) (N := 105) (ct := .no)
    [⟨1, fun a M => kfin Try.prog Try.f14.results.toList Q 1 a M, fun a M => kfin Try.prog Try.f14.results.toList Q 1 a M⟩]
    [] [1] (by kernel_rfl) (by kernel_rfl) (by kernel_rfl) (by kernel_rfl) (by kernel_rfl)
    ⟨fun _ _ _ h => h,
    trivial⟩
    (cast (by kernel_rfl) h)
end Go.G
