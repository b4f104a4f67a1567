/-  -/
import Derived.Test.YtpacolplhcfamaaPGN
open Go.RowKit
namespace Go.G
open Go.Ab Go.Proofs
set_option linter.unusedVariables false
set_option maxRecDepth 100000
def P_fettlelaw16_NeedOwn_1 (x0 x5 x49 x50 x51 : Value) (M : Store) (Q : Value → Store → Prop) : Prop :=
  ∀ f : Nat → Value, f 0 = x0 → f 5 = x5 → f 49 = x49 → f 50 = x50 → f 51 = x51 → At Try.prog Ex none Try.f15 [1, 1, 1, 1, 1, 1, 1, 1, 1, 1, 1, 0, 1, 0] ⟨⟨145, f⟩, []⟩ M Q
def P_fettlelaw16_NeedOwn_2 (x0 x5 x7 x49 x50 x51 x56 x57 : Value) (M : Store) (Q : Value → Store → Prop) : Prop :=
  ∀ f : Nat → Value, f 0 = x0 → f 5 = x5 → f 7 = x7 → f 49 = x49 → f 50 = x50 → f 51 = x51 → f 56 = x56 → f 57 = x57 → At Try.prog Ex none Try.f15 [1, 1, 1, 1, 1, 1, 1, 1, 1, 1, 1, 0, 1, 0, 0, 1, 1, 0, 0, 1, 1, 0] ⟨⟨145, f⟩, []⟩ M Q
def P_fettlelaw16_NeedOwn_3 (x0 x5 : Value) (M : Store) (Q : Value → Store → Prop) : Prop :=
  ∀ f : Nat → Value, f 0 = x0 → f 5 = x5 → At Try.prog Ex none Try.f15 [1, 1, 1, 1, 1, 1, 1, 1, 1, 1, 1, 1] ⟨⟨145, f⟩, []⟩ M Q
def P_fettlelaw16_NeedOwn_4 (x0 x5 x49 x50 x51 : Value) (M : Store) (Q : Value → Store → Prop) : Prop :=
  ∀ f : Nat → Value, f 0 = x0 → f 5 = x5 → f 49 = x49 → f 50 = x50 → f 51 = x51 → At Try.prog Ex none Try.f15 [1, 1, 1, 1, 1, 1, 1, 1, 1, 1, 1, 0, 1, 0, 0, 1, 1, 1] ⟨⟨145, f⟩, []⟩ M Q
def P_fettlelaw16_NeedOwn_5 (x0 x5 x69 x70 x71 : Value) (M : Store) (Q : Value → Store → Prop) : Prop :=
  ∀ f : Nat → Value, f 0 = x0 → f 5 = x5 → f 69 = x69 → f 70 = x70 → f 71 = x71 → At Try.prog Ex none Try.f15 [1, 1, 1, 1, 1, 1, 1, 1, 1, 1, 1, 1, 0, 1, 0] ⟨⟨145, f⟩, []⟩ M Q
def P_fettlelaw16_NeedOwn_6 (x0 x5 x10 x69 x70 x71 x76 x77 : Value) (M : Store) (Q : Value → Store → Prop) : Prop :=
  ∀ f : Nat → Value, f 0 = x0 → f 5 = x5 → f 10 = x10 → f 69 = x69 → f 70 = x70 → f 71 = x71 → f 76 = x76 → f 77 = x77 → At Try.prog Ex none Try.f15 [1, 1, 1, 1, 1, 1, 1, 1, 1, 1, 1, 1, 0, 1, 0, 0, 1, 1, 0, 0, 1, 1, 0] ⟨⟨145, f⟩, []⟩ M Q
def P_fettlelaw16_NeedOwn_7 (x0 x5 : Value) (M : Store) (Q : Value → Store → Prop) : Prop :=
  ∀ f : Nat → Value, f 0 = x0 → f 5 = x5 → At Try.prog Ex none Try.f15 [1, 1, 1, 1, 1, 1, 1, 1, 1, 1, 1, 1, 1] ⟨⟨145, f⟩, []⟩ M Q
def P_fettlelaw16_NeedOwn_8 (x0 x5 x69 x70 x71 : Value) (M : Store) (Q : Value → Store → Prop) : Prop :=
  ∀ f : Nat → Value, f 0 = x0 → f 5 = x5 → f 69 = x69 → f 70 = x70 → f 71 = x71 → At Try.prog Ex none Try.f15 [1, 1, 1, 1, 1, 1, 1, 1, 1, 1, 1, 1, 0, 1, 0, 0, 1, 1, 1] ⟨⟨145, f⟩, []⟩ M Q
def P_fettlelaw16_NeedOwn_9 (x0 x5 x12 x91 x92 : Value) (M : Store) (Q : Value → Store → Prop) : Prop :=
  ∀ f : Nat → Value, f 0 = x0 → f 5 = x5 → f 12 = x12 → f 91 = x91 → f 92 = x92 → At Try.prog Ex none Try.f15 [1, 1, 1, 1, 1, 1, 1, 1, 1, 1, 1, 1, 1, 1, 0, 1, 0] ⟨⟨145, f⟩, []⟩ M Q
def P_fettlelaw16_NeedOwn_10 (x0 x5 : Value) (M : Store) (Q : Value → Store → Prop) : Prop :=
  ∀ f : Nat → Value, f 0 = x0 → f 5 = x5 → At Try.prog Ex none Try.f15 [1, 1, 1, 1, 1, 1, 1, 1, 1, 1, 1, 1, 1, 1, 1] ⟨⟨145, f⟩, []⟩ M Q
def P_fettlelaw16_NeedOwn_11 (x0 x5 x14 x106 x107 x108 : Value) (M : Store) (Q : Value → Store → Prop) : Prop :=
  ∀ f : Nat → Value, f 0 = x0 → f 5 = x5 → f 14 = x14 → f 106 = x106 → f 107 = x107 → f 108 = x108 → At Try.prog Ex none Try.f15 [1, 1, 1, 1, 1, 1, 1, 1, 1, 1, 1, 1, 1, 1, 1, 1, 0, 1, 0] ⟨⟨145, f⟩, []⟩ M Q
def P_fettlelaw16_NeedOwn_12 (x0 x5 x14 x106 x107 x108 : Value) (M : Store) (Q : Value → Store → Prop) : Prop :=
  ∀ f : Nat → Value, f 0 = x0 → f 5 = x5 → f 14 = x14 → f 106 = x106 → f 107 = x107 → f 108 = x108 → At Try.prog Ex none Try.f15 [1, 1, 1, 1, 1, 1, 1, 1, 1, 1, 1, 1, 1, 1, 1, 1, 0, 1, 0, 0, 1, 1] ⟨⟨145, f⟩, []⟩ M Q
def P_fettlelaw16_NeedOwn_13 (x5 : Value) (M : Store) (Q : Value → Store → Prop) : Prop :=
  ∀ f : Nat → Value, f 5 = x5 → At Try.prog Ex none Try.f15 [1, 1, 1, 1, 1, 1, 1, 1, 1, 1, 1, 1, 1, 1, 1, 1, 1] ⟨⟨145, f⟩, []⟩ M Q
def S_fettlelaw16_NeedOwn (x0 : Value) (M : Store) (Q : Value → Store → Prop) : Prop :=
  OP (lenV x0) fun t18 =>
  OP (binI .gtr t18 (.int .i64 256)) fun t19 =>
  BR t19 (
  R F.fettlelaw16_awake #[] M fun t20 M1 =>
  NTs [t20] ∧ Q t20 M1
  ) (
  R F.simf_New #[(.int .i64 1048576)] M fun t21 M2 =>
  R F.fettlelaw16_Rule #[] M2 fun t22 M3 =>
  LT (.pointer (some ⟨M3.n, 0, none⟩)) (M3.push (some (.inl ([(.slice none 0 0), (.slice none 0 0), (.slice none 0 0), (.slice none 0 0), (.bool false)], Ty.api_Rule, true)))) fun t4 M4 =>
  OP (st 5 t4 t22 M4) fun M5 =>
  OP (abin Try.prog true .eql Ty.p_simf_FS t21 (.pointer none)) fun t24 =>
  BR t24 (
  NTs [(.bool false)] ∧ Q (.bool false) M5
  ) (
  R F.simf_FS_Put #[t21, (.string ⟨#[115]⟩), x0] M5 fun t27 M6 =>
  OP (ld 5 true t4 M6) fun t28 =>
  R F.need_New #[t28, (.func (.func F.fettlelaw16_made) #[] #[])] M6 fun t29 M7 =>
  OP (abin Try.prog true .eql Ty.p_need_Ask t29 (.pointer none)) fun t31 =>
  BR t31 (
  NTs [(.bool false)] ∧ Q (.bool false) M7
  ) (
  OP (fad 0 t4) fun t32 =>
  OP (ld 1 false t32 M7) fun t33 =>
  OP (fad 1 t4) fun t34 =>
  OP (ld 1 false t34 M7) fun t35 =>
  OP (ixA 1 t33 (.int .i64 0)) fun t36 =>
  OP (st 1 t36 (.string ⟨#[122, 122]⟩) M7) fun M8 =>
  TDx [0, 1, 0, 4, 3, 19, 63, 127] [M7.n, M7.n, M7.n, M7.n, M7.n, M7.n] 5 M7 M8 ∧
  Dj (tdiff M7 M8) (idsV t34) ∧
  OP (ixA 1 t35 (.int .i64 0)) fun t37 =>
  OP (st 1 t37 (.string ⟨#[122, 122]⟩) M8) fun M9 =>
  TDx [0, 1, 0, 4, 3, 19, 63, 127] [M7.n, M7.n, M7.n, M7.n, M7.n, M7.n, M8.n, M8.n] 7 M8 M9 ∧
  OP (fad 3 t4) fun t38 =>
  OP (ld 1 false t38 M9) fun t39 =>
  OP (ixA 1 t39 (.int .i64 0)) fun t40 =>
  OP (ld 1 false t40 M9) fun t41 =>
  OP (ixA 3 t41 (.int .i64 0)) fun t42 =>
  OP (fad 0 t42) fun t43 =>
  OP (st 1 t43 (.int .i64 11) M9) fun M10 =>
  R F.fettlelaw16_ask #[t21, t29] M10 fun t46 M11 =>
  OP (binI .neq t46 (.int .i64 2)) fun t47 =>
  BR t47 (
  NTs [(.bool false)] ∧ Q (.bool false) M11
  ) (
  R F.need_Ask_Prints #[t29] M11 fun t49 M12 =>
  OP (lenV t49) fun t50 =>
  P_fettlelaw16_NeedOwn_1 x0 t29 t49 t50 (.int .i64 0) M12 Q
  )
  )
  )
  )
theorem T_fettlelaw16_NeedOwn {x0 : Value} {M : Store} {Q : Value → Store → Prop} (h : S_fettlelaw16_NeedOwn x0 M Q) : R F.fettlelaw16_NeedOwn #[x0] M Q := by
  refine runs_of (c := bodyOf Try.f15) Try.func15 rfl (by kernel_rfl) (by kernel_rfl) ?_
  unfold At
  exact rule (B := 1000) (N := 145) (ct := (.two .no (.two .no (.two .no (.two .no (.two .no (.two .no (.two .no (.two .no (.two .no (.two .no (.two .no (.two (.two .no (.two (.here 1000) .no)) (.here 1001))))))))))))))
    [⟨1002, fun a M => dfr a.defers (P_fettlelaw16_NeedOwn_1 (a.get 0) (a.get 5) (a.get 49) (a.get 50) (a.get 51) M Q), fun a M => At Try.prog Ex none Try.f15 [1, 1, 1, 1, 1, 1, 1, 1, 1, 1, 1, 0, 1, 0] a M Q⟩,
    ⟨1003, fun _ _ => False, fun a M => At Try.prog Ex none Try.f15 [1, 1, 1, 1, 1, 1, 1, 1, 1, 1, 1, 1] a M Q⟩,
    ⟨1, fun a M => kfin Try.prog Try.f15.results.toList Q 1 a M, fun a M => kfin Try.prog Try.f15.results.toList Q 1 a M⟩]
    [1000, 1001] [1] (by kernel_rfl) (by kernel_rfl) (by kernel_rfl) (by kernel_rfl) (by kernel_rfl)
    ⟨fun a M hn h => by obtain ⟨⟨n, f⟩, ds⟩ := a; have hn : n = 145 := hn; subst hn; obtain ⟨hd, h⟩ := dfr_iff h; have hd : ds = [] := hd; subst hd; exact h f rfl rfl rfl rfl rfl,
    fun _ _ _ h => h.elim,
    fun _ _ _ h => h,
    trivial⟩
    (cast (by kernel_rfl) h)
def S_fettlelaw16_NeedOwn_1 (x0 x5 x49 x50 x51 : Value) (M : Store) (Q : Value → Store → Prop) : Prop :=
  OP (binI .lss x51 x50) fun t52 =>
  BR t52 (
  OP (ixA 1 x49 x51) fun t53 =>
  OP (ld 1 false t53 M) fun t54 =>
  OP (lenV t54) fun t56 =>
  P_fettlelaw16_NeedOwn_2 x0 x5 t54 x49 x50 x51 t56 (.int .i64 0) M Q
  ) (
  P_fettlelaw16_NeedOwn_3 x0 x5 M Q
  )
theorem T_fettlelaw16_NeedOwn_1 {x0 x5 x49 x50 x51 : Value} {M : Store} {Q : Value → Store → Prop} (h : S_fettlelaw16_NeedOwn_1 x0 x5 x49 x50 x51 M Q) : P_fettlelaw16_NeedOwn_1 x0 x5 x49 x50 x51 M Q := by
  intro f h0 h5 h49 h50 h51; subst h0; subst h5; subst h49; subst h50; subst h51
  unfold At
  refine cast (by kernel_rfl) (CW.loop (P := Try.prog) (E := Ex) (rd := none) (x := sub (bodyOf Try.f15) [1, 1, 1, 1, 1, 1, 1, 1, 1, 1, 1, 0, 1, 0, 0]) (a := ⟨⟨145, f⟩, []⟩) (M := M) (K := kcont Try.prog Ex none (bodyOf Try.f15) [1, 1, 1, 1, 1, 1, 1, 1, 1, 1, 1, 0, 1, 0] (kfin Try.prog Try.f15.results.toList Q)) ?_)
  exact rule (B := 1000) (N := 145) (ct := (.two .no (.two .no (.two (.two (.two .no (.two .no (.two (.here 1000) .no))) .no) (.here 1001)))))
    [⟨1002, fun a M => dfr a.defers (P_fettlelaw16_NeedOwn_2 (a.get 0) (a.get 5) (a.get 7) (a.get 49) (a.get 50) (a.get 51) (a.get 56) (a.get 57) M Q), fun a M => At Try.prog Ex none Try.f15 [1, 1, 1, 1, 1, 1, 1, 1, 1, 1, 1, 0, 1, 0, 0, 1, 1, 0, 0, 1, 1, 0] a M Q⟩,
    ⟨1003, fun _ _ => False, fun a M => At Try.prog Ex none Try.f15 [1, 1, 1, 1, 1, 1, 1, 1, 1, 1, 1, 0, 1, 0, 0, 1, 1, 1] a M Q⟩,
    ⟨2, fun a M => dfr a.defers (P_fettlelaw16_NeedOwn_3 (a.get 0) (a.get 5) M Q), fun a M => At Try.prog Ex none Try.f15 [1, 1, 1, 1, 1, 1, 1, 1, 1, 1, 1, 1] a M Q⟩]
    [1000, 1001] [2] (by kernel_rfl) (by kernel_rfl) (by kernel_rfl) (by kernel_rfl) (by kernel_rfl)
    ⟨fun a M hn h => by obtain ⟨⟨n, f⟩, ds⟩ := a; have hn : n = 145 := hn; subst hn; obtain ⟨hd, h⟩ := dfr_iff h; have hd : ds = [] := hd; subst hd; exact h f rfl rfl rfl rfl rfl rfl rfl rfl,
    fun _ _ _ h => h.elim,
    fun a M hn h => by obtain ⟨⟨n, f⟩, ds⟩ := a; have hn : n = 145 := hn; subst hn; obtain ⟨hd, h⟩ := dfr_iff h; have hd : ds = [] := hd; subst hd; exact h f rfl rfl,
    trivial⟩
    (cast (by kernel_rfl) h)
def S_fettlelaw16_NeedOwn_2 (x0 x5 x7 x49 x50 x51 x56 x57 : Value) (M : Store) (Q : Value → Store → Prop) : Prop :=
  OP (binI .lss x57 x56) fun t58 =>
  BR t58 (
  OP (ixA 1 x7 x57) fun t62 =>
  OP (ld 1 false t62 M) fun t63 =>
  OP (binI .add t63 (.int .u8 1)) fun t64 =>
  OP (ixA 1 x7 x57) fun t65 =>
  OP (st 1 t65 t64 M) fun M1 =>
  OP (binI .add x57 (.int .i64 1)) fun t66 =>
  P_fettlelaw16_NeedOwn_2 x0 x5 x7 x49 x50 x51 x56 t66 M1 Q
  ) (
  P_fettlelaw16_NeedOwn_4 x0 x5 x49 x50 x51 M Q
  )
theorem T_fettlelaw16_NeedOwn_2 {x0 x5 x7 x49 x50 x51 x56 x57 : Value} {M : Store} {Q : Value → Store → Prop} (h : S_fettlelaw16_NeedOwn_2 x0 x5 x7 x49 x50 x51 x56 x57 M Q) : P_fettlelaw16_NeedOwn_2 x0 x5 x7 x49 x50 x51 x56 x57 M Q := by
  intro f h0 h5 h7 h49 h50 h51 h56 h57; subst h0; subst h5; subst h7; subst h49; subst h50; subst h51; subst h56; subst h57
  unfold At
  refine cast (by kernel_rfl) (CW.loop (P := Try.prog) (E := Ex) (rd := none) (x := sub (bodyOf Try.f15) [1, 1, 1, 1, 1, 1, 1, 1, 1, 1, 1, 0, 1, 0, 0, 1, 1, 0, 0, 1, 1, 0, 0]) (a := ⟨⟨145, f⟩, []⟩) (M := M) (K := kcont Try.prog Ex none (bodyOf Try.f15) [1, 1, 1, 1, 1, 1, 1, 1, 1, 1, 1, 0, 1, 0, 0, 1, 1, 0, 0, 1, 1, 0] (kfin Try.prog Try.f15.results.toList Q)) ?_)
  exact rule (B := 1000) (N := 145) (ct := .no)
    [⟨0, fun a M => dfr a.defers (P_fettlelaw16_NeedOwn_2 (a.get 0) (a.get 5) (a.get 7) (a.get 49) (a.get 50) (a.get 51) (a.get 56) (a.get 57) M Q), fun a M => At Try.prog Ex none Try.f15 [1, 1, 1, 1, 1, 1, 1, 1, 1, 1, 1, 0, 1, 0, 0, 1, 1, 0, 0, 1, 1, 0] a M Q⟩,
    ⟨4, fun a M => dfr a.defers (P_fettlelaw16_NeedOwn_4 (a.get 0) (a.get 5) (a.get 49) (a.get 50) (a.get 51) M Q), fun a M => At Try.prog Ex none Try.f15 [1, 1, 1, 1, 1, 1, 1, 1, 1, 1, 1, 0, 1, 0, 0, 1, 1, 1] a M Q⟩]
    [] [0, 4] (by kernel_rfl) (by kernel_rfl) (by kernel_rfl) (by kernel_rfl) (by kernel_rfl)
    ⟨fun a M hn h => by obtain ⟨⟨n, f⟩, ds⟩ := a; have hn : n = 145 := hn; subst hn; obtain ⟨hd, h⟩ := dfr_iff h; have hd : ds = [] := hd; subst hd; exact h f rfl rfl rfl rfl rfl rfl rfl rfl,
    fun a M hn h => by obtain ⟨⟨n, f⟩, ds⟩ := a; have hn : n = 145 := hn; subst hn; obtain ⟨hd, h⟩ := dfr_iff h; have hd : ds = [] := hd; subst hd; exact h f rfl rfl rfl rfl rfl,
    trivial⟩
    (cast (by kernel_rfl) h)
def S_fettlelaw16_NeedOwn_3 (x0 x5 : Value) (M : Store) (Q : Value → Store → Prop) : Prop :=
  R F.need_Ask_Values #[x5] M fun t69 M1 =>
  OP (lenV t69) fun t70 =>
  P_fettlelaw16_NeedOwn_5 x0 x5 t69 t70 (.int .i64 0) M1 Q
theorem T_fettlelaw16_NeedOwn_3 {x0 x5 : Value} {M : Store} {Q : Value → Store → Prop} (h : S_fettlelaw16_NeedOwn_3 x0 x5 M Q) : P_fettlelaw16_NeedOwn_3 x0 x5 M Q := by
  intro f h0 h5; subst h0; subst h5
  unfold At
  exact rule (B := 1000) (N := 145) (ct := (.two (.two .no (.two (.here 1000) .no)) (.here 1001)))
    [⟨1002, fun a M => dfr a.defers (P_fettlelaw16_NeedOwn_5 (a.get 0) (a.get 5) (a.get 69) (a.get 70) (a.get 71) M Q), fun a M => At Try.prog Ex none Try.f15 [1, 1, 1, 1, 1, 1, 1, 1, 1, 1, 1, 1, 0, 1, 0] a M Q⟩,
    ⟨1003, fun _ _ => False, fun a M => At Try.prog Ex none Try.f15 [1, 1, 1, 1, 1, 1, 1, 1, 1, 1, 1, 1, 1] a M Q⟩]
    [1000, 1001] [] (by kernel_rfl) (by kernel_rfl) (by kernel_rfl) (by kernel_rfl) (by kernel_rfl)
    ⟨fun a M hn h => by obtain ⟨⟨n, f⟩, ds⟩ := a; have hn : n = 145 := hn; subst hn; obtain ⟨hd, h⟩ := dfr_iff h; have hd : ds = [] := hd; subst hd; exact h f rfl rfl rfl rfl rfl,
    fun _ _ _ h => h.elim,
    trivial⟩
    (cast (by kernel_rfl) h)
def S_fettlelaw16_NeedOwn_4 (x0 x5 x49 x50 x51 : Value) (M : Store) (Q : Value → Store → Prop) : Prop :=
  OP (binI .add x51 (.int .i64 1)) fun t67 =>
  P_fettlelaw16_NeedOwn_1 x0 x5 x49 x50 t67 M Q
theorem T_fettlelaw16_NeedOwn_4 {x0 x5 x49 x50 x51 : Value} {M : Store} {Q : Value → Store → Prop} (h : S_fettlelaw16_NeedOwn_4 x0 x5 x49 x50 x51 M Q) : P_fettlelaw16_NeedOwn_4 x0 x5 x49 x50 x51 M Q := by
  intro f h0 h5 h49 h50 h51; subst h0; subst h5; subst h49; subst h50; subst h51
  unfold At
  exact rule (B := 1000) (N := 145) (ct := .no)
    [⟨0, fun a M => dfr a.defers (P_fettlelaw16_NeedOwn_1 (a.get 0) (a.get 5) (a.get 49) (a.get 50) (a.get 51) M Q), fun a M => At Try.prog Ex none Try.f15 [1, 1, 1, 1, 1, 1, 1, 1, 1, 1, 1, 0, 1, 0] a M Q⟩]
    [] [0] (by kernel_rfl) (by kernel_rfl) (by kernel_rfl) (by kernel_rfl) (by kernel_rfl)
    ⟨fun a M hn h => by obtain ⟨⟨n, f⟩, ds⟩ := a; have hn : n = 145 := hn; subst hn; obtain ⟨hd, h⟩ := dfr_iff h; have hd : ds = [] := hd; subst hd; exact h f rfl rfl rfl rfl rfl,
    trivial⟩
    (cast (by kernel_rfl) h)
def S_fettlelaw16_NeedOwn_5 (x0 x5 x69 x70 x71 : Value) (M : Store) (Q : Value → Store → Prop) : Prop :=
  OP (binI .lss x71 x70) fun t72 =>
  BR t72 (
  OP (ixA 1 x69 x71) fun t73 =>
  OP (ld 1 false t73 M) fun t74 =>
  OP (lenV t74) fun t76 =>
  P_fettlelaw16_NeedOwn_6 x0 x5 t74 x69 x70 x71 t76 (.int .i64 0) M Q
  ) (
  P_fettlelaw16_NeedOwn_7 x0 x5 M Q
  )
theorem T_fettlelaw16_NeedOwn_5 {x0 x5 x69 x70 x71 : Value} {M : Store} {Q : Value → Store → Prop} (h : S_fettlelaw16_NeedOwn_5 x0 x5 x69 x70 x71 M Q) : P_fettlelaw16_NeedOwn_5 x0 x5 x69 x70 x71 M Q := by
  intro f h0 h5 h69 h70 h71; subst h0; subst h5; subst h69; subst h70; subst h71
  unfold At
  refine cast (by kernel_rfl) (CW.loop (P := Try.prog) (E := Ex) (rd := none) (x := sub (bodyOf Try.f15) [1, 1, 1, 1, 1, 1, 1, 1, 1, 1, 1, 1, 0, 1, 0, 0]) (a := ⟨⟨145, f⟩, []⟩) (M := M) (K := kcont Try.prog Ex none (bodyOf Try.f15) [1, 1, 1, 1, 1, 1, 1, 1, 1, 1, 1, 1, 0, 1, 0] (kfin Try.prog Try.f15.results.toList Q)) ?_)
  exact rule (B := 1000) (N := 145) (ct := (.two .no (.two .no (.two (.two (.two .no (.two .no (.two (.here 1000) .no))) .no) (.here 1001)))))
    [⟨1002, fun a M => dfr a.defers (P_fettlelaw16_NeedOwn_6 (a.get 0) (a.get 5) (a.get 10) (a.get 69) (a.get 70) (a.get 71) (a.get 76) (a.get 77) M Q), fun a M => At Try.prog Ex none Try.f15 [1, 1, 1, 1, 1, 1, 1, 1, 1, 1, 1, 1, 0, 1, 0, 0, 1, 1, 0, 0, 1, 1, 0] a M Q⟩,
    ⟨1003, fun _ _ => False, fun a M => At Try.prog Ex none Try.f15 [1, 1, 1, 1, 1, 1, 1, 1, 1, 1, 1, 1, 0, 1, 0, 0, 1, 1, 1] a M Q⟩,
    ⟨6, fun a M => dfr a.defers (P_fettlelaw16_NeedOwn_7 (a.get 0) (a.get 5) M Q), fun a M => At Try.prog Ex none Try.f15 [1, 1, 1, 1, 1, 1, 1, 1, 1, 1, 1, 1, 1] a M Q⟩]
    [1000, 1001] [6] (by kernel_rfl) (by kernel_rfl) (by kernel_rfl) (by kernel_rfl) (by kernel_rfl)
    ⟨fun a M hn h => by obtain ⟨⟨n, f⟩, ds⟩ := a; have hn : n = 145 := hn; subst hn; obtain ⟨hd, h⟩ := dfr_iff h; have hd : ds = [] := hd; subst hd; exact h f rfl rfl rfl rfl rfl rfl rfl rfl,
    fun _ _ _ h => h.elim,
    fun a M hn h => by obtain ⟨⟨n, f⟩, ds⟩ := a; have hn : n = 145 := hn; subst hn; obtain ⟨hd, h⟩ := dfr_iff h; have hd : ds = [] := hd; subst hd; exact h f rfl rfl,
    trivial⟩
    (cast (by kernel_rfl) h)
def S_fettlelaw16_NeedOwn_6 (x0 x5 x10 x69 x70 x71 x76 x77 : Value) (M : Store) (Q : Value → Store → Prop) : Prop :=
  OP (binI .lss x77 x76) fun t78 =>
  BR t78 (
  OP (ixA 1 x10 x77) fun t82 =>
  OP (ld 1 false t82 M) fun t83 =>
  OP (binI .add t83 (.int .u8 1)) fun t84 =>
  OP (ixA 1 x10 x77) fun t85 =>
  OP (st 1 t85 t84 M) fun M1 =>
  OP (binI .add x77 (.int .i64 1)) fun t86 =>
  P_fettlelaw16_NeedOwn_6 x0 x5 x10 x69 x70 x71 x76 t86 M1 Q
  ) (
  P_fettlelaw16_NeedOwn_8 x0 x5 x69 x70 x71 M Q
  )
theorem T_fettlelaw16_NeedOwn_6 {x0 x5 x10 x69 x70 x71 x76 x77 : Value} {M : Store} {Q : Value → Store → Prop} (h : S_fettlelaw16_NeedOwn_6 x0 x5 x10 x69 x70 x71 x76 x77 M Q) : P_fettlelaw16_NeedOwn_6 x0 x5 x10 x69 x70 x71 x76 x77 M Q := by
  intro f h0 h5 h10 h69 h70 h71 h76 h77; subst h0; subst h5; subst h10; subst h69; subst h70; subst h71; subst h76; subst h77
  unfold At
  refine cast (by kernel_rfl) (CW.loop (P := Try.prog) (E := Ex) (rd := none) (x := sub (bodyOf Try.f15) [1, 1, 1, 1, 1, 1, 1, 1, 1, 1, 1, 1, 0, 1, 0, 0, 1, 1, 0, 0, 1, 1, 0, 0]) (a := ⟨⟨145, f⟩, []⟩) (M := M) (K := kcont Try.prog Ex none (bodyOf Try.f15) [1, 1, 1, 1, 1, 1, 1, 1, 1, 1, 1, 1, 0, 1, 0, 0, 1, 1, 0, 0, 1, 1, 0] (kfin Try.prog Try.f15.results.toList Q)) ?_)
  exact rule (B := 1000) (N := 145) (ct := .no)
    [⟨0, fun a M => dfr a.defers (P_fettlelaw16_NeedOwn_6 (a.get 0) (a.get 5) (a.get 10) (a.get 69) (a.get 70) (a.get 71) (a.get 76) (a.get 77) M Q), fun a M => At Try.prog Ex none Try.f15 [1, 1, 1, 1, 1, 1, 1, 1, 1, 1, 1, 1, 0, 1, 0, 0, 1, 1, 0, 0, 1, 1, 0] a M Q⟩,
    ⟨8, fun a M => dfr a.defers (P_fettlelaw16_NeedOwn_8 (a.get 0) (a.get 5) (a.get 69) (a.get 70) (a.get 71) M Q), fun a M => At Try.prog Ex none Try.f15 [1, 1, 1, 1, 1, 1, 1, 1, 1, 1, 1, 1, 0, 1, 0, 0, 1, 1, 1] a M Q⟩]
    [] [0, 8] (by kernel_rfl) (by kernel_rfl) (by kernel_rfl) (by kernel_rfl) (by kernel_rfl)
    ⟨fun a M hn h => by obtain ⟨⟨n, f⟩, ds⟩ := a; have hn : n = 145 := hn; subst hn; obtain ⟨hd, h⟩ := dfr_iff h; have hd : ds = [] := hd; subst hd; exact h f rfl rfl rfl rfl rfl rfl rfl rfl,
    fun a M hn h => by obtain ⟨⟨n, f⟩, ds⟩ := a; have hn : n = 145 := hn; subst hn; obtain ⟨hd, h⟩ := dfr_iff h; have hd : ds = [] := hd; subst hd; exact h f rfl rfl rfl rfl rfl,
    trivial⟩
    (cast (by kernel_rfl) h)
def S_fettlelaw16_NeedOwn_7 (x0 x5 : Value) (M : Store) (Q : Value → Store → Prop) : Prop :=
  R F.need_Ask_Old #[x5] M fun t89 M1 =>
  OP (lenV t89) fun t91 =>
  P_fettlelaw16_NeedOwn_9 x0 x5 t89 t91 (.int .i64 0) M1 Q
theorem T_fettlelaw16_NeedOwn_7 {x0 x5 : Value} {M : Store} {Q : Value → Store → Prop} (h : S_fettlelaw16_NeedOwn_7 x0 x5 M Q) : P_fettlelaw16_NeedOwn_7 x0 x5 M Q := by
  intro f h0 h5; subst h0; subst h5
  unfold At
  exact rule (B := 1000) (N := 145) (ct := (.two .no (.two (.two .no (.two (.here 1000) .no)) (.here 1001))))
    [⟨1002, fun a M => dfr a.defers (P_fettlelaw16_NeedOwn_9 (a.get 0) (a.get 5) (a.get 12) (a.get 91) (a.get 92) M Q), fun a M => At Try.prog Ex none Try.f15 [1, 1, 1, 1, 1, 1, 1, 1, 1, 1, 1, 1, 1, 1, 0, 1, 0] a M Q⟩,
    ⟨1003, fun _ _ => False, fun a M => At Try.prog Ex none Try.f15 [1, 1, 1, 1, 1, 1, 1, 1, 1, 1, 1, 1, 1, 1, 1] a M Q⟩]
    [1000, 1001] [] (by kernel_rfl) (by kernel_rfl) (by kernel_rfl) (by kernel_rfl) (by kernel_rfl)
    ⟨fun a M hn h => by obtain ⟨⟨n, f⟩, ds⟩ := a; have hn : n = 145 := hn; subst hn; obtain ⟨hd, h⟩ := dfr_iff h; have hd : ds = [] := hd; subst hd; exact h f rfl rfl rfl rfl rfl,
    fun _ _ _ h => h.elim,
    trivial⟩
    (cast (by kernel_rfl) h)
def S_fettlelaw16_NeedOwn_8 (x0 x5 x69 x70 x71 : Value) (M : Store) (Q : Value → Store → Prop) : Prop :=
  OP (binI .add x71 (.int .i64 1)) fun t87 =>
  P_fettlelaw16_NeedOwn_5 x0 x5 x69 x70 t87 M Q
theorem T_fettlelaw16_NeedOwn_8 {x0 x5 x69 x70 x71 : Value} {M : Store} {Q : Value → Store → Prop} (h : S_fettlelaw16_NeedOwn_8 x0 x5 x69 x70 x71 M Q) : P_fettlelaw16_NeedOwn_8 x0 x5 x69 x70 x71 M Q := by
  intro f h0 h5 h69 h70 h71; subst h0; subst h5; subst h69; subst h70; subst h71
  unfold At
  exact rule (B := 1000) (N := 145) (ct := .no)
    [⟨0, fun a M => dfr a.defers (P_fettlelaw16_NeedOwn_5 (a.get 0) (a.get 5) (a.get 69) (a.get 70) (a.get 71) M Q), fun a M => At Try.prog Ex none Try.f15 [1, 1, 1, 1, 1, 1, 1, 1, 1, 1, 1, 1, 0, 1, 0] a M Q⟩]
    [] [0] (by kernel_rfl) (by kernel_rfl) (by kernel_rfl) (by kernel_rfl) (by kernel_rfl)
    ⟨fun a M hn h => by obtain ⟨⟨n, f⟩, ds⟩ := a; have hn : n = 145 := hn; subst hn; obtain ⟨hd, h⟩ := dfr_iff h; have hd : ds = [] := hd; subst hd; exact h f rfl rfl rfl rfl rfl,
    trivial⟩
    (cast (by kernel_rfl) h)
def S_fettlelaw16_NeedOwn_9 (x0 x5 x12 x91 x92 : Value) (M : Store) (Q : Value → Store → Prop) : Prop :=
  OP (binI .lss x92 x91) fun t93 =>
  BR t93 (
  OP (ixA 1 x12 x92) fun t99 =>
  OP (ld 1 false t99 M) fun t100 =>
  OP (aun .not t100) fun t101 =>
  OP (ixA 1 x12 x92) fun t102 =>
  OP (st 1 t102 t101 M) fun M1 =>
  OP (binI .add x92 (.int .i64 1)) fun t103 =>
  P_fettlelaw16_NeedOwn_9 x0 x5 x12 x91 t103 M1 Q
  ) (
  P_fettlelaw16_NeedOwn_10 x0 x5 M Q
  )
theorem T_fettlelaw16_NeedOwn_9 {x0 x5 x12 x91 x92 : Value} {M : Store} {Q : Value → Store → Prop} (h : S_fettlelaw16_NeedOwn_9 x0 x5 x12 x91 x92 M Q) : P_fettlelaw16_NeedOwn_9 x0 x5 x12 x91 x92 M Q := by
  intro f h0 h5 h12 h91 h92; subst h0; subst h5; subst h12; subst h91; subst h92
  unfold At
  refine cast (by kernel_rfl) (CW.loop (P := Try.prog) (E := Ex) (rd := none) (x := sub (bodyOf Try.f15) [1, 1, 1, 1, 1, 1, 1, 1, 1, 1, 1, 1, 1, 1, 0, 1, 0, 0]) (a := ⟨⟨145, f⟩, []⟩) (M := M) (K := kcont Try.prog Ex none (bodyOf Try.f15) [1, 1, 1, 1, 1, 1, 1, 1, 1, 1, 1, 1, 1, 1, 0, 1, 0] (kfin Try.prog Try.f15.results.toList Q)) ?_)
  exact rule (B := 1000) (N := 145) (ct := .no)
    [⟨0, fun a M => dfr a.defers (P_fettlelaw16_NeedOwn_9 (a.get 0) (a.get 5) (a.get 12) (a.get 91) (a.get 92) M Q), fun a M => At Try.prog Ex none Try.f15 [1, 1, 1, 1, 1, 1, 1, 1, 1, 1, 1, 1, 1, 1, 0, 1, 0] a M Q⟩,
    ⟨10, fun a M => dfr a.defers (P_fettlelaw16_NeedOwn_10 (a.get 0) (a.get 5) M Q), fun a M => At Try.prog Ex none Try.f15 [1, 1, 1, 1, 1, 1, 1, 1, 1, 1, 1, 1, 1, 1, 1] a M Q⟩]
    [] [0, 10] (by kernel_rfl) (by kernel_rfl) (by kernel_rfl) (by kernel_rfl) (by kernel_rfl)
    ⟨fun a M hn h => by obtain ⟨⟨n, f⟩, ds⟩ := a; have hn : n = 145 := hn; subst hn; obtain ⟨hd, h⟩ := dfr_iff h; have hd : ds = [] := hd; subst hd; exact h f rfl rfl rfl rfl rfl,
    fun a M hn h => by obtain ⟨⟨n, f⟩, ds⟩ := a; have hn : n = 145 := hn; subst hn; obtain ⟨hd, h⟩ := dfr_iff h; have hd : ds = [] := hd; subst hd; exact h f rfl rfl,
    trivial⟩
    (cast (by kernel_rfl) h)
def S_fettlelaw16_NeedOwn_10 (x0 x5 : Value) (M : Store) (Q : Value → Store → Prop) : Prop :=
  R F.fettlelaw16_Rule #[] M fun t104 M1 =>
  LT (.pointer (some ⟨M1.n, 0, none⟩)) (M1.push (some (.inl ([(.slice none 0 0), (.slice none 0 0), (.slice none 0 0), (.slice none 0 0), (.bool false)], Ty.api_Rule, true)))) fun t14 M2 =>
  OP (st 5 t14 t104 M2) fun M3 =>
  R F.need_Ask_Prints #[x5] M3 fun t106 M4 =>
  OP (lenV t106) fun t107 =>
  P_fettlelaw16_NeedOwn_11 x0 x5 t14 t106 t107 (.int .i64 0) M4 Q
theorem T_fettlelaw16_NeedOwn_10 {x0 x5 : Value} {M : Store} {Q : Value → Store → Prop} (h : S_fettlelaw16_NeedOwn_10 x0 x5 M Q) : P_fettlelaw16_NeedOwn_10 x0 x5 M Q := by
  intro f h0 h5; subst h0; subst h5
  unfold At
  exact rule (B := 1000) (N := 145) (ct := (.two .no (.two (.two .no (.two (.here 1000) .no)) (.here 1001))))
    [⟨1002, fun a M => dfr a.defers (P_fettlelaw16_NeedOwn_11 (a.get 0) (a.get 5) (a.get 14) (a.get 106) (a.get 107) (a.get 108) M Q), fun a M => At Try.prog Ex none Try.f15 [1, 1, 1, 1, 1, 1, 1, 1, 1, 1, 1, 1, 1, 1, 1, 1, 0, 1, 0] a M Q⟩,
    ⟨1003, fun _ _ => False, fun a M => At Try.prog Ex none Try.f15 [1, 1, 1, 1, 1, 1, 1, 1, 1, 1, 1, 1, 1, 1, 1, 1, 1] a M Q⟩]
    [1000, 1001] [] (by kernel_rfl) (by kernel_rfl) (by kernel_rfl) (by kernel_rfl) (by kernel_rfl)
    ⟨fun a M hn h => by obtain ⟨⟨n, f⟩, ds⟩ := a; have hn : n = 145 := hn; subst hn; obtain ⟨hd, h⟩ := dfr_iff h; have hd : ds = [] := hd; subst hd; exact h f rfl rfl rfl rfl rfl rfl,
    fun _ _ _ h => h.elim,
    trivial⟩
    (cast (by kernel_rfl) h)
def S_fettlelaw16_NeedOwn_11 (x0 x5 x14 x106 x107 x108 : Value) (M : Store) (Q : Value → Store → Prop) : Prop :=
  OP (binI .lss x108 x107) fun t109 =>
  BR t109 (
  P_fettlelaw16_NeedOwn_12 x0 x5 x14 x106 x107 x108 M Q
  ) (
  P_fettlelaw16_NeedOwn_13 x5 M Q
  )
theorem T_fettlelaw16_NeedOwn_11 {x0 x5 x14 x106 x107 x108 : Value} {M : Store} {Q : Value → Store → Prop} (h : S_fettlelaw16_NeedOwn_11 x0 x5 x14 x106 x107 x108 M Q) : P_fettlelaw16_NeedOwn_11 x0 x5 x14 x106 x107 x108 M Q := by
  intro f h0 h5 h14 h106 h107 h108; subst h0; subst h5; subst h14; subst h106; subst h107; subst h108
  unfold At
  refine cast (by kernel_rfl) (CW.loop (P := Try.prog) (E := Ex) (rd := none) (x := sub (bodyOf Try.f15) [1, 1, 1, 1, 1, 1, 1, 1, 1, 1, 1, 1, 1, 1, 1, 1, 0, 1, 0, 0]) (a := ⟨⟨145, f⟩, []⟩) (M := M) (K := kcont Try.prog Ex none (bodyOf Try.f15) [1, 1, 1, 1, 1, 1, 1, 1, 1, 1, 1, 1, 1, 1, 1, 1, 0, 1, 0] (kfin Try.prog Try.f15.results.toList Q)) ?_)
  exact rule (B := 1000) (N := 145) (ct := (.two .no (.two .no (.here 1000))))
    [⟨1002, fun a M => dfr a.defers (P_fettlelaw16_NeedOwn_12 (a.get 0) (a.get 5) (a.get 14) (a.get 106) (a.get 107) (a.get 108) M Q), fun a M => At Try.prog Ex none Try.f15 [1, 1, 1, 1, 1, 1, 1, 1, 1, 1, 1, 1, 1, 1, 1, 1, 0, 1, 0, 0, 1, 1] a M Q⟩,
    ⟨12, fun a M => dfr a.defers (P_fettlelaw16_NeedOwn_13 (a.get 5) M Q), fun a M => At Try.prog Ex none Try.f15 [1, 1, 1, 1, 1, 1, 1, 1, 1, 1, 1, 1, 1, 1, 1, 1, 1] a M Q⟩]
    [1000] [12] (by kernel_rfl) (by kernel_rfl) (by kernel_rfl) (by kernel_rfl) (by kernel_rfl)
    ⟨fun a M hn h => by obtain ⟨⟨n, f⟩, ds⟩ := a; have hn : n = 145 := hn; subst hn; obtain ⟨hd, h⟩ := dfr_iff h; have hd : ds = [] := hd; subst hd; exact h f rfl rfl rfl rfl rfl rfl,
    fun a M hn h => by obtain ⟨⟨n, f⟩, ds⟩ := a; have hn : n = 145 := hn; subst hn; obtain ⟨hd, h⟩ := dfr_iff h; have hd : ds = [] := hd; subst hd; exact h f rfl,
    trivial⟩
    (cast (by kernel_rfl) h)
def S_fettlelaw16_NeedOwn_12 (x0 x5 x14 x106 x107 x108 : Value) (M : Store) (Q : Value → Store → Prop) : Prop :=
  OP (ixA 1 x106 x108) fun t111 =>
  OP (ld 1 false t111 M) fun t112 =>
  OP (cvBS t112 M) fun t114 =>
  OP (fad 3 x14) fun t115 =>
  OP (ld 1 false t115 M) fun t116 =>
  OP (ixA 1 t116 x108) fun t118 =>
  OP (ld 1 false t118 M) fun t119 =>
  OP (bldL (.slice none 0 0) 1 1 [(0, x0)]) fun c =>
  LT (.slice (some ⟨M.n, 0, none⟩) 1 1) (M.push (some (.inl (c, Ty.sl_uint8, true)))) fun t121 M1 =>
  R F.fettleref10_Print #[t119, t121] M1 fun t122 M2 =>
  TDj [2, 3, 4, 5, 6, 7, 8] [M.n, M.n, M.n, M.n, M.n, M.n, M.n, M.n, M.n, M1.n] M1 M2 ∧
  OP (cvBS t122 M2) fun t123 =>
  OP (binS .neq t114 t123) fun t124 =>
  BR t124 (
  NTs [(.bool false)] ∧ Q (.bool false) M2
  ) (
  OP (binI .add x108 (.int .i64 1)) fun t125 =>
  P_fettlelaw16_NeedOwn_11 x0 x5 x14 x106 x107 t125 M2 Q
  )
theorem T_fettlelaw16_NeedOwn_12 {x0 x5 x14 x106 x107 x108 : Value} {M : Store} {Q : Value → Store → Prop} (h : S_fettlelaw16_NeedOwn_12 x0 x5 x14 x106 x107 x108 M Q) : P_fettlelaw16_NeedOwn_12 x0 x5 x14 x106 x107 x108 M Q := by
  intro f h0 h5 h14 h106 h107 h108; subst h0; subst h5; subst h14; subst h106; subst h107; subst h108
  unfold At
  exact rule (B := 1000) (N := 145) (ct := .no)
    [⟨0, fun a M => dfr a.defers (P_fettlelaw16_NeedOwn_11 (a.get 0) (a.get 5) (a.get 14) (a.get 106) (a.get 107) (a.get 108) M Q), fun a M => At Try.prog Ex none Try.f15 [1, 1, 1, 1, 1, 1, 1, 1, 1, 1, 1, 1, 1, 1, 1, 1, 0, 1, 0] a M Q⟩,
    ⟨1, fun a M => kfin Try.prog Try.f15.results.toList Q 1 a M, fun a M => kfin Try.prog Try.f15.results.toList Q 1 a M⟩]
    [] [0, 1] (by kernel_rfl) (by kernel_rfl) (by kernel_rfl) (by kernel_rfl) (by kernel_rfl)
    ⟨fun a M hn h => by obtain ⟨⟨n, f⟩, ds⟩ := a; have hn : n = 145 := hn; subst hn; obtain ⟨hd, h⟩ := dfr_iff h; have hd : ds = [] := hd; subst hd; exact h f rfl rfl rfl rfl rfl rfl,
    fun _ _ _ h => h,
    trivial⟩
    (cast (by kernel_rfl) h)
def S_fettlelaw16_NeedOwn_13 (x5 : Value) (M : Store) (Q : Value → Store → Prop) : Prop :=
  R F.need_Ask_Old #[x5] M fun t127 M1 =>
  OP (lenV t127) fun t128 =>
  OP (binI .eql t128 (.int .i64 2)) fun t129 =>
  BR t129 (
  R F.need_Ask_Old #[x5] M1 fun t132 M2 =>
  OP (ixA 1 t132 (.int .i64 0)) fun t133 =>
  OP (ld 1 false t133 M2) fun t134 =>
  BR t134 (
  R F.need_Ask_Old #[x5] M2 fun t138 M3 =>
  OP (ixA 1 t138 (.int .i64 1)) fun t139 =>
  OP (ld 1 false t139 M3) fun t140 =>
  BR t140 (
  R F.fettlelaw16_awake #[] M3 fun t143 M4 =>
  NTs [t143] ∧ Q t143 M4
  ) (
  NTs [(.bool false)] ∧ Q (.bool false) M3
  )
  ) (
  NTs [(.bool false)] ∧ Q (.bool false) M2
  )
  ) (
  NTs [(.bool false)] ∧ Q (.bool false) M1
  )
theorem T_fettlelaw16_NeedOwn_13 {x5 : Value} {M : Store} {Q : Value → Store → Prop} (h : S_fettlelaw16_NeedOwn_13 x5 M Q) : P_fettlelaw16_NeedOwn_13 x5 M Q := by
  intro f h5; subst h5
  unfold At
  exact rule (B := 1000) (N := 145) (ct := .no)
    [⟨1, fun a M => kfin Try.prog Try.f15.results.toList Q 1 a M, fun a M => kfin Try.prog Try.f15.results.toList Q 1 a M⟩]
    [] [1] (by kernel_rfl) (by kernel_rfl) (by kernel_rfl) (by kernel_rfl) (by kernel_rfl)
    ⟨fun _ _ _ h => h,
    trivial⟩
    (cast (by kernel_rfl) h)
end Go.G
