/-  -/
import Derived.Test.YtnonfejhkbaikaaDoorPGN
open Go.RowKit
namespace Go.G
open Go.Ab Go.Proofs
set_option linter.unusedVariables false
set_option maxRecDepth 100000
def P_acts_Ok_1 (x0 x5 x6 x7 : Value) (M : Store) (Q : Value → Store → Prop) : Prop :=
  ∀ f : Nat → Value, f 0 = x0 → f 5 = x5 → f 6 = x6 → f 7 = x7 → At Tryd.prog Ex none Tryd.f17 [1, 0, 1, 0] ⟨⟨32, f⟩, []⟩ M Q
def P_acts_Ok_2 (x0 x5 x6 x7 : Value) (M : Store) (Q : Value → Store → Prop) : Prop :=
  ∀ f : Nat → Value, f 0 = x0 → f 5 = x5 → f 6 = x6 → f 7 = x7 → At Tryd.prog Ex none Tryd.f17 [1, 0, 1, 0, 0, 1, 1] ⟨⟨32, f⟩, []⟩ M Q
def P_acts_Ok_3 (x0 : Value) (M : Store) (Q : Value → Store → Prop) : Prop :=
  ∀ f : Nat → Value, f 0 = x0 → At Tryd.prog Ex none Tryd.f17 [1, 1] ⟨⟨32, f⟩, []⟩ M Q
def S_acts_Ok (x0 : Value) (M : Store) (Q : Value → Store → Prop) : Prop :=
  OP (lenV x0) fun t6 =>
  P_acts_Ok_1 x0 x0 t6 (.int .i64 0) M Q
theorem T_acts_Ok {x0 : Value} {M : Store} {Q : Value → Store → Prop} (h : S_acts_Ok x0 M Q) : R F.acts_Ok #[x0] M Q := by
  refine runs_of (c := bodyOf Tryd.f17) Tryd.func17 rfl (by kernel_rfl) (by kernel_rfl) ?_
  unfold At
  exact rule (B := 1000) (N := 32) (ct := (.two .no (.two (.two .no (.two (.here 1000) .no)) (.here 1001))))
    [⟨1002, fun a M => dfr a.defers (P_acts_Ok_1 (a.get 0) (a.get 5) (a.get 6) (a.get 7) M Q), fun a M => At Tryd.prog Ex none Tryd.f17 [1, 0, 1, 0] a M Q⟩,
    ⟨1003, fun _ _ => False, fun a M => At Tryd.prog Ex none Tryd.f17 [1, 1] a M Q⟩]
    [1000, 1001] [] (by kernel_rfl) (by kernel_rfl) (by kernel_rfl) (by kernel_rfl) (by kernel_rfl)
    ⟨fun a M hn h => by obtain ⟨⟨n, f⟩, ds⟩ := a; have hn : n = 32 := hn; subst hn; obtain ⟨hd, h⟩ := dfr_iff h; have hd : ds = [] := hd; subst hd; exact h f rfl rfl rfl rfl,
    fun _ _ _ h => h.elim,
    trivial⟩
    (cast (by kernel_rfl) h)
def S_acts_Ok_1 (x0 x5 x6 x7 : Value) (M : Store) (Q : Value → Store → Prop) : Prop :=
  OP (binI .lss x7 x6) fun t8 =>
  BR t8 (
  P_acts_Ok_2 x0 x5 x6 x7 M Q
  ) (
  P_acts_Ok_3 x0 M Q
  )
theorem T_acts_Ok_1 {x0 x5 x6 x7 : Value} {M : Store} {Q : Value → Store → Prop} (h : S_acts_Ok_1 x0 x5 x6 x7 M Q) : P_acts_Ok_1 x0 x5 x6 x7 M Q := by
  intro f h0 h5 h6 h7; subst h0; subst h5; subst h6; subst h7
  unfold At
  refine cast (by kernel_rfl) (CW.loop (P := Tryd.prog) (E := Ex) (rd := none) (x := sub (bodyOf Tryd.f17) [1, 0, 1, 0, 0]) (a := ⟨⟨32, f⟩, []⟩) (M := M) (K := kcont Tryd.prog Ex none (bodyOf Tryd.f17) [1, 0, 1, 0] (kfin Tryd.prog Tryd.f17.results.toList Q)) ?_)
  exact rule (B := 1000) (N := 32) (ct := (.two .no (.two .no (.here 1000))))
    [⟨1002, fun a M => dfr a.defers (P_acts_Ok_2 (a.get 0) (a.get 5) (a.get 6) (a.get 7) M Q), fun a M => At Tryd.prog Ex none Tryd.f17 [1, 0, 1, 0, 0, 1, 1] a M Q⟩,
    ⟨2, fun a M => dfr a.defers (P_acts_Ok_3 (a.get 0) M Q), fun a M => At Tryd.prog Ex none Tryd.f17 [1, 1] a M Q⟩]
    [1000] [2] (by kernel_rfl) (by kernel_rfl) (by kernel_rfl) (by kernel_rfl) (by kernel_rfl)
    ⟨fun a M hn h => by obtain ⟨⟨n, f⟩, ds⟩ := a; have hn : n = 32 := hn; subst hn; obtain ⟨hd, h⟩ := dfr_iff h; have hd : ds = [] := hd; subst hd; exact h f rfl rfl rfl rfl,
    fun a M hn h => by obtain ⟨⟨n, f⟩, ds⟩ := a; have hn : n = 32 := hn; subst hn; obtain ⟨hd, h⟩ := dfr_iff h; have hd : ds = [] := hd; subst hd; exact h f rfl,
    trivial⟩
    (cast (by kernel_rfl) h)
def S_acts_Ok_2 (x0 x5 x6 x7 : Value) (M : Store) (Q : Value → Store → Prop) : Prop :=
  OP (ixA 3 x5 x7) fun t10 =>
  OP (ld 3 true t10 M) fun t11 =>
  LT (.pointer (some ⟨M.n, 0, none⟩)) (M.push (some (.inl ([(.int .i64 0), (.int .i64 0), (.string ⟨#[]⟩)], Ty.api_Do, true)))) fun t4 M1 =>
  OP (st 3 t4 t11 M1) fun M2 =>
  OP (ld 3 true t4 M2) fun t12 =>
  R F.acts_right #[t12] M2 fun t13 M3 =>
  OP (aun .not t13) fun t14 =>
  BR t14 (
  NTs [(.bool false)] ∧ Q (.bool false) M3
  ) (
  OP (fad 0 t4) fun t16 =>
  OP (ld 1 false t16 M3) fun t17 =>
  R F.acts_begins #[t17] M3 fun t18 M4 =>
  OP (binI .eql x7 (.int .i64 0)) fun t20 =>
  OP (abin Tryd.prog false .neq Ty.bool t18 t20) fun t21 =>
  BR t21 (
  NTs [(.bool false)] ∧ Q (.bool false) M4
  ) (
  OP (binI .add x7 (.int .i64 1)) fun t23 =>
  P_acts_Ok_1 x0 x5 x6 t23 M4 Q
  )
  )
theorem T_acts_Ok_2 {x0 x5 x6 x7 : Value} {M : Store} {Q : Value → Store → Prop} (h : S_acts_Ok_2 x0 x5 x6 x7 M Q) : P_acts_Ok_2 x0 x5 x6 x7 M Q := by
  intro f h0 h5 h6 h7; subst h0; subst h5; subst h6; subst h7
  unfold At
  exact rule (B := 1000) (N := 32) (ct := .no)
    [⟨0, fun a M => dfr a.defers (P_acts_Ok_1 (a.get 0) (a.get 5) (a.get 6) (a.get 7) M Q), fun a M => At Tryd.prog Ex none Tryd.f17 [1, 0, 1, 0] a M Q⟩,
    ⟨1, fun a M => kfin Tryd.prog Tryd.f17.results.toList Q 1 a M, fun a M => kfin Tryd.prog Tryd.f17.results.toList Q 1 a M⟩]
    [] [0, 1] (by kernel_rfl) (by kernel_rfl) (by kernel_rfl) (by kernel_rfl) (by kernel_rfl)
    ⟨fun a M hn h => by obtain ⟨⟨n, f⟩, ds⟩ := a; have hn : n = 32 := hn; subst hn; obtain ⟨hd, h⟩ := dfr_iff h; have hd : ds = [] := hd; subst hd; exact h f rfl rfl rfl rfl,
    fun _ _ _ h => h,
    trivial⟩
    (cast (by kernel_rfl) h)
def S_acts_Ok_3 (x0 : Value) (M : Store) (Q : Value → Store → Prop) : Prop :=
  OP (lenV x0) fun t25 =>
  OP (binI .geq t25 (.int .i64 1)) fun t26 =>
  BR t26 (
  OP (lenV x0) fun t29 =>
  OP (binI .leq t29 (.int .i64 8)) fun t30 =>
  NTs [t30] ∧ Q t30 M
  ) (
  NTs [(.bool false)] ∧ Q (.bool false) M
  )
theorem T_acts_Ok_3 {x0 : Value} {M : Store} {Q : Value → Store → Prop} (h : S_acts_Ok_3 x0 M Q) : P_acts_Ok_3 x0 M Q := by
  intro f h0; subst h0
  unfold At
  exact rule (B := 1000) (N := 32) (ct := .no)
    [⟨1, fun a M => kfin Tryd.prog Tryd.f17.results.toList Q 1 a M, fun a M => kfin Tryd.prog Tryd.f17.results.toList Q 1 a M⟩]
    [] [1] (by kernel_rfl) (by kernel_rfl) (by kernel_rfl) (by kernel_rfl) (by kernel_rfl)
    ⟨fun _ _ _ h => h,
    trivial⟩
    (cast (by kernel_rfl) h)
def P_fettleref4_OkAct_1 (x0 x3 : Value) (M : Store) (Q : Value → Store → Prop) : Prop :=
  ∀ f : Nat → Value, f 0 = x0 → f 3 = x3 → At Tryd.prog Ex none Tryd.f33 [1, 0, 1, 0] ⟨⟨98, f⟩, []⟩ M Q
def P_fettleref4_OkAct_2 (x0 x3 : Value) (M : Store) (Q : Value → Store → Prop) : Prop :=
  ∀ f : Nat → Value, f 0 = x0 → f 3 = x3 → At Tryd.prog Ex none Tryd.f33 [1, 0, 1, 0, 0, 1] ⟨⟨98, f⟩, []⟩ M Q
def P_fettleref4_OkAct_3 (x0 : Value) (M : Store) (Q : Value → Store → Prop) : Prop :=
  ∀ f : Nat → Value, f 0 = x0 → At Tryd.prog Ex none Tryd.f33 [1, 1] ⟨⟨98, f⟩, []⟩ M Q
def P_fettleref4_OkAct_4 (x0 x3 x4 x5 x6 x7 : Value) (M : Store) (Q : Value → Store → Prop) : Prop :=
  ∀ f : Nat → Value, f 0 = x0 → f 3 = x3 → f 4 = x4 → f 5 = x5 → f 6 = x6 → f 7 = x7 → At Tryd.prog Ex none Tryd.f33 [1, 0, 1, 0, 0, 1, 0, 0, 1, 1, 1, 1, 1] ⟨⟨98, f⟩, []⟩ M Q
def P_fettleref4_OkAct_5 (x0 x3 x4 x5 x6 x7 : Value) (M : Store) (Q : Value → Store → Prop) : Prop :=
  ∀ f : Nat → Value, f 0 = x0 → f 3 = x3 → f 4 = x4 → f 5 = x5 → f 6 = x6 → f 7 = x7 → At Tryd.prog Ex none Tryd.f33 [1, 0, 1, 0, 0, 1, 0, 0, 1, 1, 1, 1, 1, 1] ⟨⟨98, f⟩, []⟩ M Q
def P_fettleref4_OkAct_6 (x0 x3 : Value) (M : Store) (Q : Value → Store → Prop) : Prop :=
  ∀ f : Nat → Value, f 0 = x0 → f 3 = x3 → At Tryd.prog Ex none Tryd.f33 [1, 0, 1, 0, 0, 1, 1] ⟨⟨98, f⟩, []⟩ M Q
def S_fettleref4_OkAct (x0 : Value) (M : Store) (Q : Value → Store → Prop) : Prop :=
  P_fettleref4_OkAct_1 x0 (.int .i64 0) M Q
theorem T_fettleref4_OkAct {x0 : Value} {M : Store} {Q : Value → Store → Prop} (h : S_fettleref4_OkAct x0 M Q) : R F.fettleref4_OkAct #[x0] M Q := by
  refine runs_of (c := bodyOf Tryd.f33) Tryd.func33 rfl (by kernel_rfl) (by kernel_rfl) ?_
  unfold At
  exact rule (B := 1000) (N := 98) (ct := (.two .no (.two (.two .no (.two (.here 1000) .no)) (.here 1001))))
    [⟨1002, fun a M => dfr a.defers (P_fettleref4_OkAct_1 (a.get 0) (a.get 3) M Q), fun a M => At Tryd.prog Ex none Tryd.f33 [1, 0, 1, 0] a M Q⟩,
    ⟨1003, fun _ _ => False, fun a M => At Tryd.prog Ex none Tryd.f33 [1, 1] a M Q⟩]
    [1000, 1001] [] (by kernel_rfl) (by kernel_rfl) (by kernel_rfl) (by kernel_rfl) (by kernel_rfl)
    ⟨fun a M hn h => by obtain ⟨⟨n, f⟩, ds⟩ := a; have hn : n = 98 := hn; subst hn; obtain ⟨hd, h⟩ := dfr_iff h; have hd : ds = [] := hd; subst hd; exact h f rfl rfl,
    fun _ _ _ h => h.elim,
    trivial⟩
    (cast (by kernel_rfl) h)
def S_fettleref4_OkAct_1 (x0 x3 : Value) (M : Store) (Q : Value → Store → Prop) : Prop :=
  OP (lenV x0) fun t10 =>
  OP (binI .lss x3 t10) fun t11 =>
  BR t11 (
  P_fettleref4_OkAct_2 x0 x3 M Q
  ) (
  P_fettleref4_OkAct_3 x0 M Q
  )
theorem T_fettleref4_OkAct_1 {x0 x3 : Value} {M : Store} {Q : Value → Store → Prop} (h : S_fettleref4_OkAct_1 x0 x3 M Q) : P_fettleref4_OkAct_1 x0 x3 M Q := by
  intro f h0 h3; subst h0; subst h3
  unfold At
  refine cast (by kernel_rfl) (CW.loop (P := Tryd.prog) (E := Ex) (rd := none) (x := sub (bodyOf Tryd.f33) [1, 0, 1, 0, 0]) (a := ⟨⟨98, f⟩, []⟩) (M := M) (K := kcont Tryd.prog Ex none (bodyOf Tryd.f33) [1, 0, 1, 0] (kfin Tryd.prog Tryd.f33.results.toList Q)) ?_)
  exact rule (B := 1000) (N := 98) (ct := (.two .no (.here 1000)))
    [⟨1002, fun a M => dfr a.defers (P_fettleref4_OkAct_2 (a.get 0) (a.get 3) M Q), fun a M => At Tryd.prog Ex none Tryd.f33 [1, 0, 1, 0, 0, 1] a M Q⟩,
    ⟨2, fun a M => dfr a.defers (P_fettleref4_OkAct_3 (a.get 0) M Q), fun a M => At Tryd.prog Ex none Tryd.f33 [1, 1] a M Q⟩]
    [1000] [2] (by kernel_rfl) (by kernel_rfl) (by kernel_rfl) (by kernel_rfl) (by kernel_rfl)
    ⟨fun a M hn h => by obtain ⟨⟨n, f⟩, ds⟩ := a; have hn : n = 98 := hn; subst hn; obtain ⟨hd, h⟩ := dfr_iff h; have hd : ds = [] := hd; subst hd; exact h f rfl rfl,
    fun a M hn h => by obtain ⟨⟨n, f⟩, ds⟩ := a; have hn : n = 98 := hn; subst hn; obtain ⟨hd, h⟩ := dfr_iff h; have hd : ds = [] := hd; subst hd; exact h f rfl,
    trivial⟩
    (cast (by kernel_rfl) h)
def S_fettleref4_OkAct_2 (x0 x3 : Value) (M : Store) (Q : Value → Store → Prop) : Prop :=
  OP (ixA 3 x0 x3) fun t16 =>
  OP (ld 3 true t16 M) fun t17 =>
  LT (.pointer (some ⟨M.n, 0, none⟩)) (M.push (some (.inl ([(.int .i64 0), (.int .i64 0), (.string ⟨#[]⟩)], Ty.api_Do, true)))) fun t4 M1 =>
  OP (st 3 t4 t17 M1) fun M2 =>
  OP (fad 0 t4) fun t18 =>
  OP (ld 1 false t18 M2) fun t19 =>
  OP (binI .eql t19 (.int .i64 1)) fun t20 =>
  BR t20 (
  OP (fad 0 t4) fun t31 =>
  OP (ld 1 false t31 M2) fun t32 =>
  OP (binI .eql t32 (.int .i64 1)) fun t33 =>
  BR t33 (
  OP (fad 0 t4) fun t39 =>
  OP (ld 1 false t39 M2) fun t40 =>
  OP (binI .eql t40 (.int .i64 2)) fun t41 =>
  BR t41 (
  P_fettleref4_OkAct_4 x0 x3 t4 (.bool true) (.bool true) (.int .i64 15) M2 Q
  ) (
  P_fettleref4_OkAct_4 x0 x3 t4 (.bool true) (.bool true) (.int .i64 0) M2 Q
  )
  ) (
  OP (fad 0 t4) fun t35 =>
  OP (ld 1 false t35 M2) fun t36 =>
  OP (binI .eql t36 (.int .i64 10)) fun t37 =>
  OP (fad 0 t4) fun t39_1 =>
  OP (ld 1 false t39_1 M2) fun t40_1 =>
  OP (binI .eql t40_1 (.int .i64 2)) fun t41_1 =>
  BR t41_1 (
  P_fettleref4_OkAct_4 x0 x3 t4 (.bool true) t37 (.int .i64 15) M2 Q
  ) (
  P_fettleref4_OkAct_4 x0 x3 t4 (.bool true) t37 (.int .i64 0) M2 Q
  )
  )
  ) (
  OP (fad 0 t4) fun t22 =>
  OP (ld 1 false t22 M2) fun t23 =>
  OP (binI .eql t23 (.int .i64 2)) fun t24 =>
  BR t24 (
  OP (fad 0 t4) fun t31_1 =>
  OP (ld 1 false t31_1 M2) fun t32_1 =>
  OP (binI .eql t32_1 (.int .i64 1)) fun t33_1 =>
  BR t33_1 (
  OP (fad 0 t4) fun t39_2 =>
  OP (ld 1 false t39_2 M2) fun t40_2 =>
  OP (binI .eql t40_2 (.int .i64 2)) fun t41_2 =>
  BR t41_2 (
  P_fettleref4_OkAct_4 x0 x3 t4 (.bool true) (.bool true) (.int .i64 15) M2 Q
  ) (
  P_fettleref4_OkAct_4 x0 x3 t4 (.bool true) (.bool true) (.int .i64 0) M2 Q
  )
  ) (
  OP (fad 0 t4) fun t35_1 =>
  OP (ld 1 false t35_1 M2) fun t36_1 =>
  OP (binI .eql t36_1 (.int .i64 10)) fun t37_1 =>
  OP (fad 0 t4) fun t39_3 =>
  OP (ld 1 false t39_3 M2) fun t40_3 =>
  OP (binI .eql t40_3 (.int .i64 2)) fun t41_3 =>
  BR t41_3 (
  P_fettleref4_OkAct_4 x0 x3 t4 (.bool true) t37_1 (.int .i64 15) M2 Q
  ) (
  P_fettleref4_OkAct_4 x0 x3 t4 (.bool true) t37_1 (.int .i64 0) M2 Q
  )
  )
  ) (
  OP (fad 0 t4) fun t27 =>
  OP (ld 1 false t27 M2) fun t28 =>
  OP (binI .eql t28 (.int .i64 3)) fun t29 =>
  OP (fad 0 t4) fun t31_2 =>
  OP (ld 1 false t31_2 M2) fun t32_2 =>
  OP (binI .eql t32_2 (.int .i64 1)) fun t33_2 =>
  BR t33_2 (
  OP (fad 0 t4) fun t39_4 =>
  OP (ld 1 false t39_4 M2) fun t40_4 =>
  OP (binI .eql t40_4 (.int .i64 2)) fun t41_4 =>
  BR t41_4 (
  P_fettleref4_OkAct_4 x0 x3 t4 t29 (.bool true) (.int .i64 15) M2 Q
  ) (
  P_fettleref4_OkAct_4 x0 x3 t4 t29 (.bool true) (.int .i64 0) M2 Q
  )
  ) (
  OP (fad 0 t4) fun t35_2 =>
  OP (ld 1 false t35_2 M2) fun t36_2 =>
  OP (binI .eql t36_2 (.int .i64 10)) fun t37_2 =>
  OP (fad 0 t4) fun t39_5 =>
  OP (ld 1 false t39_5 M2) fun t40_5 =>
  OP (binI .eql t40_5 (.int .i64 2)) fun t41_5 =>
  BR t41_5 (
  P_fettleref4_OkAct_4 x0 x3 t4 t29 t37_2 (.int .i64 15) M2 Q
  ) (
  P_fettleref4_OkAct_4 x0 x3 t4 t29 t37_2 (.int .i64 0) M2 Q
  )
  )
  )
  )
theorem T_fettleref4_OkAct_2 {x0 x3 : Value} {M : Store} {Q : Value → Store → Prop} (h : S_fettleref4_OkAct_2 x0 x3 M Q) : P_fettleref4_OkAct_2 x0 x3 M Q := by
  intro f h0 h3; subst h0; subst h3
  unfold At
  exact rule (B := 1000) (N := 98) (ct := (.two (.two (.two .no (.two .no (.two .no (.two .no (.two .no (.here 1000)))))) .no) (.here 1001)))
    [⟨1002, fun a M => dfr a.defers (P_fettleref4_OkAct_4 (a.get 0) (a.get 3) (a.get 4) (a.get 5) (a.get 6) (a.get 7) M Q), fun a M => At Tryd.prog Ex none Tryd.f33 [1, 0, 1, 0, 0, 1, 0, 0, 1, 1, 1, 1, 1] a M Q⟩,
    ⟨1003, fun _ _ => False, fun a M => At Tryd.prog Ex none Tryd.f33 [1, 0, 1, 0, 0, 1, 1] a M Q⟩]
    [1000, 1001] [] (by kernel_rfl) (by kernel_rfl) (by kernel_rfl) (by kernel_rfl) (by kernel_rfl)
    ⟨fun a M hn h => by obtain ⟨⟨n, f⟩, ds⟩ := a; have hn : n = 98 := hn; subst hn; obtain ⟨hd, h⟩ := dfr_iff h; have hd : ds = [] := hd; subst hd; exact h f rfl rfl rfl rfl rfl rfl,
    fun _ _ _ h => h.elim,
    trivial⟩
    (cast (by kernel_rfl) h)
def S_fettleref4_OkAct_3 (x0 : Value) (M : Store) (Q : Value → Store → Prop) : Prop :=
  OP (lenV x0) fun t91 =>
  OP (binI .geq t91 (.int .i64 1)) fun t92 =>
  BR t92 (
  OP (lenV x0) fun t95 =>
  OP (binI .leq t95 (.int .i64 8)) fun t96 =>
  NTs [t96] ∧ Q t96 M
  ) (
  NTs [(.bool false)] ∧ Q (.bool false) M
  )
theorem T_fettleref4_OkAct_3 {x0 : Value} {M : Store} {Q : Value → Store → Prop} (h : S_fettleref4_OkAct_3 x0 M Q) : P_fettleref4_OkAct_3 x0 M Q := by
  intro f h0; subst h0
  unfold At
  exact rule (B := 1000) (N := 98) (ct := .no)
    [⟨1, fun a M => kfin Tryd.prog Tryd.f33.results.toList Q 1 a M, fun a M => kfin Tryd.prog Tryd.f33.results.toList Q 1 a M⟩]
    [] [1] (by kernel_rfl) (by kernel_rfl) (by kernel_rfl) (by kernel_rfl) (by kernel_rfl)
    ⟨fun _ _ _ h => h,
    trivial⟩
    (cast (by kernel_rfl) h)
def S_fettleref4_OkAct_4 (x0 x3 x4 x5 x6 x7 : Value) (M : Store) (Q : Value → Store → Prop) : Prop :=
  OP (fad 0 x4) fun t42 =>
  OP (ld 1 false t42 M) fun t43 =>
  OP (binI .eql t43 (.int .i64 7)) fun t44 =>
  BR t44 (
  P_fettleref4_OkAct_5 x0 x3 x4 x5 x6 (.int .i64 999) M Q
  ) (
  OP (fad 0 x4) fun t46 =>
  OP (ld 1 false t46 M) fun t47 =>
  OP (binI .eql t47 (.int .i64 8)) fun t48 =>
  BR t48 (
  P_fettleref4_OkAct_5 x0 x3 x4 x5 x6 (.int .i64 999) M Q
  ) (
  P_fettleref4_OkAct_5 x0 x3 x4 x5 x6 x7 M Q
  )
  )
theorem T_fettleref4_OkAct_4 {x0 x3 x4 x5 x6 x7 : Value} {M : Store} {Q : Value → Store → Prop} (h : S_fettleref4_OkAct_4 x0 x3 x4 x5 x6 x7 M Q) : P_fettleref4_OkAct_4 x0 x3 x4 x5 x6 x7 M Q := by
  intro f h0 h3 h4 h5 h6 h7; subst h0; subst h3; subst h4; subst h5; subst h6; subst h7
  unfold At
  exact rule (B := 1000) (N := 98) (ct := (.two .no (.here 1000)))
    [⟨1002, fun a M => dfr a.defers (P_fettleref4_OkAct_5 (a.get 0) (a.get 3) (a.get 4) (a.get 5) (a.get 6) (a.get 7) M Q), fun a M => At Tryd.prog Ex none Tryd.f33 [1, 0, 1, 0, 0, 1, 0, 0, 1, 1, 1, 1, 1, 1] a M Q⟩]
    [1000] [] (by kernel_rfl) (by kernel_rfl) (by kernel_rfl) (by kernel_rfl) (by kernel_rfl)
    ⟨fun a M hn h => by obtain ⟨⟨n, f⟩, ds⟩ := a; have hn : n = 98 := hn; subst hn; obtain ⟨hd, h⟩ := dfr_iff h; have hd : ds = [] := hd; subst hd; exact h f rfl rfl rfl rfl rfl rfl,
    trivial⟩
    (cast (by kernel_rfl) h)
def S_fettleref4_OkAct_5 (x0 x3 x4 x5 x6 x7 : Value) (M : Store) (Q : Value → Store → Prop) : Prop :=
  OP (fad 0 x4) fun t50 =>
  OP (ld 1 false t50 M) fun t51 =>
  OP (binI .lss t51 (.int .i64 1)) fun t52 =>
  BR t52 (
  NTs [(.bool false)] ∧ Q (.bool false) M
  ) (
  OP (fad 0 x4) fun t54 =>
  OP (ld 1 false t54 M) fun t55 =>
  OP (binI .gtr t55 (.int .i64 11)) fun t56 =>
  BR t56 (
  NTs [(.bool false)] ∧ Q (.bool false) M
  ) (
  OP (binI .eql x3 (.int .i64 0)) fun t61 =>
  OP (abin Tryd.prog false .neq Ty.bool x5 t61) fun t62 =>
  BR t62 (
  NTs [(.bool false)] ∧ Q (.bool false) M
  ) (
  OP (fad 1 x4) fun t65 =>
  OP (ld 1 false t65 M) fun t66 =>
  OP (binI .lss t66 (.int .i64 0)) fun t67 =>
  BR t67 (
  NTs [(.bool false)] ∧ Q (.bool false) M
  ) (
  OP (fad 1 x4) fun t70 =>
  OP (ld 1 false t70 M) fun t71 =>
  OP (binI .gtr t71 x7) fun t73 =>
  BR t73 (
  NTs [(.bool false)] ∧ Q (.bool false) M
  ) (
  OP (fad 2 x4) fun t76 =>
  OP (ld 1 false t76 M) fun t77 =>
  R F.fettleref4_plain #[t77] M fun t78 M1 =>
  OP (aun .not t78) fun t79 =>
  BR t79 (
  NTs [(.bool false)] ∧ Q (.bool false) M1
  ) (
  OP (aun .not x6) fun t83 =>
  BR3 t83 (
  OP (fad 2 x4) fun t85 =>
  OP (ld 1 false t85 M1) fun t86 =>
  OP (binS .neq t86 (.string ⟨#[]⟩)) fun t87 =>
  BR t87 (
  NTs [(.bool false)] ∧ Q (.bool false) M1
  ) (
  P_fettleref4_OkAct_6 x0 x3 M1 Q
  )
  ) (
  P_fettleref4_OkAct_6 x0 x3 M1 Q
  ) (
  BR t83 (
  BR undef (
  NTs [(.bool false)] ∧ Q (.bool false) M1
  ) (
  P_fettleref4_OkAct_6 x0 x3 M1 Q
  )
  ) (
  P_fettleref4_OkAct_6 x0 x3 M1 Q
  )
  )
  )
  )
  )
  )
  )
  )
theorem T_fettleref4_OkAct_5 {x0 x3 x4 x5 x6 x7 : Value} {M : Store} {Q : Value → Store → Prop} (h : S_fettleref4_OkAct_5 x0 x3 x4 x5 x6 x7 M Q) : P_fettleref4_OkAct_5 x0 x3 x4 x5 x6 x7 M Q := by
  intro f h0 h3 h4 h5 h6 h7; subst h0; subst h3; subst h4; subst h5; subst h6; subst h7
  unfold At
  exact rule (B := 1000) (N := 98) (ct := .no)
    [⟨0, fun a M => dfr a.defers (P_fettleref4_OkAct_6 (a.get 0) (a.get 3) M Q), fun a M => At Tryd.prog Ex none Tryd.f33 [1, 0, 1, 0, 0, 1, 1] a M Q⟩,
    ⟨1, fun a M => kfin Tryd.prog Tryd.f33.results.toList Q 1 a M, fun a M => kfin Tryd.prog Tryd.f33.results.toList Q 1 a M⟩]
    [] [0, 1] (by kernel_rfl) (by kernel_rfl) (by kernel_rfl) (by kernel_rfl) (by kernel_rfl)
    ⟨fun a M hn h => by obtain ⟨⟨n, f⟩, ds⟩ := a; have hn : n = 98 := hn; subst hn; obtain ⟨hd, h⟩ := dfr_iff h; have hd : ds = [] := hd; subst hd; exact h f rfl rfl,
    fun _ _ _ h => h,
    trivial⟩
    (cast (by kernel_rfl) h)
def S_fettleref4_OkAct_6 (x0 x3 : Value) (M : Store) (Q : Value → Store → Prop) : Prop :=
  OP (binI .add x3 (.int .i64 1)) fun t13 =>
  P_fettleref4_OkAct_1 x0 t13 M Q
theorem T_fettleref4_OkAct_6 {x0 x3 : Value} {M : Store} {Q : Value → Store → Prop} (h : S_fettleref4_OkAct_6 x0 x3 M Q) : P_fettleref4_OkAct_6 x0 x3 M Q := by
  intro f h0 h3; subst h0; subst h3
  unfold At
  exact rule (B := 1000) (N := 98) (ct := .no)
    [⟨0, fun a M => dfr a.defers (P_fettleref4_OkAct_1 (a.get 0) (a.get 3) M Q), fun a M => At Tryd.prog Ex none Tryd.f33 [1, 0, 1, 0] a M Q⟩]
    [] [0] (by kernel_rfl) (by kernel_rfl) (by kernel_rfl) (by kernel_rfl) (by kernel_rfl)
    ⟨fun a M hn h => by obtain ⟨⟨n, f⟩, ds⟩ := a; have hn : n = 98 := hn; subst hn; obtain ⟨hd, h⟩ := dfr_iff h; have hd : ds = [] := hd; subst hd; exact h f rfl rfl,
    trivial⟩
    (cast (by kernel_rfl) h)
def S_acts_right (x0 : Value) (M : Store) (Q : Value → Store → Prop) : Prop :=
  OP (boxv x0) fun c =>
  LT (.pointer (some ⟨M.n, 0, none⟩)) (M.push (some (.inl (c, Ty.api_Do, true)))) fun t1 M1 =>
  OP (fad 0 t1) fun t4 =>
  OP (ld 1 false t4 M1) fun t5 =>
  OP (binI .lss t5 (.int .i64 1)) fun t6 =>
  BR t6 (
  NTs [(.bool false)] ∧ Q (.bool false) M1
  ) (
  OP (fad 0 t1) fun t8 =>
  OP (ld 1 false t8 M1) fun t9 =>
  OP (binI .gtr t9 (.int .i64 11)) fun t10 =>
  BR t10 (
  NTs [(.bool false)] ∧ Q (.bool false) M1
  ) (
  OP (fad 0 t1) fun t13 =>
  OP (ld 1 false t13 M1) fun t14 =>
  R F.acts_text #[t14] M1 fun t15 M2 =>
  BR t15 (
  OP (fad 1 t1) fun t16 =>
  OP (ld 1 false t16 M2) fun t17 =>
  OP (binI .eql t17 (.int .i64 0)) fun t18 =>
  BR t18 (
  OP (fad 2 t1) fun t20 =>
  OP (ld 1 false t20 M2) fun t21 =>
  R F.acts_fits #[t21] M2 fun t22 M3 =>
  NTs [t22] ∧ Q t22 M3
  ) (
  NTs [(.bool false)] ∧ Q (.bool false) M2
  )
  ) (
  OP (fad 2 t1) fun t24 =>
  OP (ld 1 false t24 M2) fun t25 =>
  OP (binS .eql t25 (.string ⟨#[]⟩)) fun t26 =>
  BR t26 (
  OP (fad 1 t1) fun t28 =>
  OP (ld 1 false t28 M2) fun t29 =>
  OP (binI .geq t29 (.int .i64 0)) fun t30 =>
  BR t30 (
  OP (fad 1 t1) fun t33 =>
  OP (ld 1 false t33 M2) fun t34 =>
  OP (fad 0 t1) fun t35 =>
  OP (ld 1 false t35 M2) fun t36 =>
  R F.acts_top #[t36] M2 fun t37 M4 =>
  TDj [11, 12] [M2.n, M2.n, M2.n, M2.n, M2.n, M2.n, M2.n, M2.n, M2.n, M2.n, M2.n, M2.n, M2.n, M2.n] M2 M4 ∧
  OP (amax2 t37 (.int .i64 0)) fun t38 =>
  OP (binI .leq t34 t38) fun t39 =>
  NTs [t39] ∧ Q t39 M4
  ) (
  NTs [(.bool false)] ∧ Q (.bool false) M2
  )
  ) (
  NTs [(.bool false)] ∧ Q (.bool false) M2
  )
  )
  )
  )
theorem T_acts_right {x0 : Value} {M : Store} {Q : Value → Store → Prop} (h : S_acts_right x0 M Q) : R F.acts_right #[x0] M Q := by
  refine runs_of (c := bodyOf Tryd.f34) Tryd.func34 rfl (by kernel_rfl) (by kernel_rfl) ?_
  unfold At
  exact rule (B := 1000) (N := 41) (ct := .no)
    [⟨1, fun a M => kfin Tryd.prog Tryd.f34.results.toList Q 1 a M, fun a M => kfin Tryd.prog Tryd.f34.results.toList Q 1 a M⟩]
    [] [1] (by kernel_rfl) (by kernel_rfl) (by kernel_rfl) (by kernel_rfl) (by kernel_rfl)
    ⟨fun _ _ _ h => h,
    trivial⟩
    (cast (by kernel_rfl) h)
def S_acts_begins (x0 : Value) (M : Store) (Q : Value → Store → Prop) : Prop :=
  OP (binI .eql x0 (.int .i64 1)) fun t4 =>
  BR t4 (
  NTs [(.bool true)] ∧ Q (.bool true) M
  ) (
  OP (binI .eql x0 (.int .i64 2)) fun t7 =>
  BR t7 (
  NTs [(.bool true)] ∧ Q (.bool true) M
  ) (
  OP (binI .eql x0 (.int .i64 3)) fun t11 =>
  NTs [t11] ∧ Q t11 M
  )
  )
theorem T_acts_begins {x0 : Value} {M : Store} {Q : Value → Store → Prop} (h : S_acts_begins x0 M Q) : R F.acts_begins #[x0] M Q := by
  refine runs_of (c := bodyOf Tryd.f35) Tryd.func35 rfl (by kernel_rfl) (by kernel_rfl) ?_
  unfold At
  exact rule (B := 1000) (N := 13) (ct := .no)
    [⟨1, fun a M => kfin Tryd.prog Tryd.f35.results.toList Q 1 a M, fun a M => kfin Tryd.prog Tryd.f35.results.toList Q 1 a M⟩]
    [] [1] (by kernel_rfl) (by kernel_rfl) (by kernel_rfl) (by kernel_rfl) (by kernel_rfl)
    ⟨fun _ _ _ h => h,
    trivial⟩
    (cast (by kernel_rfl) h)
def P_acts_Bytes_1 (x3 x9 x10 x11 : Value) (M : Store) (Q : Value → Store → Prop) : Prop :=
  ∀ f : Nat → Value, f 3 = x3 → f 9 = x9 → f 10 = x10 → f 11 = x11 → At Tryd.prog Ex none Tryd.f37 [1, 1, 0, 1, 0] ⟨⟨28, f⟩, []⟩ M Q
def P_acts_Bytes_2 (x3 x9 x10 x11 : Value) (M : Store) (Q : Value → Store → Prop) : Prop :=
  ∀ f : Nat → Value, f 3 = x3 → f 9 = x9 → f 10 = x10 → f 11 = x11 → At Tryd.prog Ex none Tryd.f37 [1, 1, 0, 1, 0, 0, 1, 1] ⟨⟨28, f⟩, []⟩ M Q
def P_acts_Bytes_3 (x3 : Value) (M : Store) (Q : Value → Store → Prop) : Prop :=
  ∀ f : Nat → Value, f 3 = x3 → At Tryd.prog Ex none Tryd.f37 [1, 1, 1] ⟨⟨28, f⟩, []⟩ M Q
def S_acts_Bytes (x0 : Value) (M : Store) (Q : Value → Store → Prop) : Prop :=
  OP (lenV x0) fun t7 =>
  R F.code_Num #[(.slice none 0 0), t7] M fun t8 M1 =>
  OP (lenV x0) fun t10 =>
  P_acts_Bytes_1 t8 x0 t10 (.int .i64 0) M1 Q
theorem T_acts_Bytes {x0 : Value} {M : Store} {Q : Value → Store → Prop} (h : S_acts_Bytes x0 M Q) : R F.acts_Bytes #[x0] M Q := by
  refine runs_of (c := bodyOf Tryd.f37) Tryd.func37 rfl (by kernel_rfl) (by kernel_rfl) ?_
  unfold At
  exact rule (B := 1000) (N := 28) (ct := (.two .no (.two .no (.two (.two .no (.two (.here 1000) .no)) (.here 1001)))))
    [⟨1002, fun a M => dfr a.defers (P_acts_Bytes_1 (a.get 3) (a.get 9) (a.get 10) (a.get 11) M Q), fun a M => At Tryd.prog Ex none Tryd.f37 [1, 1, 0, 1, 0] a M Q⟩,
    ⟨1003, fun _ _ => False, fun a M => At Tryd.prog Ex none Tryd.f37 [1, 1, 1] a M Q⟩]
    [1000, 1001] [] (by kernel_rfl) (by kernel_rfl) (by kernel_rfl) (by kernel_rfl) (by kernel_rfl)
    ⟨fun a M hn h => by obtain ⟨⟨n, f⟩, ds⟩ := a; have hn : n = 28 := hn; subst hn; obtain ⟨hd, h⟩ := dfr_iff h; have hd : ds = [] := hd; subst hd; exact h f rfl rfl rfl rfl,
    fun _ _ _ h => h.elim,
    trivial⟩
    (cast (by kernel_rfl) h)
def S_acts_Bytes_1 (x3 x9 x10 x11 : Value) (M : Store) (Q : Value → Store → Prop) : Prop :=
  OP (binI .lss x11 x10) fun t12 =>
  BR t12 (
  P_acts_Bytes_2 x3 x9 x10 x11 M Q
  ) (
  P_acts_Bytes_3 x3 M Q
  )
theorem T_acts_Bytes_1 {x3 x9 x10 x11 : Value} {M : Store} {Q : Value → Store → Prop} (h : S_acts_Bytes_1 x3 x9 x10 x11 M Q) : P_acts_Bytes_1 x3 x9 x10 x11 M Q := by
  intro f h3 h9 h10 h11; subst h3; subst h9; subst h10; subst h11
  unfold At
  refine cast (by kernel_rfl) (CW.loop (P := Tryd.prog) (E := Ex) (rd := none) (x := sub (bodyOf Tryd.f37) [1, 1, 0, 1, 0, 0]) (a := ⟨⟨28, f⟩, []⟩) (M := M) (K := kcont Tryd.prog Ex none (bodyOf Tryd.f37) [1, 1, 0, 1, 0] (kfin Tryd.prog Tryd.f37.results.toList Q)) ?_)
  exact rule (B := 1000) (N := 28) (ct := (.two .no (.two .no (.here 1000))))
    [⟨1002, fun a M => dfr a.defers (P_acts_Bytes_2 (a.get 3) (a.get 9) (a.get 10) (a.get 11) M Q), fun a M => At Tryd.prog Ex none Tryd.f37 [1, 1, 0, 1, 0, 0, 1, 1] a M Q⟩,
    ⟨2, fun a M => dfr a.defers (P_acts_Bytes_3 (a.get 3) M Q), fun a M => At Tryd.prog Ex none Tryd.f37 [1, 1, 1] a M Q⟩]
    [1000] [2] (by kernel_rfl) (by kernel_rfl) (by kernel_rfl) (by kernel_rfl) (by kernel_rfl)
    ⟨fun a M hn h => by obtain ⟨⟨n, f⟩, ds⟩ := a; have hn : n = 28 := hn; subst hn; obtain ⟨hd, h⟩ := dfr_iff h; have hd : ds = [] := hd; subst hd; exact h f rfl rfl rfl rfl,
    fun a M hn h => by obtain ⟨⟨n, f⟩, ds⟩ := a; have hn : n = 28 := hn; subst hn; obtain ⟨hd, h⟩ := dfr_iff h; have hd : ds = [] := hd; subst hd; exact h f rfl,
    trivial⟩
    (cast (by kernel_rfl) h)
def S_acts_Bytes_2 (x3 x9 x10 x11 : Value) (M : Store) (Q : Value → Store → Prop) : Prop :=
  OP (ixA 3 x9 x11) fun t13 =>
  OP (ld 3 true t13 M) fun t14 =>
  LT (.pointer (some ⟨M.n, 0, none⟩)) (M.push (some (.inl ([(.int .i64 0), (.int .i64 0), (.string ⟨#[]⟩)], Ty.api_Do, true)))) fun t5 M1 =>
  OP (st 3 t5 t14 M1) fun M2 =>
  OP (fad 0 t5) fun t16 =>
  OP (ld 1 false t16 M2) fun t17 =>
  R F.code_Num #[x3, t17] M2 fun t18 M3 =>
  TDj [0, 1, 2] [M2.n, M2.n, M2.n, M2.n] M2 M3 ∧
  OP (fad 1 t5) fun t19 =>
  OP (ld 1 false t19 M3) fun t20 =>
  R F.code_Num #[t18, t20] M3 fun t21 M4 =>
  TDj [0, 1, 2, 3, 4, 5] [M2.n, M2.n, M2.n, M2.n, M3.n, M3.n, M3.n] M3 M4 ∧
  OP (fad 2 t5) fun t22 =>
  OP (ld 1 false t22 M4) fun t23 =>
  OP2 (cvSB Ty.uint8 t23 M4) fun t24 M5 =>
  R F.code_Bytes #[t21, t24] M5 fun t25 M6 =>
  TDx [0, 0, 2, 7, 0, 16, 63, 0, 128, 384, 1023, 2047] [M2.n, M2.n, M2.n, M2.n, M3.n, M3.n, M3.n, M4.n, M4.n, M4.n, M5.n] 10 M5 M6 ∧
  OP (binI .add x11 (.int .i64 1)) fun t26 =>
  P_acts_Bytes_1 t25 x9 x10 t26 M6 Q
theorem T_acts_Bytes_2 {x3 x9 x10 x11 : Value} {M : Store} {Q : Value → Store → Prop} (h : S_acts_Bytes_2 x3 x9 x10 x11 M Q) : P_acts_Bytes_2 x3 x9 x10 x11 M Q := by
  intro f h3 h9 h10 h11; subst h3; subst h9; subst h10; subst h11
  unfold At
  exact rule (B := 1000) (N := 28) (ct := .no)
    [⟨0, fun a M => dfr a.defers (P_acts_Bytes_1 (a.get 3) (a.get 9) (a.get 10) (a.get 11) M Q), fun a M => At Tryd.prog Ex none Tryd.f37 [1, 1, 0, 1, 0] a M Q⟩]
    [] [0] (by kernel_rfl) (by kernel_rfl) (by kernel_rfl) (by kernel_rfl) (by kernel_rfl)
    ⟨fun a M hn h => by obtain ⟨⟨n, f⟩, ds⟩ := a; have hn : n = 28 := hn; subst hn; obtain ⟨hd, h⟩ := dfr_iff h; have hd : ds = [] := hd; subst hd; exact h f rfl rfl rfl rfl,
    trivial⟩
    (cast (by kernel_rfl) h)
def S_acts_Bytes_3 (x3 : Value) (M : Store) (Q : Value → Store → Prop) : Prop :=
  NTs [x3] ∧ Q x3 M
theorem T_acts_Bytes_3 {x3 : Value} {M : Store} {Q : Value → Store → Prop} (h : S_acts_Bytes_3 x3 M Q) : P_acts_Bytes_3 x3 M Q := by
  intro f h3; subst h3
  unfold At
  exact rule (B := 1000) (N := 28) (ct := .no)
    [⟨1, fun a M => kfin Tryd.prog Tryd.f37.results.toList Q 1 a M, fun a M => kfin Tryd.prog Tryd.f37.results.toList Q 1 a M⟩]
    [] [1] (by kernel_rfl) (by kernel_rfl) (by kernel_rfl) (by kernel_rfl) (by kernel_rfl)
    ⟨fun _ _ _ h => h,
    trivial⟩
    (cast (by kernel_rfl) h)
def S_acts_text (x0 : Value) (M : Store) (Q : Value → Store → Prop) : Prop :=
  OP (binI .eql x0 (.int .i64 1)) fun t4 =>
  BR t4 (
  NTs [(.bool true)] ∧ Q (.bool true) M
  ) (
  OP (binI .eql x0 (.int .i64 10)) fun t7 =>
  NTs [t7] ∧ Q t7 M
  )
theorem T_acts_text {x0 : Value} {M : Store} {Q : Value → Store → Prop} (h : S_acts_text x0 M Q) : R F.acts_text #[x0] M Q := by
  refine runs_of (c := bodyOf Tryd.f46) Tryd.func46 rfl (by kernel_rfl) (by kernel_rfl) ?_
  unfold At
  exact rule (B := 1000) (N := 9) (ct := .no)
    [⟨1, fun a M => kfin Tryd.prog Tryd.f46.results.toList Q 1 a M, fun a M => kfin Tryd.prog Tryd.f46.results.toList Q 1 a M⟩]
    [] [1] (by kernel_rfl) (by kernel_rfl) (by kernel_rfl) (by kernel_rfl) (by kernel_rfl)
    ⟨fun _ _ _ h => h,
    trivial⟩
    (cast (by kernel_rfl) h)
def S_acts_top (x0 : Value) (M : Store) (Q : Value → Store → Prop) : Prop :=
  OP (binI .eql x0 (.int .i64 2)) fun t5 =>
  BR t5 (
  NTs [(.int .i64 15)] ∧ Q (.int .i64 15) M
  ) (
  OP (binI .eql x0 (.int .i64 7)) fun t7 =>
  BR t7 (
  BR t7 (
  NTs [(.int .i64 999)] ∧ Q (.int .i64 999) M
  ) (
  NTs [(.int .i64 (-1))] ∧ Q (.int .i64 (-1)) M
  )
  ) (
  OP (binI .eql x0 (.int .i64 8)) fun t8 =>
  BR t8 (
  NTs [(.int .i64 999)] ∧ Q (.int .i64 999) M
  ) (
  NTs [(.int .i64 (-1))] ∧ Q (.int .i64 (-1)) M
  )
  )
  )
theorem T_acts_top {x0 : Value} {M : Store} {Q : Value → Store → Prop} (h : S_acts_top x0 M Q) : R F.acts_top #[x0] M Q := by
  refine runs_of (c := bodyOf Tryd.f47) Tryd.func47 rfl (by kernel_rfl) (by kernel_rfl) ?_
  unfold At
  exact rule (B := 1000) (N := 9) (ct := .no)
    [⟨1, fun a M => kfin Tryd.prog Tryd.f47.results.toList Q 1 a M, fun a M => kfin Tryd.prog Tryd.f47.results.toList Q 1 a M⟩]
    [] [1] (by kernel_rfl) (by kernel_rfl) (by kernel_rfl) (by kernel_rfl) (by kernel_rfl)
    ⟨fun _ _ _ h => h,
    trivial⟩
    (cast (by kernel_rfl) h)
def P_fettleref4_plain_1 (x0 x3 : Value) (M : Store) (Q : Value → Store → Prop) : Prop :=
  ∀ f : Nat → Value, f 0 = x0 → f 3 = x3 → At Tryd.prog Ex none Tryd.f51 [1, 0, 1, 0] ⟨⟨29, f⟩, []⟩ M Q
def P_fettleref4_plain_2 (x0 x3 : Value) (M : Store) (Q : Value → Store → Prop) : Prop :=
  ∀ f : Nat → Value, f 0 = x0 → f 3 = x3 → At Tryd.prog Ex none Tryd.f51 [1, 0, 1, 0, 0, 1] ⟨⟨29, f⟩, []⟩ M Q
def P_fettleref4_plain_3 (x0 : Value) (M : Store) (Q : Value → Store → Prop) : Prop :=
  ∀ f : Nat → Value, f 0 = x0 → At Tryd.prog Ex none Tryd.f51 [1, 1] ⟨⟨29, f⟩, []⟩ M Q
def S_fettleref4_plain (x0 : Value) (M : Store) (Q : Value → Store → Prop) : Prop :=
  P_fettleref4_plain_1 x0 (.int .i64 0) M Q
theorem T_fettleref4_plain {x0 : Value} {M : Store} {Q : Value → Store → Prop} (h : S_fettleref4_plain x0 M Q) : R F.fettleref4_plain #[x0] M Q := by
  refine runs_of (c := bodyOf Tryd.f51) Tryd.func51 rfl (by kernel_rfl) (by kernel_rfl) ?_
  unfold At
  exact rule (B := 1000) (N := 29) (ct := (.two .no (.two (.two .no (.two (.here 1000) .no)) (.here 1001))))
    [⟨1002, fun a M => dfr a.defers (P_fettleref4_plain_1 (a.get 0) (a.get 3) M Q), fun a M => At Tryd.prog Ex none Tryd.f51 [1, 0, 1, 0] a M Q⟩,
    ⟨1003, fun _ _ => False, fun a M => At Tryd.prog Ex none Tryd.f51 [1, 1] a M Q⟩]
    [1000, 1001] [] (by kernel_rfl) (by kernel_rfl) (by kernel_rfl) (by kernel_rfl) (by kernel_rfl)
    ⟨fun a M hn h => by obtain ⟨⟨n, f⟩, ds⟩ := a; have hn : n = 29 := hn; subst hn; obtain ⟨hd, h⟩ := dfr_iff h; have hd : ds = [] := hd; subst hd; exact h f rfl rfl,
    fun _ _ _ h => h.elim,
    trivial⟩
    (cast (by kernel_rfl) h)
def S_fettleref4_plain_1 (x0 x3 : Value) (M : Store) (Q : Value → Store → Prop) : Prop :=
  OP (lenS x0) fun t6 =>
  OP (binI .lss x3 t6) fun t7 =>
  BR t7 (
  P_fettleref4_plain_2 x0 x3 M Q
  ) (
  P_fettleref4_plain_3 x0 M Q
  )
theorem T_fettleref4_plain_1 {x0 x3 : Value} {M : Store} {Q : Value → Store → Prop} (h : S_fettleref4_plain_1 x0 x3 M Q) : P_fettleref4_plain_1 x0 x3 M Q := by
  intro f h0 h3; subst h0; subst h3
  unfold At
  refine cast (by kernel_rfl) (CW.loop (P := Tryd.prog) (E := Ex) (rd := none) (x := sub (bodyOf Tryd.f51) [1, 0, 1, 0, 0]) (a := ⟨⟨29, f⟩, []⟩) (M := M) (K := kcont Tryd.prog Ex none (bodyOf Tryd.f51) [1, 0, 1, 0] (kfin Tryd.prog Tryd.f51.results.toList Q)) ?_)
  exact rule (B := 1000) (N := 29) (ct := (.two .no (.here 1000)))
    [⟨1002, fun a M => dfr a.defers (P_fettleref4_plain_2 (a.get 0) (a.get 3) M Q), fun a M => At Tryd.prog Ex none Tryd.f51 [1, 0, 1, 0, 0, 1] a M Q⟩,
    ⟨2, fun a M => dfr a.defers (P_fettleref4_plain_3 (a.get 0) M Q), fun a M => At Tryd.prog Ex none Tryd.f51 [1, 1] a M Q⟩]
    [1000] [2] (by kernel_rfl) (by kernel_rfl) (by kernel_rfl) (by kernel_rfl) (by kernel_rfl)
    ⟨fun a M hn h => by obtain ⟨⟨n, f⟩, ds⟩ := a; have hn : n = 29 := hn; subst hn; obtain ⟨hd, h⟩ := dfr_iff h; have hd : ds = [] := hd; subst hd; exact h f rfl rfl,
    fun a M hn h => by obtain ⟨⟨n, f⟩, ds⟩ := a; have hn : n = 29 := hn; subst hn; obtain ⟨hd, h⟩ := dfr_iff h; have hd : ds = [] := hd; subst hd; exact h f rfl,
    trivial⟩
    (cast (by kernel_rfl) h)
def S_fettleref4_plain_2 (x0 x3 : Value) (M : Store) (Q : Value → Store → Prop) : Prop :=
  OP (ixS x0 x3) fun t12 =>
  OP (binI .lss t12 (.int .u8 32)) fun t13 =>
  BR t13 (
  NTs [(.bool false)] ∧ Q (.bool false) M
  ) (
  OP (ixS x0 x3) fun t17 =>
  OP (binI .gtr t17 (.int .u8 126)) fun t18 =>
  BR t18 (
  NTs [(.bool false)] ∧ Q (.bool false) M
  ) (
  OP (ixS x0 x3) fun t23 =>
  OP (binI .eql t23 (.int .u8 34)) fun t24 =>
  BR t24 (
  NTs [(.bool false)] ∧ Q (.bool false) M
  ) (
  OP (binI .add x3 (.int .i64 1)) fun t9 =>
  P_fettleref4_plain_1 x0 t9 M Q
  )
  )
  )
theorem T_fettleref4_plain_2 {x0 x3 : Value} {M : Store} {Q : Value → Store → Prop} (h : S_fettleref4_plain_2 x0 x3 M Q) : P_fettleref4_plain_2 x0 x3 M Q := by
  intro f h0 h3; subst h0; subst h3
  unfold At
  exact rule (B := 1000) (N := 29) (ct := .no)
    [⟨0, fun a M => dfr a.defers (P_fettleref4_plain_1 (a.get 0) (a.get 3) M Q), fun a M => At Tryd.prog Ex none Tryd.f51 [1, 0, 1, 0] a M Q⟩,
    ⟨1, fun a M => kfin Tryd.prog Tryd.f51.results.toList Q 1 a M, fun a M => kfin Tryd.prog Tryd.f51.results.toList Q 1 a M⟩]
    [] [0, 1] (by kernel_rfl) (by kernel_rfl) (by kernel_rfl) (by kernel_rfl) (by kernel_rfl)
    ⟨fun a M hn h => by obtain ⟨⟨n, f⟩, ds⟩ := a; have hn : n = 29 := hn; subst hn; obtain ⟨hd, h⟩ := dfr_iff h; have hd : ds = [] := hd; subst hd; exact h f rfl rfl,
    fun _ _ _ h => h,
    trivial⟩
    (cast (by kernel_rfl) h)
def S_fettleref4_plain_3 (x0 : Value) (M : Store) (Q : Value → Store → Prop) : Prop :=
  OP (lenS x0) fun t27 =>
  OP (binI .leq t27 (.int .i64 64)) fun t28 =>
  NTs [t28] ∧ Q t28 M
theorem T_fettleref4_plain_3 {x0 : Value} {M : Store} {Q : Value → Store → Prop} (h : S_fettleref4_plain_3 x0 M Q) : P_fettleref4_plain_3 x0 M Q := by
  intro f h0; subst h0
  unfold At
  exact rule (B := 1000) (N := 29) (ct := .no)
    [⟨1, fun a M => kfin Tryd.prog Tryd.f51.results.toList Q 1 a M, fun a M => kfin Tryd.prog Tryd.f51.results.toList Q 1 a M⟩]
    [] [1] (by kernel_rfl) (by kernel_rfl) (by kernel_rfl) (by kernel_rfl) (by kernel_rfl)
    ⟨fun _ _ _ h => h,
    trivial⟩
    (cast (by kernel_rfl) h)
def P_acts_fits_1 (x0 x5 x6 : Value) (M : Store) (Q : Value → Store → Prop) : Prop :=
  ∀ f : Nat → Value, f 0 = x0 → f 5 = x5 → f 6 = x6 → At Tryd.prog Ex none Tryd.f52 [1, 0, 1, 0] ⟨⟨29, f⟩, []⟩ M Q
def P_acts_fits_2 (x0 x5 x6 : Value) (M : Store) (Q : Value → Store → Prop) : Prop :=
  ∀ f : Nat → Value, f 0 = x0 → f 5 = x5 → f 6 = x6 → At Tryd.prog Ex none Tryd.f52 [1, 0, 1, 0, 0, 1, 1] ⟨⟨29, f⟩, []⟩ M Q
def P_acts_fits_3 (x0 : Value) (M : Store) (Q : Value → Store → Prop) : Prop :=
  ∀ f : Nat → Value, f 0 = x0 → At Tryd.prog Ex none Tryd.f52 [1, 1] ⟨⟨29, f⟩, []⟩ M Q
def S_acts_fits (x0 : Value) (M : Store) (Q : Value → Store → Prop) : Prop :=
  OP (lenS x0) fun t5 =>
  P_acts_fits_1 x0 t5 (.int .i64 0) M Q
theorem T_acts_fits {x0 : Value} {M : Store} {Q : Value → Store → Prop} (h : S_acts_fits x0 M Q) : R F.acts_fits #[x0] M Q := by
  refine runs_of (c := bodyOf Tryd.f52) Tryd.func52 rfl (by kernel_rfl) (by kernel_rfl) ?_
  unfold At
  exact rule (B := 1000) (N := 29) (ct := (.two .no (.two (.two .no (.two (.here 1000) .no)) (.here 1001))))
    [⟨1002, fun a M => dfr a.defers (P_acts_fits_1 (a.get 0) (a.get 5) (a.get 6) M Q), fun a M => At Tryd.prog Ex none Tryd.f52 [1, 0, 1, 0] a M Q⟩,
    ⟨1003, fun _ _ => False, fun a M => At Tryd.prog Ex none Tryd.f52 [1, 1] a M Q⟩]
    [1000, 1001] [] (by kernel_rfl) (by kernel_rfl) (by kernel_rfl) (by kernel_rfl) (by kernel_rfl)
    ⟨fun a M hn h => by obtain ⟨⟨n, f⟩, ds⟩ := a; have hn : n = 29 := hn; subst hn; obtain ⟨hd, h⟩ := dfr_iff h; have hd : ds = [] := hd; subst hd; exact h f rfl rfl rfl,
    fun _ _ _ h => h.elim,
    trivial⟩
    (cast (by kernel_rfl) h)
def S_acts_fits_1 (x0 x5 x6 : Value) (M : Store) (Q : Value → Store → Prop) : Prop :=
  OP (binI .lss x6 x5) fun t7 =>
  BR t7 (
  P_acts_fits_2 x0 x5 x6 M Q
  ) (
  P_acts_fits_3 x0 M Q
  )
theorem T_acts_fits_1 {x0 x5 x6 : Value} {M : Store} {Q : Value → Store → Prop} (h : S_acts_fits_1 x0 x5 x6 M Q) : P_acts_fits_1 x0 x5 x6 M Q := by
  intro f h0 h5 h6; subst h0; subst h5; subst h6
  unfold At
  refine cast (by kernel_rfl) (CW.loop (P := Tryd.prog) (E := Ex) (rd := none) (x := sub (bodyOf Tryd.f52) [1, 0, 1, 0, 0]) (a := ⟨⟨29, f⟩, []⟩) (M := M) (K := kcont Tryd.prog Ex none (bodyOf Tryd.f52) [1, 0, 1, 0] (kfin Tryd.prog Tryd.f52.results.toList Q)) ?_)
  exact rule (B := 1000) (N := 29) (ct := (.two .no (.two .no (.here 1000))))
    [⟨1002, fun a M => dfr a.defers (P_acts_fits_2 (a.get 0) (a.get 5) (a.get 6) M Q), fun a M => At Tryd.prog Ex none Tryd.f52 [1, 0, 1, 0, 0, 1, 1] a M Q⟩,
    ⟨2, fun a M => dfr a.defers (P_acts_fits_3 (a.get 0) M Q), fun a M => At Tryd.prog Ex none Tryd.f52 [1, 1] a M Q⟩]
    [1000] [2] (by kernel_rfl) (by kernel_rfl) (by kernel_rfl) (by kernel_rfl) (by kernel_rfl)
    ⟨fun a M hn h => by obtain ⟨⟨n, f⟩, ds⟩ := a; have hn : n = 29 := hn; subst hn; obtain ⟨hd, h⟩ := dfr_iff h; have hd : ds = [] := hd; subst hd; exact h f rfl rfl rfl,
    fun a M hn h => by obtain ⟨⟨n, f⟩, ds⟩ := a; have hn : n = 29 := hn; subst hn; obtain ⟨hd, h⟩ := dfr_iff h; have hd : ds = [] := hd; subst hd; exact h f rfl,
    trivial⟩
    (cast (by kernel_rfl) h)
def S_acts_fits_2 (x0 x5 x6 : Value) (M : Store) (Q : Value → Store → Prop) : Prop :=
  OP (ixS x0 x6) fun t11 =>
  OP (binI .lss t11 (.int .u8 32)) fun t12 =>
  BR t12 (
  NTs [(.bool false)] ∧ Q (.bool false) M
  ) (
  OP (ixS x0 x6) fun t16 =>
  OP (binI .gtr t16 (.int .u8 126)) fun t17 =>
  BR t17 (
  NTs [(.bool false)] ∧ Q (.bool false) M
  ) (
  OP (ixS x0 x6) fun t22 =>
  OP (binI .eql t22 (.int .u8 34)) fun t23 =>
  BR t23 (
  NTs [(.bool false)] ∧ Q (.bool false) M
  ) (
  OP (binI .add x6 (.int .i64 1)) fun t25 =>
  P_acts_fits_1 x0 x5 t25 M Q
  )
  )
  )
theorem T_acts_fits_2 {x0 x5 x6 : Value} {M : Store} {Q : Value → Store → Prop} (h : S_acts_fits_2 x0 x5 x6 M Q) : P_acts_fits_2 x0 x5 x6 M Q := by
  intro f h0 h5 h6; subst h0; subst h5; subst h6
  unfold At
  exact rule (B := 1000) (N := 29) (ct := .no)
    [⟨0, fun a M => dfr a.defers (P_acts_fits_1 (a.get 0) (a.get 5) (a.get 6) M Q), fun a M => At Tryd.prog Ex none Tryd.f52 [1, 0, 1, 0] a M Q⟩,
    ⟨1, fun a M => kfin Tryd.prog Tryd.f52.results.toList Q 1 a M, fun a M => kfin Tryd.prog Tryd.f52.results.toList Q 1 a M⟩]
    [] [0, 1] (by kernel_rfl) (by kernel_rfl) (by kernel_rfl) (by kernel_rfl) (by kernel_rfl)
    ⟨fun a M hn h => by obtain ⟨⟨n, f⟩, ds⟩ := a; have hn : n = 29 := hn; subst hn; obtain ⟨hd, h⟩ := dfr_iff h; have hd : ds = [] := hd; subst hd; exact h f rfl rfl rfl,
    fun _ _ _ h => h,
    trivial⟩
    (cast (by kernel_rfl) h)
def S_acts_fits_3 (x0 : Value) (M : Store) (Q : Value → Store → Prop) : Prop :=
  OP (lenS x0) fun t27 =>
  OP (binI .leq t27 (.int .i64 64)) fun t28 =>
  NTs [t28] ∧ Q t28 M
theorem T_acts_fits_3 {x0 : Value} {M : Store} {Q : Value → Store → Prop} (h : S_acts_fits_3 x0 M Q) : P_acts_fits_3 x0 M Q := by
  intro f h0; subst h0
  unfold At
  exact rule (B := 1000) (N := 29) (ct := .no)
    [⟨1, fun a M => kfin Tryd.prog Tryd.f52.results.toList Q 1 a M, fun a M => kfin Tryd.prog Tryd.f52.results.toList Q 1 a M⟩]
    [] [1] (by kernel_rfl) (by kernel_rfl) (by kernel_rfl) (by kernel_rfl) (by kernel_rfl)
    ⟨fun _ _ _ h => h,
    trivial⟩
    (cast (by kernel_rfl) h)
end Go.G
