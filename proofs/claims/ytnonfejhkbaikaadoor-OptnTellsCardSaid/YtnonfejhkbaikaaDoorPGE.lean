/-  -/
import Derived.Test.YtnonfejhkbaikaaDoorPGN
open Go.RowKit
namespace Go.G
open Go.Ab Go.Proofs
set_option linter.unusedVariables false
set_option maxRecDepth 100000
def P_name_Ok_1 (x0 x5 x6 : Value) (M : Store) (Q : Value → Store → Prop) : Prop :=
  ∀ f : Nat → Value, f 0 = x0 → f 5 = x5 → f 6 = x6 → At Tryd.prog Ex none Tryd.f21 [1, 0, 1, 0] ⟨⟨23, f⟩, []⟩ M Q
def P_name_Ok_2 (x0 : Value) (M : Store) (Q : Value → Store → Prop) : Prop :=
  ∀ f : Nat → Value, f 0 = x0 → At Tryd.prog Ex none Tryd.f21 [1, 1] ⟨⟨23, f⟩, []⟩ M Q
def S_name_Ok (x0 : Value) (M : Store) (Q : Value → Store → Prop) : Prop :=
  OP (lenS x0) fun t5 =>
  P_name_Ok_1 x0 t5 (.int .i64 0) M Q
theorem T_name_Ok {x0 : Value} {M : Store} {Q : Value → Store → Prop} (h : S_name_Ok x0 M Q) : R F.name_Ok #[x0] M Q := by
  refine runs_of (c := bodyOf Tryd.f21) Tryd.func21 rfl (by kernel_rfl) (by kernel_rfl) ?_
  unfold At
  exact rule (B := 1000) (N := 23) (ct := (.two .no (.two (.two .no (.two (.here 1000) .no)) (.here 1001))))
    [⟨1002, fun a M => dfr a.defers (P_name_Ok_1 (a.get 0) (a.get 5) (a.get 6) M Q), fun a M => At Tryd.prog Ex none Tryd.f21 [1, 0, 1, 0] a M Q⟩,
    ⟨1003, fun _ _ => False, fun a M => At Tryd.prog Ex none Tryd.f21 [1, 1] a M Q⟩]
    [1000, 1001] [] (by kernel_rfl) (by kernel_rfl) (by kernel_rfl) (by kernel_rfl) (by kernel_rfl)
    ⟨fun a M hn h => by obtain ⟨⟨n, f⟩, ds⟩ := a; have hn : n = 23 := hn; subst hn; obtain ⟨hd, h⟩ := dfr_iff h; have hd : ds = [] := hd; subst hd; exact h f rfl rfl rfl,
    fun _ _ _ h => h.elim,
    trivial⟩
    (cast (by kernel_rfl) h)
def S_name_Ok_1 (x0 x5 x6 : Value) (M : Store) (Q : Value → Store → Prop) : Prop :=
  OP (binI .lss x6 x5) fun t7 =>
  BR t7 (
  OP (ixS x0 x6) fun t11 =>
  R F.name_letter #[t11] M fun t12 M1 =>
  OP (aun .not t12) fun t13 =>
  BR t13 (
  NTs [(.bool false)] ∧ Q (.bool false) M1
  ) (
  OP (binI .add x6 (.int .i64 1)) fun t14 =>
  P_name_Ok_1 x0 x5 t14 M1 Q
  )
  ) (
  P_name_Ok_2 x0 M Q
  )
theorem T_name_Ok_1 {x0 x5 x6 : Value} {M : Store} {Q : Value → Store → Prop} (h : S_name_Ok_1 x0 x5 x6 M Q) : P_name_Ok_1 x0 x5 x6 M Q := by
  intro f h0 h5 h6; subst h0; subst h5; subst h6
  unfold At
  refine cast (by kernel_rfl) (CW.loop (P := Tryd.prog) (E := Ex) (rd := none) (x := sub (bodyOf Tryd.f21) [1, 0, 1, 0, 0]) (a := ⟨⟨23, f⟩, []⟩) (M := M) (K := kcont Tryd.prog Ex none (bodyOf Tryd.f21) [1, 0, 1, 0] (kfin Tryd.prog Tryd.f21.results.toList Q)) ?_)
  exact rule (B := 1000) (N := 23) (ct := .no)
    [⟨0, fun a M => dfr a.defers (P_name_Ok_1 (a.get 0) (a.get 5) (a.get 6) M Q), fun a M => At Tryd.prog Ex none Tryd.f21 [1, 0, 1, 0] a M Q⟩,
    ⟨1, fun a M => kfin Tryd.prog Tryd.f21.results.toList Q 1 a M, fun a M => kfin Tryd.prog Tryd.f21.results.toList Q 1 a M⟩,
    ⟨2, fun a M => dfr a.defers (P_name_Ok_2 (a.get 0) M Q), fun a M => At Tryd.prog Ex none Tryd.f21 [1, 1] a M Q⟩]
    [] [0, 1, 2] (by kernel_rfl) (by kernel_rfl) (by kernel_rfl) (by kernel_rfl) (by kernel_rfl)
    ⟨fun a M hn h => by obtain ⟨⟨n, f⟩, ds⟩ := a; have hn : n = 23 := hn; subst hn; obtain ⟨hd, h⟩ := dfr_iff h; have hd : ds = [] := hd; subst hd; exact h f rfl rfl rfl,
    fun _ _ _ h => h,
    fun a M hn h => by obtain ⟨⟨n, f⟩, ds⟩ := a; have hn : n = 23 := hn; subst hn; obtain ⟨hd, h⟩ := dfr_iff h; have hd : ds = [] := hd; subst hd; exact h f rfl,
    trivial⟩
    (cast (by kernel_rfl) h)
def S_name_Ok_2 (x0 : Value) (M : Store) (Q : Value → Store → Prop) : Prop :=
  OP (lenS x0) fun t16 =>
  OP (binI .geq t16 (.int .i64 1)) fun t17 =>
  BR t17 (
  OP (lenS x0) fun t20 =>
  OP (binI .leq t20 (.int .i64 16)) fun t21 =>
  NTs [t21] ∧ Q t21 M
  ) (
  NTs [(.bool false)] ∧ Q (.bool false) M
  )
theorem T_name_Ok_2 {x0 : Value} {M : Store} {Q : Value → Store → Prop} (h : S_name_Ok_2 x0 M Q) : P_name_Ok_2 x0 M Q := by
  intro f h0; subst h0
  unfold At
  exact rule (B := 1000) (N := 23) (ct := .no)
    [⟨1, fun a M => kfin Tryd.prog Tryd.f21.results.toList Q 1 a M, fun a M => kfin Tryd.prog Tryd.f21.results.toList Q 1 a M⟩]
    [] [1] (by kernel_rfl) (by kernel_rfl) (by kernel_rfl) (by kernel_rfl) (by kernel_rfl)
    ⟨fun _ _ _ h => h,
    trivial⟩
    (cast (by kernel_rfl) h)
def P_fettleref4_Ok_1 (x0 x3 : Value) (M : Store) (Q : Value → Store → Prop) : Prop :=
  ∀ f : Nat → Value, f 0 = x0 → f 3 = x3 → At Tryd.prog Ex none Tryd.f26 [1, 0, 1, 0] ⟨⟨49, f⟩, []⟩ M Q
def P_fettleref4_Ok_2 (x0 x3 : Value) (M : Store) (Q : Value → Store → Prop) : Prop :=
  ∀ f : Nat → Value, f 0 = x0 → f 3 = x3 → At Tryd.prog Ex none Tryd.f26 [1, 0, 1, 0, 0, 1] ⟨⟨49, f⟩, []⟩ M Q
def P_fettleref4_Ok_3 (x0 : Value) (M : Store) (Q : Value → Store → Prop) : Prop :=
  ∀ f : Nat → Value, f 0 = x0 → At Tryd.prog Ex none Tryd.f26 [1, 1] ⟨⟨49, f⟩, []⟩ M Q
def S_fettleref4_Ok (x0 : Value) (M : Store) (Q : Value → Store → Prop) : Prop :=
  P_fettleref4_Ok_1 x0 (.int .i64 0) M Q
theorem T_fettleref4_Ok {x0 : Value} {M : Store} {Q : Value → Store → Prop} (h : S_fettleref4_Ok x0 M Q) : R F.fettleref4_Ok #[x0] M Q := by
  refine runs_of (c := bodyOf Tryd.f26) Tryd.func26 rfl (by kernel_rfl) (by kernel_rfl) ?_
  unfold At
  exact rule (B := 1000) (N := 49) (ct := (.two .no (.two (.two .no (.two (.here 1000) .no)) (.here 1001))))
    [⟨1002, fun a M => dfr a.defers (P_fettleref4_Ok_1 (a.get 0) (a.get 3) M Q), fun a M => At Tryd.prog Ex none Tryd.f26 [1, 0, 1, 0] a M Q⟩,
    ⟨1003, fun _ _ => False, fun a M => At Tryd.prog Ex none Tryd.f26 [1, 1] a M Q⟩]
    [1000, 1001] [] (by kernel_rfl) (by kernel_rfl) (by kernel_rfl) (by kernel_rfl) (by kernel_rfl)
    ⟨fun a M hn h => by obtain ⟨⟨n, f⟩, ds⟩ := a; have hn : n = 49 := hn; subst hn; obtain ⟨hd, h⟩ := dfr_iff h; have hd : ds = [] := hd; subst hd; exact h f rfl rfl,
    fun _ _ _ h => h.elim,
    trivial⟩
    (cast (by kernel_rfl) h)
def S_fettleref4_Ok_1 (x0 x3 : Value) (M : Store) (Q : Value → Store → Prop) : Prop :=
  OP (lenS x0) fun t7 =>
  OP (binI .lss x3 t7) fun t8 =>
  BR t8 (
  P_fettleref4_Ok_2 x0 x3 M Q
  ) (
  P_fettleref4_Ok_3 x0 M Q
  )
theorem T_fettleref4_Ok_1 {x0 x3 : Value} {M : Store} {Q : Value → Store → Prop} (h : S_fettleref4_Ok_1 x0 x3 M Q) : P_fettleref4_Ok_1 x0 x3 M Q := by
  intro f h0 h3; subst h0; subst h3
  unfold At
  refine cast (by kernel_rfl) (CW.loop (P := Tryd.prog) (E := Ex) (rd := none) (x := sub (bodyOf Tryd.f26) [1, 0, 1, 0, 0]) (a := ⟨⟨49, f⟩, []⟩) (M := M) (K := kcont Tryd.prog Ex none (bodyOf Tryd.f26) [1, 0, 1, 0] (kfin Tryd.prog Tryd.f26.results.toList Q)) ?_)
  exact rule (B := 1000) (N := 49) (ct := (.two .no (.here 1000)))
    [⟨1002, fun a M => dfr a.defers (P_fettleref4_Ok_2 (a.get 0) (a.get 3) M Q), fun a M => At Tryd.prog Ex none Tryd.f26 [1, 0, 1, 0, 0, 1] a M Q⟩,
    ⟨2, fun a M => dfr a.defers (P_fettleref4_Ok_3 (a.get 0) M Q), fun a M => At Tryd.prog Ex none Tryd.f26 [1, 1] a M Q⟩]
    [1000] [2] (by kernel_rfl) (by kernel_rfl) (by kernel_rfl) (by kernel_rfl) (by kernel_rfl)
    ⟨fun a M hn h => by obtain ⟨⟨n, f⟩, ds⟩ := a; have hn : n = 49 := hn; subst hn; obtain ⟨hd, h⟩ := dfr_iff h; have hd : ds = [] := hd; subst hd; exact h f rfl rfl,
    fun a M hn h => by obtain ⟨⟨n, f⟩, ds⟩ := a; have hn : n = 49 := hn; subst hn; obtain ⟨hd, h⟩ := dfr_iff h; have hd : ds = [] := hd; subst hd; exact h f rfl,
    trivial⟩
    (cast (by kernel_rfl) h)
def S_fettleref4_Ok_2 (x0 x3 : Value) (M : Store) (Q : Value → Store → Prop) : Prop :=
  OP (ixS x0 x3) fun t13 =>
  OP (binI .geq t13 (.int .u8 97)) fun t15 =>
  BR t15 (
  OP (binI .leq t13 (.int .u8 122)) fun t18 =>
  BR t18 (
  OP (aun .not (.bool true)) fun t40 =>
  BR t40 (
  NTs [(.bool false)] ∧ Q (.bool false) M
  ) (
  OP (binI .add x3 (.int .i64 1)) fun t10 =>
  P_fettleref4_Ok_1 x0 t10 M Q
  )
  ) (
  OP (binI .geq t13 (.int .u8 48)) fun t22 =>
  BR3 t22 (
  OP (binI .leq t13 (.int .u8 57)) fun t25 =>
  BR t25 (
  OP (aun .not (.bool true)) fun t40_1 =>
  BR t40_1 (
  NTs [(.bool false)] ∧ Q (.bool false) M
  ) (
  OP (binI .add x3 (.int .i64 1)) fun t10_1 =>
  P_fettleref4_Ok_1 x0 t10_1 M Q
  )
  ) (
  OP (binI .eql t13 (.int .u8 46)) fun t30 =>
  BR t30 (
  OP (aun .not (.bool true)) fun t40_2 =>
  BR t40_2 (
  NTs [(.bool false)] ∧ Q (.bool false) M
  ) (
  OP (binI .add x3 (.int .i64 1)) fun t10_2 =>
  P_fettleref4_Ok_1 x0 t10_2 M Q
  )
  ) (
  OP (binI .eql t13 (.int .u8 45)) fun t34 =>
  BR t34 (
  OP (aun .not (.bool true)) fun t40_3 =>
  BR t40_3 (
  NTs [(.bool false)] ∧ Q (.bool false) M
  ) (
  OP (binI .add x3 (.int .i64 1)) fun t10_3 =>
  P_fettleref4_Ok_1 x0 t10_3 M Q
  )
  ) (
  OP (binI .eql t13 (.int .u8 95)) fun t38 =>
  OP (aun .not t38) fun t40_4 =>
  BR t40_4 (
  NTs [(.bool false)] ∧ Q (.bool false) M
  ) (
  OP (binI .add x3 (.int .i64 1)) fun t10_4 =>
  P_fettleref4_Ok_1 x0 t10_4 M Q
  )
  )
  )
  )
  ) (
  OP (binI .eql t13 (.int .u8 46)) fun t30_1 =>
  BR t30_1 (
  OP (aun .not (.bool true)) fun t40_5 =>
  BR t40_5 (
  NTs [(.bool false)] ∧ Q (.bool false) M
  ) (
  OP (binI .add x3 (.int .i64 1)) fun t10_5 =>
  P_fettleref4_Ok_1 x0 t10_5 M Q
  )
  ) (
  OP (binI .eql t13 (.int .u8 45)) fun t34_1 =>
  BR t34_1 (
  OP (aun .not (.bool true)) fun t40_6 =>
  BR t40_6 (
  NTs [(.bool false)] ∧ Q (.bool false) M
  ) (
  OP (binI .add x3 (.int .i64 1)) fun t10_6 =>
  P_fettleref4_Ok_1 x0 t10_6 M Q
  )
  ) (
  OP (binI .eql t13 (.int .u8 95)) fun t38_1 =>
  OP (aun .not t38_1) fun t40_7 =>
  BR t40_7 (
  NTs [(.bool false)] ∧ Q (.bool false) M
  ) (
  OP (binI .add x3 (.int .i64 1)) fun t10_7 =>
  P_fettleref4_Ok_1 x0 t10_7 M Q
  )
  )
  )
  ) (
  BR t22 (
  BR undef (
  OP (aun .not (.bool true)) fun t40_8 =>
  BR t40_8 (
  NTs [(.bool false)] ∧ Q (.bool false) M
  ) (
  OP (binI .add x3 (.int .i64 1)) fun t10_8 =>
  P_fettleref4_Ok_1 x0 t10_8 M Q
  )
  ) (
  OP (binI .eql t13 (.int .u8 46)) fun t30_2 =>
  BR t30_2 (
  OP (aun .not (.bool true)) fun t40_9 =>
  BR t40_9 (
  NTs [(.bool false)] ∧ Q (.bool false) M
  ) (
  OP (binI .add x3 (.int .i64 1)) fun t10_9 =>
  P_fettleref4_Ok_1 x0 t10_9 M Q
  )
  ) (
  OP (binI .eql t13 (.int .u8 45)) fun t34_2 =>
  BR t34_2 (
  OP (aun .not (.bool true)) fun t40_10 =>
  BR t40_10 (
  NTs [(.bool false)] ∧ Q (.bool false) M
  ) (
  OP (binI .add x3 (.int .i64 1)) fun t10_10 =>
  P_fettleref4_Ok_1 x0 t10_10 M Q
  )
  ) (
  OP (binI .eql t13 (.int .u8 95)) fun t38_2 =>
  OP (aun .not t38_2) fun t40_11 =>
  BR t40_11 (
  NTs [(.bool false)] ∧ Q (.bool false) M
  ) (
  OP (binI .add x3 (.int .i64 1)) fun t10_11 =>
  P_fettleref4_Ok_1 x0 t10_11 M Q
  )
  )
  )
  )
  ) (
  OP (binI .eql t13 (.int .u8 46)) fun t30_3 =>
  BR t30_3 (
  OP (aun .not (.bool true)) fun t40_12 =>
  BR t40_12 (
  NTs [(.bool false)] ∧ Q (.bool false) M
  ) (
  OP (binI .add x3 (.int .i64 1)) fun t10_12 =>
  P_fettleref4_Ok_1 x0 t10_12 M Q
  )
  ) (
  OP (binI .eql t13 (.int .u8 45)) fun t34_3 =>
  BR t34_3 (
  OP (aun .not (.bool true)) fun t40_13 =>
  BR t40_13 (
  NTs [(.bool false)] ∧ Q (.bool false) M
  ) (
  OP (binI .add x3 (.int .i64 1)) fun t10_13 =>
  P_fettleref4_Ok_1 x0 t10_13 M Q
  )
  ) (
  OP (binI .eql t13 (.int .u8 95)) fun t38_3 =>
  OP (aun .not t38_3) fun t40_14 =>
  BR t40_14 (
  NTs [(.bool false)] ∧ Q (.bool false) M
  ) (
  OP (binI .add x3 (.int .i64 1)) fun t10_14 =>
  P_fettleref4_Ok_1 x0 t10_14 M Q
  )
  )
  )
  )
  )
  )
  ) (
  OP (binI .geq t13 (.int .u8 48)) fun t22_1 =>
  BR3 t22_1 (
  OP (binI .leq t13 (.int .u8 57)) fun t25_1 =>
  BR t25_1 (
  OP (aun .not (.bool true)) fun t40_15 =>
  BR t40_15 (
  NTs [(.bool false)] ∧ Q (.bool false) M
  ) (
  OP (binI .add x3 (.int .i64 1)) fun t10_15 =>
  P_fettleref4_Ok_1 x0 t10_15 M Q
  )
  ) (
  OP (binI .eql t13 (.int .u8 46)) fun t30_4 =>
  BR t30_4 (
  OP (aun .not (.bool true)) fun t40_16 =>
  BR t40_16 (
  NTs [(.bool false)] ∧ Q (.bool false) M
  ) (
  OP (binI .add x3 (.int .i64 1)) fun t10_16 =>
  P_fettleref4_Ok_1 x0 t10_16 M Q
  )
  ) (
  OP (binI .eql t13 (.int .u8 45)) fun t34_4 =>
  BR t34_4 (
  OP (aun .not (.bool true)) fun t40_17 =>
  BR t40_17 (
  NTs [(.bool false)] ∧ Q (.bool false) M
  ) (
  OP (binI .add x3 (.int .i64 1)) fun t10_17 =>
  P_fettleref4_Ok_1 x0 t10_17 M Q
  )
  ) (
  OP (binI .eql t13 (.int .u8 95)) fun t38_4 =>
  OP (aun .not t38_4) fun t40_18 =>
  BR t40_18 (
  NTs [(.bool false)] ∧ Q (.bool false) M
  ) (
  OP (binI .add x3 (.int .i64 1)) fun t10_18 =>
  P_fettleref4_Ok_1 x0 t10_18 M Q
  )
  )
  )
  )
  ) (
  OP (binI .eql t13 (.int .u8 46)) fun t30_5 =>
  BR t30_5 (
  OP (aun .not (.bool true)) fun t40_19 =>
  BR t40_19 (
  NTs [(.bool false)] ∧ Q (.bool false) M
  ) (
  OP (binI .add x3 (.int .i64 1)) fun t10_19 =>
  P_fettleref4_Ok_1 x0 t10_19 M Q
  )
  ) (
  OP (binI .eql t13 (.int .u8 45)) fun t34_5 =>
  BR t34_5 (
  OP (aun .not (.bool true)) fun t40_20 =>
  BR t40_20 (
  NTs [(.bool false)] ∧ Q (.bool false) M
  ) (
  OP (binI .add x3 (.int .i64 1)) fun t10_20 =>
  P_fettleref4_Ok_1 x0 t10_20 M Q
  )
  ) (
  OP (binI .eql t13 (.int .u8 95)) fun t38_5 =>
  OP (aun .not t38_5) fun t40_21 =>
  BR t40_21 (
  NTs [(.bool false)] ∧ Q (.bool false) M
  ) (
  OP (binI .add x3 (.int .i64 1)) fun t10_21 =>
  P_fettleref4_Ok_1 x0 t10_21 M Q
  )
  )
  )
  ) (
  BR t22_1 (
  BR undef (
  OP (aun .not (.bool true)) fun t40_22 =>
  BR t40_22 (
  NTs [(.bool false)] ∧ Q (.bool false) M
  ) (
  OP (binI .add x3 (.int .i64 1)) fun t10_22 =>
  P_fettleref4_Ok_1 x0 t10_22 M Q
  )
  ) (
  OP (binI .eql t13 (.int .u8 46)) fun t30_6 =>
  BR t30_6 (
  OP (aun .not (.bool true)) fun t40_23 =>
  BR t40_23 (
  NTs [(.bool false)] ∧ Q (.bool false) M
  ) (
  OP (binI .add x3 (.int .i64 1)) fun t10_23 =>
  P_fettleref4_Ok_1 x0 t10_23 M Q
  )
  ) (
  OP (binI .eql t13 (.int .u8 45)) fun t34_6 =>
  BR t34_6 (
  OP (aun .not (.bool true)) fun t40_24 =>
  BR t40_24 (
  NTs [(.bool false)] ∧ Q (.bool false) M
  ) (
  OP (binI .add x3 (.int .i64 1)) fun t10_24 =>
  P_fettleref4_Ok_1 x0 t10_24 M Q
  )
  ) (
  OP (binI .eql t13 (.int .u8 95)) fun t38_6 =>
  OP (aun .not t38_6) fun t40_25 =>
  BR t40_25 (
  NTs [(.bool false)] ∧ Q (.bool false) M
  ) (
  OP (binI .add x3 (.int .i64 1)) fun t10_25 =>
  P_fettleref4_Ok_1 x0 t10_25 M Q
  )
  )
  )
  )
  ) (
  OP (binI .eql t13 (.int .u8 46)) fun t30_7 =>
  BR t30_7 (
  OP (aun .not (.bool true)) fun t40_26 =>
  BR t40_26 (
  NTs [(.bool false)] ∧ Q (.bool false) M
  ) (
  OP (binI .add x3 (.int .i64 1)) fun t10_26 =>
  P_fettleref4_Ok_1 x0 t10_26 M Q
  )
  ) (
  OP (binI .eql t13 (.int .u8 45)) fun t34_7 =>
  BR t34_7 (
  OP (aun .not (.bool true)) fun t40_27 =>
  BR t40_27 (
  NTs [(.bool false)] ∧ Q (.bool false) M
  ) (
  OP (binI .add x3 (.int .i64 1)) fun t10_27 =>
  P_fettleref4_Ok_1 x0 t10_27 M Q
  )
  ) (
  OP (binI .eql t13 (.int .u8 95)) fun t38_7 =>
  OP (aun .not t38_7) fun t40_28 =>
  BR t40_28 (
  NTs [(.bool false)] ∧ Q (.bool false) M
  ) (
  OP (binI .add x3 (.int .i64 1)) fun t10_28 =>
  P_fettleref4_Ok_1 x0 t10_28 M Q
  )
  )
  )
  )
  )
  )
theorem T_fettleref4_Ok_2 {x0 x3 : Value} {M : Store} {Q : Value → Store → Prop} (h : S_fettleref4_Ok_2 x0 x3 M Q) : P_fettleref4_Ok_2 x0 x3 M Q := by
  intro f h0 h3; subst h0; subst h3
  unfold At
  exact rule (B := 1000) (N := 49) (ct := .no)
    [⟨0, fun a M => dfr a.defers (P_fettleref4_Ok_1 (a.get 0) (a.get 3) M Q), fun a M => At Tryd.prog Ex none Tryd.f26 [1, 0, 1, 0] a M Q⟩,
    ⟨1, fun a M => kfin Tryd.prog Tryd.f26.results.toList Q 1 a M, fun a M => kfin Tryd.prog Tryd.f26.results.toList Q 1 a M⟩]
    [] [0, 1] (by kernel_rfl) (by kernel_rfl) (by kernel_rfl) (by kernel_rfl) (by kernel_rfl)
    ⟨fun a M hn h => by obtain ⟨⟨n, f⟩, ds⟩ := a; have hn : n = 49 := hn; subst hn; obtain ⟨hd, h⟩ := dfr_iff h; have hd : ds = [] := hd; subst hd; exact h f rfl rfl,
    fun _ _ _ h => h,
    trivial⟩
    (cast (by kernel_rfl) h)
def S_fettleref4_Ok_3 (x0 : Value) (M : Store) (Q : Value → Store → Prop) : Prop :=
  OP (lenS x0) fun t42 =>
  OP (binI .geq t42 (.int .i64 1)) fun t43 =>
  BR t43 (
  OP (lenS x0) fun t46 =>
  OP (binI .leq t46 (.int .i64 16)) fun t47 =>
  NTs [t47] ∧ Q t47 M
  ) (
  NTs [(.bool false)] ∧ Q (.bool false) M
  )
theorem T_fettleref4_Ok_3 {x0 : Value} {M : Store} {Q : Value → Store → Prop} (h : S_fettleref4_Ok_3 x0 M Q) : P_fettleref4_Ok_3 x0 M Q := by
  intro f h0; subst h0
  unfold At
  exact rule (B := 1000) (N := 49) (ct := .no)
    [⟨1, fun a M => kfin Tryd.prog Tryd.f26.results.toList Q 1 a M, fun a M => kfin Tryd.prog Tryd.f26.results.toList Q 1 a M⟩]
    [] [1] (by kernel_rfl) (by kernel_rfl) (by kernel_rfl) (by kernel_rfl) (by kernel_rfl)
    ⟨fun _ _ _ h => h,
    trivial⟩
    (cast (by kernel_rfl) h)
def S_name_letter (x0 : Value) (M : Store) (Q : Value → Store → Prop) : Prop :=
  OP (binI .geq x0 (.int .u8 97)) fun t5 =>
  BR t5 (
  OP (binI .leq x0 (.int .u8 122)) fun t8 =>
  BR t8 (
  BR t8 (
  NTs [(.bool true)] ∧ Q (.bool true) M
  ) (
  NTs [(.bool false)] ∧ Q (.bool false) M
  )
  ) (
  OP (binI .geq x0 (.int .u8 48)) fun t11 =>
  BR t11 (
  OP (binI .leq x0 (.int .u8 57)) fun t14 =>
  BR t14 (
  BR t14 (
  NTs [(.bool true)] ∧ Q (.bool true) M
  ) (
  NTs [(.bool false)] ∧ Q (.bool false) M
  )
  ) (
  OP (binI .eql x0 (.int .u8 46)) fun t17 =>
  BR t17 (
  BR t17 (
  NTs [(.bool true)] ∧ Q (.bool true) M
  ) (
  NTs [(.bool false)] ∧ Q (.bool false) M
  )
  ) (
  OP (binI .eql x0 (.int .u8 45)) fun t19 =>
  BR t19 (
  BR t19 (
  NTs [(.bool true)] ∧ Q (.bool true) M
  ) (
  NTs [(.bool false)] ∧ Q (.bool false) M
  )
  ) (
  OP (binI .eql x0 (.int .u8 95)) fun t21 =>
  BR t21 (
  NTs [(.bool true)] ∧ Q (.bool true) M
  ) (
  NTs [(.bool false)] ∧ Q (.bool false) M
  )
  )
  )
  )
  ) (
  OP (binI .eql x0 (.int .u8 46)) fun t17_1 =>
  BR t17_1 (
  BR t17_1 (
  NTs [(.bool true)] ∧ Q (.bool true) M
  ) (
  NTs [(.bool false)] ∧ Q (.bool false) M
  )
  ) (
  OP (binI .eql x0 (.int .u8 45)) fun t19_1 =>
  BR t19_1 (
  BR t19_1 (
  NTs [(.bool true)] ∧ Q (.bool true) M
  ) (
  NTs [(.bool false)] ∧ Q (.bool false) M
  )
  ) (
  OP (binI .eql x0 (.int .u8 95)) fun t21_1 =>
  BR t21_1 (
  NTs [(.bool true)] ∧ Q (.bool true) M
  ) (
  NTs [(.bool false)] ∧ Q (.bool false) M
  )
  )
  )
  )
  )
  ) (
  OP (binI .geq x0 (.int .u8 48)) fun t11_1 =>
  BR t11_1 (
  OP (binI .leq x0 (.int .u8 57)) fun t14_1 =>
  BR t14_1 (
  BR t14_1 (
  NTs [(.bool true)] ∧ Q (.bool true) M
  ) (
  NTs [(.bool false)] ∧ Q (.bool false) M
  )
  ) (
  OP (binI .eql x0 (.int .u8 46)) fun t17_2 =>
  BR t17_2 (
  BR t17_2 (
  NTs [(.bool true)] ∧ Q (.bool true) M
  ) (
  NTs [(.bool false)] ∧ Q (.bool false) M
  )
  ) (
  OP (binI .eql x0 (.int .u8 45)) fun t19_2 =>
  BR t19_2 (
  BR t19_2 (
  NTs [(.bool true)] ∧ Q (.bool true) M
  ) (
  NTs [(.bool false)] ∧ Q (.bool false) M
  )
  ) (
  OP (binI .eql x0 (.int .u8 95)) fun t21_2 =>
  BR t21_2 (
  NTs [(.bool true)] ∧ Q (.bool true) M
  ) (
  NTs [(.bool false)] ∧ Q (.bool false) M
  )
  )
  )
  )
  ) (
  OP (binI .eql x0 (.int .u8 46)) fun t17_3 =>
  BR t17_3 (
  BR t17_3 (
  NTs [(.bool true)] ∧ Q (.bool true) M
  ) (
  NTs [(.bool false)] ∧ Q (.bool false) M
  )
  ) (
  OP (binI .eql x0 (.int .u8 45)) fun t19_3 =>
  BR t19_3 (
  BR t19_3 (
  NTs [(.bool true)] ∧ Q (.bool true) M
  ) (
  NTs [(.bool false)] ∧ Q (.bool false) M
  )
  ) (
  OP (binI .eql x0 (.int .u8 95)) fun t21_3 =>
  BR t21_3 (
  NTs [(.bool true)] ∧ Q (.bool true) M
  ) (
  NTs [(.bool false)] ∧ Q (.bool false) M
  )
  )
  )
  )
  )
theorem T_name_letter {x0 : Value} {M : Store} {Q : Value → Store → Prop} (h : S_name_letter x0 M Q) : R F.name_letter #[x0] M Q := by
  refine runs_of (c := bodyOf Tryd.f39) Tryd.func39 rfl (by kernel_rfl) (by kernel_rfl) ?_
  unfold At
  exact rule (B := 1000) (N := 22) (ct := .no)
    [⟨1, fun a M => kfin Tryd.prog Tryd.f39.results.toList Q 1 a M, fun a M => kfin Tryd.prog Tryd.f39.results.toList Q 1 a M⟩]
    [] [1] (by kernel_rfl) (by kernel_rfl) (by kernel_rfl) (by kernel_rfl) (by kernel_rfl)
    ⟨fun _ _ _ h => h,
    trivial⟩
    (cast (by kernel_rfl) h)
end Go.G
