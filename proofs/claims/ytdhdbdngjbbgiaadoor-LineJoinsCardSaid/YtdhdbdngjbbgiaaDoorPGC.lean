/-  -/
import Derived.Test.YtdhdbdngjbbgiaaDoorPGN
open Go.RowKit
namespace Go.G
open Go.Ab Go.Proofs
set_option linter.unusedVariables false
set_option maxRecDepth 100000
def P_fettleref4_SameLines_1 (x0 x1 x5 : Value) (M : Store) (Q : Value → Store → Prop) : Prop :=
  ∀ f : Nat → Value, f 0 = x0 → f 1 = x1 → f 5 = x5 → At Tryd.prog Ex none Tryd.f17 [1, 1, 0, 1, 0] ⟨⟨53, f⟩, []⟩ M Q
def P_fettleref4_SameLines_2 (x0 x1 x5 : Value) (M : Store) (Q : Value → Store → Prop) : Prop :=
  ∀ f : Nat → Value, f 0 = x0 → f 1 = x1 → f 5 = x5 → At Tryd.prog Ex none Tryd.f17 [1, 1, 0, 1, 0, 0, 1] ⟨⟨53, f⟩, []⟩ M Q
def P_fettleref4_SameLines_3 (M : Store) (Q : Value → Store → Prop) : Prop :=
  ∀ f : Nat → Value, At Tryd.prog Ex none Tryd.f17 [1, 1, 1] ⟨⟨53, f⟩, []⟩ M Q
def P_fettleref4_SameLines_4 (x0 x1 x5 x6 : Value) (M : Store) (Q : Value → Store → Prop) : Prop :=
  ∀ f : Nat → Value, f 0 = x0 → f 1 = x1 → f 5 = x5 → f 6 = x6 → At Tryd.prog Ex none Tryd.f17 [1, 1, 0, 1, 0, 0, 1, 0, 0, 1, 1, 0] ⟨⟨53, f⟩, []⟩ M Q
def P_fettleref4_SameLines_5 (x0 x1 x5 x6 : Value) (M : Store) (Q : Value → Store → Prop) : Prop :=
  ∀ f : Nat → Value, f 0 = x0 → f 1 = x1 → f 5 = x5 → f 6 = x6 → At Tryd.prog Ex none Tryd.f17 [1, 1, 0, 1, 0, 0, 1, 0, 0, 1, 1, 0, 0, 1] ⟨⟨53, f⟩, []⟩ M Q
def P_fettleref4_SameLines_6 (x0 x1 x5 : Value) (M : Store) (Q : Value → Store → Prop) : Prop :=
  ∀ f : Nat → Value, f 0 = x0 → f 1 = x1 → f 5 = x5 → At Tryd.prog Ex none Tryd.f17 [1, 1, 0, 1, 0, 0, 1, 1] ⟨⟨53, f⟩, []⟩ M Q
def S_fettleref4_SameLines (x0 x1 : Value) (M : Store) (Q : Value → Store → Prop) : Prop :=
  OP (lenV x0) fun t8 =>
  OP (lenV x1) fun t10 =>
  OP (binI .neq t8 t10) fun t11 =>
  BR t11 (
  NTs [(.bool false)] ∧ Q (.bool false) M
  ) (
  P_fettleref4_SameLines_1 x0 x1 (.int .i64 0) M Q
  )
theorem T_fettleref4_SameLines {x0 x1 : Value} {M : Store} {Q : Value → Store → Prop} (h : S_fettleref4_SameLines x0 x1 M Q) : R F.fettleref4_SameLines #[x0, x1] M Q := by
  refine runs_of (c := bodyOf Tryd.f17) Tryd.func17 rfl (by kernel_rfl) (by kernel_rfl) ?_
  unfold At
  exact rule (B := 1000) (N := 53) (ct := (.two .no (.two .no (.two (.two .no (.two (.here 1000) .no)) (.here 1001)))))
    [⟨1002, fun a M => dfr a.defers (P_fettleref4_SameLines_1 (a.get 0) (a.get 1) (a.get 5) M Q), fun a M => At Tryd.prog Ex none Tryd.f17 [1, 1, 0, 1, 0] a M Q⟩,
    ⟨1003, fun _ _ => False, fun a M => At Tryd.prog Ex none Tryd.f17 [1, 1, 1] a M Q⟩,
    ⟨1, fun a M => kfin Tryd.prog Tryd.f17.results.toList Q 1 a M, fun a M => kfin Tryd.prog Tryd.f17.results.toList Q 1 a M⟩]
    [1000, 1001] [1] (by kernel_rfl) (by kernel_rfl) (by kernel_rfl) (by kernel_rfl) (by kernel_rfl)
    ⟨fun a M hn h => by obtain ⟨⟨n, f⟩, ds⟩ := a; have hn : n = 53 := hn; subst hn; obtain ⟨hd, h⟩ := dfr_iff h; have hd : ds = [] := hd; subst hd; exact h f rfl rfl rfl,
    fun _ _ _ h => h.elim,
    fun _ _ _ h => h,
    trivial⟩
    (cast (by kernel_rfl) h)
def S_fettleref4_SameLines_1 (x0 x1 x5 : Value) (M : Store) (Q : Value → Store → Prop) : Prop :=
  OP (lenV x0) fun t14 =>
  OP (binI .lss x5 t14) fun t15 =>
  BR t15 (
  P_fettleref4_SameLines_2 x0 x1 x5 M Q
  ) (
  P_fettleref4_SameLines_3 M Q
  )
theorem T_fettleref4_SameLines_1 {x0 x1 x5 : Value} {M : Store} {Q : Value → Store → Prop} (h : S_fettleref4_SameLines_1 x0 x1 x5 M Q) : P_fettleref4_SameLines_1 x0 x1 x5 M Q := by
  intro f h0 h1 h5; subst h0; subst h1; subst h5
  unfold At
  refine cast (by kernel_rfl) (CW.loop (P := Tryd.prog) (E := Ex) (rd := none) (x := sub (bodyOf Tryd.f17) [1, 1, 0, 1, 0, 0]) (a := ⟨⟨53, f⟩, []⟩) (M := M) (K := kcont Tryd.prog Ex none (bodyOf Tryd.f17) [1, 1, 0, 1, 0] (kfin Tryd.prog Tryd.f17.results.toList Q)) ?_)
  exact rule (B := 1000) (N := 53) (ct := (.two .no (.here 1000)))
    [⟨1002, fun a M => dfr a.defers (P_fettleref4_SameLines_2 (a.get 0) (a.get 1) (a.get 5) M Q), fun a M => At Tryd.prog Ex none Tryd.f17 [1, 1, 0, 1, 0, 0, 1] a M Q⟩,
    ⟨2, fun a M => dfr a.defers (P_fettleref4_SameLines_3 M Q), fun a M => At Tryd.prog Ex none Tryd.f17 [1, 1, 1] a M Q⟩]
    [1000] [2] (by kernel_rfl) (by kernel_rfl) (by kernel_rfl) (by kernel_rfl) (by kernel_rfl)
    ⟨fun a M hn h => by obtain ⟨⟨n, f⟩, ds⟩ := a; have hn : n = 53 := hn; subst hn; obtain ⟨hd, h⟩ := dfr_iff h; have hd : ds = [] := hd; subst hd; exact h f rfl rfl rfl,
    fun a M hn h => by obtain ⟨⟨n, f⟩, ds⟩ := a; have hn : n = 53 := hn; subst hn; obtain ⟨hd, h⟩ := dfr_iff h; have hd : ds = [] := hd; subst hd; exact h f,
    trivial⟩
    (cast (by kernel_rfl) h)
def S_fettleref4_SameLines_2 (x0 x1 x5 : Value) (M : Store) (Q : Value → Store → Prop) : Prop :=
  OP (ixA 1 x0 x5) fun t20 =>
  OP (ld 1 false t20 M) fun t21 =>
  OP (lenV t21) fun t22 =>
  OP (ixA 1 x1 x5) fun t25 =>
  OP (ld 1 false t25 M) fun t26 =>
  OP (lenV t26) fun t27 =>
  OP (binI .neq t22 t27) fun t28 =>
  BR t28 (
  NTs [(.bool false)] ∧ Q (.bool false) M
  ) (
  P_fettleref4_SameLines_4 x0 x1 x5 (.int .i64 0) M Q
  )
theorem T_fettleref4_SameLines_2 {x0 x1 x5 : Value} {M : Store} {Q : Value → Store → Prop} (h : S_fettleref4_SameLines_2 x0 x1 x5 M Q) : P_fettleref4_SameLines_2 x0 x1 x5 M Q := by
  intro f h0 h1 h5; subst h0; subst h1; subst h5
  unfold At
  exact rule (B := 1000) (N := 53) (ct := (.two (.two (.two .no (.two .no (.two (.here 1000) .no))) .no) (.here 1001)))
    [⟨1002, fun a M => dfr a.defers (P_fettleref4_SameLines_4 (a.get 0) (a.get 1) (a.get 5) (a.get 6) M Q), fun a M => At Tryd.prog Ex none Tryd.f17 [1, 1, 0, 1, 0, 0, 1, 0, 0, 1, 1, 0] a M Q⟩,
    ⟨1003, fun _ _ => False, fun a M => At Tryd.prog Ex none Tryd.f17 [1, 1, 0, 1, 0, 0, 1, 1] a M Q⟩,
    ⟨1, fun a M => kfin Tryd.prog Tryd.f17.results.toList Q 1 a M, fun a M => kfin Tryd.prog Tryd.f17.results.toList Q 1 a M⟩]
    [1000, 1001] [1] (by kernel_rfl) (by kernel_rfl) (by kernel_rfl) (by kernel_rfl) (by kernel_rfl)
    ⟨fun a M hn h => by obtain ⟨⟨n, f⟩, ds⟩ := a; have hn : n = 53 := hn; subst hn; obtain ⟨hd, h⟩ := dfr_iff h; have hd : ds = [] := hd; subst hd; exact h f rfl rfl rfl rfl,
    fun _ _ _ h => h.elim,
    fun _ _ _ h => h,
    trivial⟩
    (cast (by kernel_rfl) h)
def S_fettleref4_SameLines_3 (M : Store) (Q : Value → Store → Prop) : Prop :=
  NTs [(.bool true)] ∧ Q (.bool true) M
theorem T_fettleref4_SameLines_3 {M : Store} {Q : Value → Store → Prop} (h : S_fettleref4_SameLines_3 M Q) : P_fettleref4_SameLines_3 M Q := by
  intro f 
  unfold At
  exact rule (B := 1000) (N := 53) (ct := .no)
    [⟨1, fun a M => kfin Tryd.prog Tryd.f17.results.toList Q 1 a M, fun a M => kfin Tryd.prog Tryd.f17.results.toList Q 1 a M⟩]
    [] [1] (by kernel_rfl) (by kernel_rfl) (by kernel_rfl) (by kernel_rfl) (by kernel_rfl)
    ⟨fun _ _ _ h => h,
    trivial⟩
    (cast (by kernel_rfl) h)
def S_fettleref4_SameLines_4 (x0 x1 x5 x6 : Value) (M : Store) (Q : Value → Store → Prop) : Prop :=
  OP (ixA 1 x0 x5) fun t32 =>
  OP (ld 1 false t32 M) fun t33 =>
  OP (lenV t33) fun t34 =>
  OP (binI .lss x6 t34) fun t35 =>
  BR t35 (
  P_fettleref4_SameLines_5 x0 x1 x5 x6 M Q
  ) (
  P_fettleref4_SameLines_6 x0 x1 x5 M Q
  )
theorem T_fettleref4_SameLines_4 {x0 x1 x5 x6 : Value} {M : Store} {Q : Value → Store → Prop} (h : S_fettleref4_SameLines_4 x0 x1 x5 x6 M Q) : P_fettleref4_SameLines_4 x0 x1 x5 x6 M Q := by
  intro f h0 h1 h5 h6; subst h0; subst h1; subst h5; subst h6
  unfold At
  refine cast (by kernel_rfl) (CW.loop (P := Tryd.prog) (E := Ex) (rd := none) (x := sub (bodyOf Tryd.f17) [1, 1, 0, 1, 0, 0, 1, 0, 0, 1, 1, 0, 0]) (a := ⟨⟨53, f⟩, []⟩) (M := M) (K := kcont Tryd.prog Ex none (bodyOf Tryd.f17) [1, 1, 0, 1, 0, 0, 1, 0, 0, 1, 1, 0] (kfin Tryd.prog Tryd.f17.results.toList Q)) ?_)
  exact rule (B := 1000) (N := 53) (ct := (.two .no (.here 1000)))
    [⟨1002, fun a M => dfr a.defers (P_fettleref4_SameLines_5 (a.get 0) (a.get 1) (a.get 5) (a.get 6) M Q), fun a M => At Tryd.prog Ex none Tryd.f17 [1, 1, 0, 1, 0, 0, 1, 0, 0, 1, 1, 0, 0, 1] a M Q⟩,
    ⟨4, fun a M => dfr a.defers (P_fettleref4_SameLines_6 (a.get 0) (a.get 1) (a.get 5) M Q), fun a M => At Tryd.prog Ex none Tryd.f17 [1, 1, 0, 1, 0, 0, 1, 1] a M Q⟩]
    [1000] [4] (by kernel_rfl) (by kernel_rfl) (by kernel_rfl) (by kernel_rfl) (by kernel_rfl)
    ⟨fun a M hn h => by obtain ⟨⟨n, f⟩, ds⟩ := a; have hn : n = 53 := hn; subst hn; obtain ⟨hd, h⟩ := dfr_iff h; have hd : ds = [] := hd; subst hd; exact h f rfl rfl rfl rfl,
    fun a M hn h => by obtain ⟨⟨n, f⟩, ds⟩ := a; have hn : n = 53 := hn; subst hn; obtain ⟨hd, h⟩ := dfr_iff h; have hd : ds = [] := hd; subst hd; exact h f rfl rfl rfl,
    trivial⟩
    (cast (by kernel_rfl) h)
def S_fettleref4_SameLines_5 (x0 x1 x5 x6 : Value) (M : Store) (Q : Value → Store → Prop) : Prop :=
  OP (ixA 1 x0 x5) fun t40 =>
  OP (ld 1 false t40 M) fun t41 =>
  OP (ixA 4 t41 x6) fun t43 =>
  OP (ld 4 true t43 M) fun t44 =>
  OP (ixA 1 x1 x5) fun t47 =>
  OP (ld 1 false t47 M) fun t48 =>
  OP (ixA 4 t48 x6) fun t50 =>
  OP (ld 4 true t50 M) fun t51 =>
  OP (abin Tryd.prog false .neq Ty.api_Word t44 t51) fun t52 =>
  BR t52 (
  NTs [(.bool false)] ∧ Q (.bool false) M
  ) (
  OP (binI .add x6 (.int .i64 1)) fun t37 =>
  P_fettleref4_SameLines_4 x0 x1 x5 t37 M Q
  )
theorem T_fettleref4_SameLines_5 {x0 x1 x5 x6 : Value} {M : Store} {Q : Value → Store → Prop} (h : S_fettleref4_SameLines_5 x0 x1 x5 x6 M Q) : P_fettleref4_SameLines_5 x0 x1 x5 x6 M Q := by
  intro f h0 h1 h5 h6; subst h0; subst h1; subst h5; subst h6
  unfold At
  exact rule (B := 1000) (N := 53) (ct := .no)
    [⟨0, fun a M => dfr a.defers (P_fettleref4_SameLines_4 (a.get 0) (a.get 1) (a.get 5) (a.get 6) M Q), fun a M => At Tryd.prog Ex none Tryd.f17 [1, 1, 0, 1, 0, 0, 1, 0, 0, 1, 1, 0] a M Q⟩,
    ⟨1, fun a M => kfin Tryd.prog Tryd.f17.results.toList Q 1 a M, fun a M => kfin Tryd.prog Tryd.f17.results.toList Q 1 a M⟩]
    [] [0, 1] (by kernel_rfl) (by kernel_rfl) (by kernel_rfl) (by kernel_rfl) (by kernel_rfl)
    ⟨fun a M hn h => by obtain ⟨⟨n, f⟩, ds⟩ := a; have hn : n = 53 := hn; subst hn; obtain ⟨hd, h⟩ := dfr_iff h; have hd : ds = [] := hd; subst hd; exact h f rfl rfl rfl rfl,
    fun _ _ _ h => h,
    trivial⟩
    (cast (by kernel_rfl) h)
def S_fettleref4_SameLines_6 (x0 x1 x5 : Value) (M : Store) (Q : Value → Store → Prop) : Prop :=
  OP (binI .add x5 (.int .i64 1)) fun t17 =>
  P_fettleref4_SameLines_1 x0 x1 t17 M Q
theorem T_fettleref4_SameLines_6 {x0 x1 x5 : Value} {M : Store} {Q : Value → Store → Prop} (h : S_fettleref4_SameLines_6 x0 x1 x5 M Q) : P_fettleref4_SameLines_6 x0 x1 x5 M Q := by
  intro f h0 h1 h5; subst h0; subst h1; subst h5
  unfold At
  exact rule (B := 1000) (N := 53) (ct := .no)
    [⟨0, fun a M => dfr a.defers (P_fettleref4_SameLines_1 (a.get 0) (a.get 1) (a.get 5) M Q), fun a M => At Tryd.prog Ex none Tryd.f17 [1, 1, 0, 1, 0] a M Q⟩]
    [] [0] (by kernel_rfl) (by kernel_rfl) (by kernel_rfl) (by kernel_rfl) (by kernel_rfl)
    ⟨fun a M hn h => by obtain ⟨⟨n, f⟩, ds⟩ := a; have hn : n = 53 := hn; subst hn; obtain ⟨hd, h⟩ := dfr_iff h; have hd : ds = [] := hd; subst hd; exact h f rfl rfl rfl,
    trivial⟩
    (cast (by kernel_rfl) h)
def P_fettleref4_Split_1 (x0 x3 x4 x5 x6 x7 x8 : Value) (M : Store) (Q : Value → Store → Prop) : Prop :=
  ∀ f : Nat → Value, f 0 = x0 → f 3 = x3 → f 4 = x4 → f 5 = x5 → f 6 = x6 → f 7 = x7 → f 8 = x8 → At Tryd.prog Ex none Tryd.f18 [1, 1, 1, 1, 0, 1, 0] ⟨⟨192, f⟩, []⟩ M Q
def P_fettleref4_Split_2 (x0 x3 x4 x5 x6 x7 x8 : Value) (M : Store) (Q : Value → Store → Prop) : Prop :=
  ∀ f : Nat → Value, f 0 = x0 → f 3 = x3 → f 4 = x4 → f 5 = x5 → f 6 = x6 → f 7 = x7 → f 8 = x8 → At Tryd.prog Ex none Tryd.f18 [1, 1, 1, 1, 0, 1, 0, 0, 1] ⟨⟨192, f⟩, []⟩ M Q
def P_fettleref4_Split_3 (x3 x4 : Value) (M : Store) (Q : Value → Store → Prop) : Prop :=
  ∀ f : Nat → Value, f 3 = x3 → f 4 = x4 → At Tryd.prog Ex none Tryd.f18 [1, 1, 1, 1, 1] ⟨⟨192, f⟩, []⟩ M Q
def P_fettleref4_Split_4 (x0 x3 x4 x5 x6 x7 x8 : Value) (M : Store) (Q : Value → Store → Prop) : Prop :=
  ∀ f : Nat → Value, f 0 = x0 → f 3 = x3 → f 4 = x4 → f 5 = x5 → f 6 = x6 → f 7 = x7 → f 8 = x8 → At Tryd.prog Ex none Tryd.f18 [1, 1, 1, 1, 0, 1, 0, 0, 1, 0, 1] ⟨⟨192, f⟩, []⟩ M Q
def P_fettleref4_Split_5 (x0 x3 x4 x5 x6 x7 x8 : Value) (M : Store) (Q : Value → Store → Prop) : Prop :=
  ∀ f : Nat → Value, f 0 = x0 → f 3 = x3 → f 4 = x4 → f 5 = x5 → f 6 = x6 → f 7 = x7 → f 8 = x8 → At Tryd.prog Ex none Tryd.f18 [1, 1, 1, 1, 0, 1, 0, 0, 1, 0, 1, 1, 1, 0, 1, 1, 1, 0, 0] ⟨⟨192, f⟩, []⟩ M Q
def P_fettleref4_Split_6 (x0 x3 x4 x5 x6 x7 x8 x10 x15 : Value) (M : Store) (Q : Value → Store → Prop) : Prop :=
  ∀ f : Nat → Value, f 0 = x0 → f 3 = x3 → f 4 = x4 → f 5 = x5 → f 6 = x6 → f 7 = x7 → f 8 = x8 → f 10 = x10 → f 15 = x15 → At Tryd.prog Ex none Tryd.f18 [1, 1, 1, 1, 0, 1, 0, 0, 1, 0, 1, 1, 1, 0, 1, 1, 1, 1, 1, 1, 1, 1, 1, 1, 1, 0, 0] ⟨⟨192, f⟩, []⟩ M Q
def P_fettleref4_Split_7 (x0 x3 x4 x5 x6 x7 x8 x10 x15 : Value) (M : Store) (Q : Value → Store → Prop) : Prop :=
  ∀ f : Nat → Value, f 0 = x0 → f 3 = x3 → f 4 = x4 → f 5 = x5 → f 6 = x6 → f 7 = x7 → f 8 = x8 → f 10 = x10 → f 15 = x15 → At Tryd.prog Ex none Tryd.f18 [1, 1, 1, 1, 0, 1, 0, 0, 1, 0, 1, 1, 1, 0, 1, 1, 1, 1, 1, 1, 1, 1, 1, 1, 1, 1] ⟨⟨192, f⟩, []⟩ M Q
def S_fettleref4_Split (x0 : Value) (M : Store) (Q : Value → Store → Prop) : Prop :=
  LT (.pointer (some ⟨M.n, 0, none⟩)) (M.push (some (.inl ([(.int .i64 0), (.int .i64 0), (.int .i64 0)], Ty.api_Fault, true)))) fun t3 M1 =>
  P_fettleref4_Split_1 x0 t3 (.slice none 0 0) (.slice none 0 0) (.int .i64 1) (.int .i64 0) (.int .i64 0) M1 Q
theorem T_fettleref4_Split {x0 : Value} {M : Store} {Q : Value → Store → Prop} (h : S_fettleref4_Split x0 M Q) : R F.fettleref4_Split #[x0] M Q := by
  refine runs_of (c := bodyOf Tryd.f18) Tryd.func18 rfl (by kernel_rfl) (by kernel_rfl) ?_
  unfold At
  exact rule (B := 1000) (N := 192) (ct := (.two .no (.two .no (.two .no (.two .no (.two (.two .no (.two (.here 1000) .no)) (.here 1001)))))))
    [⟨1002, fun a M => dfr a.defers (P_fettleref4_Split_1 (a.get 0) (a.get 3) (a.get 4) (a.get 5) (a.get 6) (a.get 7) (a.get 8) M Q), fun a M => At Tryd.prog Ex none Tryd.f18 [1, 1, 1, 1, 0, 1, 0] a M Q⟩,
    ⟨1003, fun _ _ => False, fun a M => At Tryd.prog Ex none Tryd.f18 [1, 1, 1, 1, 1] a M Q⟩]
    [1000, 1001] [] (by kernel_rfl) (by kernel_rfl) (by kernel_rfl) (by kernel_rfl) (by kernel_rfl)
    ⟨fun a M hn h => by obtain ⟨⟨n, f⟩, ds⟩ := a; have hn : n = 192 := hn; subst hn; obtain ⟨hd, h⟩ := dfr_iff h; have hd : ds = [] := hd; subst hd; exact h f rfl rfl rfl rfl rfl rfl rfl,
    fun _ _ _ h => h.elim,
    trivial⟩
    (cast (by kernel_rfl) h)
def S_fettleref4_Split_1 (x0 x3 x4 x5 x6 x7 x8 : Value) (M : Store) (Q : Value → Store → Prop) : Prop :=
  OP (lenV x0) fun t18 =>
  OP (binI .leq x8 t18) fun t19 =>
  BR t19 (
  P_fettleref4_Split_2 x0 x3 x4 x5 x6 x7 x8 M Q
  ) (
  P_fettleref4_Split_3 x3 x4 M Q
  )
theorem T_fettleref4_Split_1 {x0 x3 x4 x5 x6 x7 x8 : Value} {M : Store} {Q : Value → Store → Prop} (h : S_fettleref4_Split_1 x0 x3 x4 x5 x6 x7 x8 M Q) : P_fettleref4_Split_1 x0 x3 x4 x5 x6 x7 x8 M Q := by
  intro f h0 h3 h4 h5 h6 h7 h8; subst h0; subst h3; subst h4; subst h5; subst h6; subst h7; subst h8
  unfold At
  refine cast (by kernel_rfl) (CW.loop (P := Tryd.prog) (E := Ex) (rd := none) (x := sub (bodyOf Tryd.f18) [1, 1, 1, 1, 0, 1, 0, 0]) (a := ⟨⟨192, f⟩, []⟩) (M := M) (K := kcont Tryd.prog Ex none (bodyOf Tryd.f18) [1, 1, 1, 1, 0, 1, 0] (kfin Tryd.prog Tryd.f18.results.toList Q)) ?_)
  exact rule (B := 1000) (N := 192) (ct := (.two .no (.here 1000)))
    [⟨1002, fun a M => dfr a.defers (P_fettleref4_Split_2 (a.get 0) (a.get 3) (a.get 4) (a.get 5) (a.get 6) (a.get 7) (a.get 8) M Q), fun a M => At Tryd.prog Ex none Tryd.f18 [1, 1, 1, 1, 0, 1, 0, 0, 1] a M Q⟩,
    ⟨2, fun a M => dfr a.defers (P_fettleref4_Split_3 (a.get 3) (a.get 4) M Q), fun a M => At Tryd.prog Ex none Tryd.f18 [1, 1, 1, 1, 1] a M Q⟩]
    [1000] [2] (by kernel_rfl) (by kernel_rfl) (by kernel_rfl) (by kernel_rfl) (by kernel_rfl)
    ⟨fun a M hn h => by obtain ⟨⟨n, f⟩, ds⟩ := a; have hn : n = 192 := hn; subst hn; obtain ⟨hd, h⟩ := dfr_iff h; have hd : ds = [] := hd; subst hd; exact h f rfl rfl rfl rfl rfl rfl rfl,
    fun a M hn h => by obtain ⟨⟨n, f⟩, ds⟩ := a; have hn : n = 192 := hn; subst hn; obtain ⟨hd, h⟩ := dfr_iff h; have hd : ds = [] := hd; subst hd; exact h f rfl rfl,
    trivial⟩
    (cast (by kernel_rfl) h)
def S_fettleref4_Split_2 (x0 x3 x4 x5 x6 x7 x8 : Value) (M : Store) (Q : Value → Store → Prop) : Prop :=
  OP (lenV x0) fun t22 =>
  OP (binI .eql x8 t22) fun t23 =>
  BR t23 (
  OP (lenV x5) fun t32 =>
  OP (binI .gtr t32 (.int .i64 0)) fun t33 =>
  BR t33 (
  OP (bldL (.slice none 0 0) 1 1 [(0, x5)]) fun c =>
  LT (.slice (some ⟨M.n, 0, none⟩) 1 1) (M.push (some (.inl (c, Ty.sl_api_Word, true)))) fun t36 M1 =>
  OP2 (appV 1 Ty.sl_api_Word x4 t36 M1) fun t37 M2 =>
  OP (binI .add x6 (.int .i64 1)) fun t39 =>
  OP (binI .add x8 (.int .i64 1)) fun t41 =>
  P_fettleref4_Split_1 x0 x3 t37 (.slice none 0 0) t39 t41 t41 M2 Q
  ) (
  OP (binI .add x6 (.int .i64 1)) fun t39_1 =>
  OP (binI .add x8 (.int .i64 1)) fun t41_1 =>
  P_fettleref4_Split_1 x0 x3 x4 x5 t39_1 t41_1 t41_1 M Q
  )
  ) (
  OP (ixA 1 x0 x8) fun t27 =>
  OP (ld 1 false t27 M) fun t28 =>
  OP (binI .eql t28 (.int .u8 10)) fun t29 =>
  BR t29 (
  OP (lenV x5) fun t32_1 =>
  OP (binI .gtr t32_1 (.int .i64 0)) fun t33_1 =>
  BR t33_1 (
  OP (bldL (.slice none 0 0) 1 1 [(0, x5)]) fun c_1 =>
  LT (.slice (some ⟨M.n, 0, none⟩) 1 1) (M.push (some (.inl (c_1, Ty.sl_api_Word, true)))) fun t36_1 M3 =>
  OP2 (appV 1 Ty.sl_api_Word x4 t36_1 M3) fun t37_1 M4 =>
  OP (binI .add x6 (.int .i64 1)) fun t39_2 =>
  OP (binI .add x8 (.int .i64 1)) fun t41_2 =>
  P_fettleref4_Split_1 x0 x3 t37_1 (.slice none 0 0) t39_2 t41_2 t41_2 M4 Q
  ) (
  OP (binI .add x6 (.int .i64 1)) fun t39_3 =>
  OP (binI .add x8 (.int .i64 1)) fun t41_3 =>
  P_fettleref4_Split_1 x0 x3 x4 x5 t39_3 t41_3 t41_3 M Q
  )
  ) (
  P_fettleref4_Split_4 x0 x3 x4 x5 x6 x7 x8 M Q
  )
  )
theorem T_fettleref4_Split_2 {x0 x3 x4 x5 x6 x7 x8 : Value} {M : Store} {Q : Value → Store → Prop} (h : S_fettleref4_Split_2 x0 x3 x4 x5 x6 x7 x8 M Q) : P_fettleref4_Split_2 x0 x3 x4 x5 x6 x7 x8 M Q := by
  intro f h0 h3 h4 h5 h6 h7 h8; subst h0; subst h3; subst h4; subst h5; subst h6; subst h7; subst h8
  unfold At
  exact rule (B := 1000) (N := 192) (ct := (.two (.two .no (.here 1000)) .no))
    [⟨1002, fun a M => dfr a.defers (P_fettleref4_Split_4 (a.get 0) (a.get 3) (a.get 4) (a.get 5) (a.get 6) (a.get 7) (a.get 8) M Q), fun a M => At Tryd.prog Ex none Tryd.f18 [1, 1, 1, 1, 0, 1, 0, 0, 1, 0, 1] a M Q⟩,
    ⟨0, fun a M => dfr a.defers (P_fettleref4_Split_1 (a.get 0) (a.get 3) (a.get 4) (a.get 5) (a.get 6) (a.get 7) (a.get 8) M Q), fun a M => At Tryd.prog Ex none Tryd.f18 [1, 1, 1, 1, 0, 1, 0] a M Q⟩]
    [1000] [0] (by kernel_rfl) (by kernel_rfl) (by kernel_rfl) (by kernel_rfl) (by kernel_rfl)
    ⟨fun a M hn h => by obtain ⟨⟨n, f⟩, ds⟩ := a; have hn : n = 192 := hn; subst hn; obtain ⟨hd, h⟩ := dfr_iff h; have hd : ds = [] := hd; subst hd; exact h f rfl rfl rfl rfl rfl rfl rfl,
    fun a M hn h => by obtain ⟨⟨n, f⟩, ds⟩ := a; have hn : n = 192 := hn; subst hn; obtain ⟨hd, h⟩ := dfr_iff h; have hd : ds = [] := hd; subst hd; exact h f rfl rfl rfl rfl rfl rfl rfl,
    trivial⟩
    (cast (by kernel_rfl) h)
def S_fettleref4_Split_3 (x3 x4 : Value) (M : Store) (Q : Value → Store → Prop) : Prop :=
  OP (bldS #[(.int .i64 0), (.int .i64 0), (.int .i64 0)] [(0, 1), (1, 1), (2, 1)] []) fun t191 =>
  OP (st 3 x3 t191 M) fun M1 =>
  OP (ld 3 true x3 M1) fun r3 =>
  NTs [x4, r3] ∧ Q (.tuple #[x4, r3]) M1
theorem T_fettleref4_Split_3 {x3 x4 : Value} {M : Store} {Q : Value → Store → Prop} (h : S_fettleref4_Split_3 x3 x4 M Q) : P_fettleref4_Split_3 x3 x4 M Q := by
  intro f h3 h4; subst h3; subst h4
  unfold At
  exact rule (B := 1000) (N := 192) (ct := .no)
    [⟨1, fun a M => kfin Tryd.prog Tryd.f18.results.toList Q 1 a M, fun a M => kfin Tryd.prog Tryd.f18.results.toList Q 1 a M⟩]
    [] [1] (by kernel_rfl) (by kernel_rfl) (by kernel_rfl) (by kernel_rfl) (by kernel_rfl)
    ⟨fun _ _ _ h => h,
    trivial⟩
    (cast (by kernel_rfl) h)
def S_fettleref4_Split_4 (x0 x3 x4 x5 x6 x7 x8 : Value) (M : Store) (Q : Value → Store → Prop) : Prop :=
  OP (ixA 1 x0 x8) fun t45 =>
  OP (ld 1 false t45 M) fun t46 =>
  OP (binI .sub x8 x7) fun t50 =>
  OP (binI .add t50 (.int .i64 1)) fun t51 =>
  OP (bldS #[(.string ⟨#[]⟩), (.int .i64 0), (.int .i64 0), (.bool false)] [(0, 1), (1, 1), (2, 1), (3, 1)] [(1, x6), (2, t51)]) fun t52 =>
  LT (.pointer (some ⟨M.n, 0, none⟩)) (M.push (some (.inl ([(.string ⟨#[]⟩), (.int .i64 0), (.int .i64 0), (.bool false)], Ty.api_Word, true)))) fun t10 M1 =>
  OP (st 4 t10 t52 M1) fun M2 =>
  OP (binI .eql t46 (.int .u8 32)) fun t112 =>
  BR t112 (
  OP (binI .add x8 (.int .i64 1)) fun t118 =>
  P_fettleref4_Split_1 x0 x3 x4 x5 x6 x7 t118 M2 Q
  ) (
  OP (binI .eql t46 (.int .u8 9)) fun t115 =>
  BR t115 (
  OP (binI .add x8 (.int .i64 1)) fun t118_1 =>
  P_fettleref4_Split_1 x0 x3 x4 x5 x6 x7 t118_1 M2 Q
  ) (
  OP (binI .eql t46 (.int .u8 35)) fun t121 =>
  BR t121 (
  P_fettleref4_Split_5 x0 x3 x4 x5 x6 x7 x8 M2 Q
  ) (
  R F.fettleref4_sign #[t46] M2 fun t137 M3 =>
  BR t137 (
  OP (binI .add x8 (.int .i64 1)) fun t141 =>
  OP (slV 1 Ty.uint8 x0 (some x8) (some t141) M3) fun t142 =>
  OP (cvBS t142 M3) fun t143 =>
  OP (fad 0 t10) fun t144 =>
  OP (st 1 t144 t143 M3) fun M4 =>
  OP (ld 4 true t10 M4) fun t146 =>
  OP (bldL (.agg #[(.string ⟨#[]⟩), (.int .i64 0), (.int .i64 0), (.bool false)]) 4 1 [(0, t146)]) fun c =>
  LT (.slice (some ⟨M4.n, 0, none⟩) 1 1) (M4.push (some (.inl (c, Ty.api_Word, true)))) fun t147 M5 =>
  OP2 (appV 4 Ty.api_Word x5 t147 M5) fun t148 M6 =>
  OP (binI .add x8 (.int .i64 1)) fun t150 =>
  P_fettleref4_Split_1 x0 x3 x4 t148 x6 x7 t150 M6 Q
  ) (
  OP (binI .eql t46 (.int .u8 34)) fun t153 =>
  BR t153 (
  OP (ld 4 true t10 M3) fun t157 =>
  R F.fettleref4_quoted #[x0, x8, t157] M3 fun t158 M7 =>
  OP (tup t158 0) fun t159 =>
  OP (tup t158 1) fun t160 =>
  OP (tup t158 2) fun t161 =>
  OP (tup t158 3) fun t162 =>
  LT (.pointer (some ⟨M7.n, 0, none⟩)) (M7.push (some (.inl ([(.string ⟨#[]⟩), (.int .i64 0), (.int .i64 0), (.bool false)], Ty.api_Word, true)))) fun t11 M8 =>
  OP (st 4 t11 t159 M8) fun M9 =>
  OP (binI .neq t161 (.int .i64 0)) fun t164 =>
  BR t164 (
  OP (binI .sub t162 x7) fun t169 =>
  OP (binI .add t169 (.int .i64 1)) fun t170 =>
  R F.fettleref4_fault #[t161, x6, t170] M9 fun t171 M10 =>
  OP (st 3 x3 t171 M10) fun M11 =>
  OP (ld 3 true x3 M11) fun r3 =>
  NTs [(.slice none 0 0), r3] ∧ Q (.tuple #[(.slice none 0 0), r3]) M11
  ) (
  OP (ld 4 true t11 M9) fun t173 =>
  OP (bldL (.agg #[(.string ⟨#[]⟩), (.int .i64 0), (.int .i64 0), (.bool false)]) 4 1 [(0, t173)]) fun c_1 =>
  LT (.slice (some ⟨M9.n, 0, none⟩) 1 1) (M9.push (some (.inl (c_1, Ty.api_Word, true)))) fun t174 M12 =>
  OP2 (appV 4 Ty.api_Word x5 t174 M12) fun t175 M13 =>
  P_fettleref4_Split_1 x0 x3 x4 t175 x6 x7 t160 M13 Q
  )
  ) (
  OP (binI .lss t46 (.int .u8 33)) fun t179 =>
  BR t179 (
  OP (binI .sub x8 x7) fun t187 =>
  OP (binI .add t187 (.int .i64 1)) fun t188 =>
  R F.fettleref4_fault #[(.int .i64 1), x6, t188] M3 fun t189 M14 =>
  OP (st 3 x3 t189 M14) fun M15 =>
  OP (ld 3 true x3 M15) fun r3_1 =>
  NTs [(.slice none 0 0), r3_1] ∧ Q (.tuple #[(.slice none 0 0), r3_1]) M15
  ) (
  OP (binI .gtr t46 (.int .u8 126)) fun t182 =>
  BR t182 (
  OP (binI .sub x8 x7) fun t187_1 =>
  OP (binI .add t187_1 (.int .i64 1)) fun t188_1 =>
  R F.fettleref4_fault #[(.int .i64 1), x6, t188_1] M3 fun t189_1 M16 =>
  OP (st 3 x3 t189_1 M16) fun M17 =>
  OP (ld 3 true x3 M17) fun r3_2 =>
  NTs [(.slice none 0 0), r3_2] ∧ Q (.tuple #[(.slice none 0 0), r3_2]) M17
  ) (
  P_fettleref4_Split_6 x0 x3 x4 x5 x6 x7 x8 t10 x8 M3 Q
  )
  )
  )
  )
  )
  )
  )
theorem T_fettleref4_Split_4 {x0 x3 x4 x5 x6 x7 x8 : Value} {M : Store} {Q : Value → Store → Prop} (h : S_fettleref4_Split_4 x0 x3 x4 x5 x6 x7 x8 M Q) : P_fettleref4_Split_4 x0 x3 x4 x5 x6 x7 x8 M Q := by
  intro f h0 h3 h4 h5 h6 h7 h8; subst h0; subst h3; subst h4; subst h5; subst h6; subst h7; subst h8
  unfold At
  exact rule (B := 1000) (N := 192) (ct := (.two .no (.two .no (.two (.two .no (.two .no (.two .no (.two (.two (.here 1000) .no) (.two .no (.two .no (.two .no (.two .no (.two .no (.two .no (.two .no (.two (.two (.here 1001) .no) (.here 1002))))))))))))) .no))))
    [⟨1002, fun a M => dfr a.defers (P_fettleref4_Split_5 (a.get 0) (a.get 3) (a.get 4) (a.get 5) (a.get 6) (a.get 7) (a.get 8) M Q), fun a M => At Tryd.prog Ex none Tryd.f18 [1, 1, 1, 1, 0, 1, 0, 0, 1, 0, 1, 1, 1, 0, 1, 1, 1, 0, 0] a M Q⟩,
    ⟨1003, fun a M => dfr a.defers (P_fettleref4_Split_6 (a.get 0) (a.get 3) (a.get 4) (a.get 5) (a.get 6) (a.get 7) (a.get 8) (a.get 10) (a.get 15) M Q), fun a M => At Tryd.prog Ex none Tryd.f18 [1, 1, 1, 1, 0, 1, 0, 0, 1, 0, 1, 1, 1, 0, 1, 1, 1, 1, 1, 1, 1, 1, 1, 1, 1, 0, 0] a M Q⟩,
    ⟨1004, fun _ _ => False, fun a M => At Tryd.prog Ex none Tryd.f18 [1, 1, 1, 1, 0, 1, 0, 0, 1, 0, 1, 1, 1, 0, 1, 1, 1, 1, 1, 1, 1, 1, 1, 1, 1, 1] a M Q⟩,
    ⟨0, fun a M => dfr a.defers (P_fettleref4_Split_1 (a.get 0) (a.get 3) (a.get 4) (a.get 5) (a.get 6) (a.get 7) (a.get 8) M Q), fun a M => At Tryd.prog Ex none Tryd.f18 [1, 1, 1, 1, 0, 1, 0] a M Q⟩,
    ⟨1, fun a M => kfin Tryd.prog Tryd.f18.results.toList Q 1 a M, fun a M => kfin Tryd.prog Tryd.f18.results.toList Q 1 a M⟩]
    [1000, 1001, 1002] [0, 1] (by kernel_rfl) (by kernel_rfl) (by kernel_rfl) (by kernel_rfl) (by kernel_rfl)
    ⟨fun a M hn h => by obtain ⟨⟨n, f⟩, ds⟩ := a; have hn : n = 192 := hn; subst hn; obtain ⟨hd, h⟩ := dfr_iff h; have hd : ds = [] := hd; subst hd; exact h f rfl rfl rfl rfl rfl rfl rfl,
    fun a M hn h => by obtain ⟨⟨n, f⟩, ds⟩ := a; have hn : n = 192 := hn; subst hn; obtain ⟨hd, h⟩ := dfr_iff h; have hd : ds = [] := hd; subst hd; exact h f rfl rfl rfl rfl rfl rfl rfl rfl rfl,
    fun _ _ _ h => h.elim,
    fun a M hn h => by obtain ⟨⟨n, f⟩, ds⟩ := a; have hn : n = 192 := hn; subst hn; obtain ⟨hd, h⟩ := dfr_iff h; have hd : ds = [] := hd; subst hd; exact h f rfl rfl rfl rfl rfl rfl rfl,
    fun _ _ _ h => h,
    trivial⟩
    (cast (by kernel_rfl) h)
def S_fettleref4_Split_5 (x0 x3 x4 x5 x6 x7 x8 : Value) (M : Store) (Q : Value → Store → Prop) : Prop :=
  OP (lenV x0) fun t124 =>
  OP (binI .lss x8 t124) fun t125 =>
  BR t125 (
  OP (ixA 1 x0 x8) fun t129 =>
  OP (ld 1 false t129 M) fun t130 =>
  OP (binI .neq t130 (.int .u8 10)) fun t131 =>
  BR t131 (
  OP (binI .add x8 (.int .i64 1)) fun t134 =>
  P_fettleref4_Split_5 x0 x3 x4 x5 x6 x7 t134 M Q
  ) (
  P_fettleref4_Split_1 x0 x3 x4 x5 x6 x7 x8 M Q
  )
  ) (
  P_fettleref4_Split_1 x0 x3 x4 x5 x6 x7 x8 M Q
  )
theorem T_fettleref4_Split_5 {x0 x3 x4 x5 x6 x7 x8 : Value} {M : Store} {Q : Value → Store → Prop} (h : S_fettleref4_Split_5 x0 x3 x4 x5 x6 x7 x8 M Q) : P_fettleref4_Split_5 x0 x3 x4 x5 x6 x7 x8 M Q := by
  intro f h0 h3 h4 h5 h6 h7 h8; subst h0; subst h3; subst h4; subst h5; subst h6; subst h7; subst h8
  unfold At
  refine cast (by kernel_rfl) (CW.loop (P := Tryd.prog) (E := Ex) (rd := none) (x := sub (bodyOf Tryd.f18) [1, 1, 1, 1, 0, 1, 0, 0, 1, 0, 1, 1, 1, 0, 1, 1, 1, 0, 0, 0]) (a := ⟨⟨192, f⟩, []⟩) (M := M) (K := kcont Tryd.prog Ex none (bodyOf Tryd.f18) [1, 1, 1, 1, 0, 1, 0, 0, 1, 0, 1, 1, 1, 0, 1, 1, 1, 0, 0] (kfin Tryd.prog Tryd.f18.results.toList Q)) ?_)
  exact rule (B := 1000) (N := 192) (ct := .no)
    [⟨0, fun a M => dfr a.defers (P_fettleref4_Split_5 (a.get 0) (a.get 3) (a.get 4) (a.get 5) (a.get 6) (a.get 7) (a.get 8) M Q), fun a M => At Tryd.prog Ex none Tryd.f18 [1, 1, 1, 1, 0, 1, 0, 0, 1, 0, 1, 1, 1, 0, 1, 1, 1, 0, 0] a M Q⟩,
    ⟨7, fun a M => dfr a.defers (P_fettleref4_Split_1 (a.get 0) (a.get 3) (a.get 4) (a.get 5) (a.get 6) (a.get 7) (a.get 8) M Q), fun a M => At Tryd.prog Ex none Tryd.f18 [1, 1, 1, 1, 0, 1, 0] a M Q⟩]
    [] [0, 7] (by kernel_rfl) (by kernel_rfl) (by kernel_rfl) (by kernel_rfl) (by kernel_rfl)
    ⟨fun a M hn h => by obtain ⟨⟨n, f⟩, ds⟩ := a; have hn : n = 192 := hn; subst hn; obtain ⟨hd, h⟩ := dfr_iff h; have hd : ds = [] := hd; subst hd; exact h f rfl rfl rfl rfl rfl rfl rfl,
    fun a M hn h => by obtain ⟨⟨n, f⟩, ds⟩ := a; have hn : n = 192 := hn; subst hn; obtain ⟨hd, h⟩ := dfr_iff h; have hd : ds = [] := hd; subst hd; exact h f rfl rfl rfl rfl rfl rfl rfl,
    trivial⟩
    (cast (by kernel_rfl) h)
def S_fettleref4_Split_6 (x0 x3 x4 x5 x6 x7 x8 x10 x15 : Value) (M : Store) (Q : Value → Store → Prop) : Prop :=
  OP (lenV x0) fun t56 =>
  OP (binI .lss x15 t56) fun t57 =>
  BR t57 (
  OP (ixA 1 x0 x15) fun t61 =>
  OP (ld 1 false t61 M) fun t62 =>
  OP (binI .gtr t62 (.int .u8 32)) fun t63 =>
  BR t63 (
  OP (ixA 1 x0 x15) fun t68 =>
  OP (ld 1 false t68 M) fun t69 =>
  OP (binI .lss t69 (.int .u8 127)) fun t70 =>
  BR t70 (
  OP (ixA 1 x0 x15) fun t75 =>
  OP (ld 1 false t75 M) fun t76 =>
  OP (binI .neq t76 (.int .u8 34)) fun t77 =>
  BR t77 (
  OP (ixA 1 x0 x15) fun t82 =>
  OP (ld 1 false t82 M) fun t83 =>
  R F.fettleref4_sign #[t83] M fun t84 M1 =>
  OP (aun .not t84) fun t85 =>
  BR t85 (
  OP (binI .add x15 (.int .i64 1)) fun t88 =>
  P_fettleref4_Split_6 x0 x3 x4 x5 x6 x7 x8 x10 t88 M1 Q
  ) (
  P_fettleref4_Split_7 x0 x3 x4 x5 x6 x7 x8 x10 x15 M1 Q
  )
  ) (
  P_fettleref4_Split_7 x0 x3 x4 x5 x6 x7 x8 x10 x15 M Q
  )
  ) (
  P_fettleref4_Split_7 x0 x3 x4 x5 x6 x7 x8 x10 x15 M Q
  )
  ) (
  P_fettleref4_Split_7 x0 x3 x4 x5 x6 x7 x8 x10 x15 M Q
  )
  ) (
  P_fettleref4_Split_7 x0 x3 x4 x5 x6 x7 x8 x10 x15 M Q
  )
theorem T_fettleref4_Split_6 {x0 x3 x4 x5 x6 x7 x8 x10 x15 : Value} {M : Store} {Q : Value → Store → Prop} (h : S_fettleref4_Split_6 x0 x3 x4 x5 x6 x7 x8 x10 x15 M Q) : P_fettleref4_Split_6 x0 x3 x4 x5 x6 x7 x8 x10 x15 M Q := by
  intro f h0 h3 h4 h5 h6 h7 h8 h10 h15; subst h0; subst h3; subst h4; subst h5; subst h6; subst h7; subst h8; subst h10; subst h15
  unfold At
  refine cast (by kernel_rfl) (CW.loop (P := Tryd.prog) (E := Ex) (rd := none) (x := sub (bodyOf Tryd.f18) [1, 1, 1, 1, 0, 1, 0, 0, 1, 0, 1, 1, 1, 0, 1, 1, 1, 1, 1, 1, 1, 1, 1, 1, 1, 0, 0, 0]) (a := ⟨⟨192, f⟩, []⟩) (M := M) (K := kcont Tryd.prog Ex none (bodyOf Tryd.f18) [1, 1, 1, 1, 0, 1, 0, 0, 1, 0, 1, 1, 1, 0, 1, 1, 1, 1, 1, 1, 1, 1, 1, 1, 1, 0, 0] (kfin Tryd.prog Tryd.f18.results.toList Q)) ?_)
  exact rule (B := 1000) (N := 192) (ct := .no)
    [⟨0, fun a M => dfr a.defers (P_fettleref4_Split_6 (a.get 0) (a.get 3) (a.get 4) (a.get 5) (a.get 6) (a.get 7) (a.get 8) (a.get 10) (a.get 15) M Q), fun a M => At Tryd.prog Ex none Tryd.f18 [1, 1, 1, 1, 0, 1, 0, 0, 1, 0, 1, 1, 1, 0, 1, 1, 1, 1, 1, 1, 1, 1, 1, 1, 1, 0, 0] a M Q⟩,
    ⟨5, fun a M => dfr a.defers (P_fettleref4_Split_7 (a.get 0) (a.get 3) (a.get 4) (a.get 5) (a.get 6) (a.get 7) (a.get 8) (a.get 10) (a.get 15) M Q), fun a M => At Tryd.prog Ex none Tryd.f18 [1, 1, 1, 1, 0, 1, 0, 0, 1, 0, 1, 1, 1, 0, 1, 1, 1, 1, 1, 1, 1, 1, 1, 1, 1, 1] a M Q⟩]
    [] [0, 5] (by kernel_rfl) (by kernel_rfl) (by kernel_rfl) (by kernel_rfl) (by kernel_rfl)
    ⟨fun a M hn h => by obtain ⟨⟨n, f⟩, ds⟩ := a; have hn : n = 192 := hn; subst hn; obtain ⟨hd, h⟩ := dfr_iff h; have hd : ds = [] := hd; subst hd; exact h f rfl rfl rfl rfl rfl rfl rfl rfl rfl,
    fun a M hn h => by obtain ⟨⟨n, f⟩, ds⟩ := a; have hn : n = 192 := hn; subst hn; obtain ⟨hd, h⟩ := dfr_iff h; have hd : ds = [] := hd; subst hd; exact h f rfl rfl rfl rfl rfl rfl rfl rfl rfl,
    trivial⟩
    (cast (by kernel_rfl) h)
def S_fettleref4_Split_7 (x0 x3 x4 x5 x6 x7 x8 x10 x15 : Value) (M : Store) (Q : Value → Store → Prop) : Prop :=
  OP (slV 1 Ty.uint8 x0 (some x8) (some x15) M) fun t92 =>
  OP (cvBS t92 M) fun t93 =>
  OP (fad 0 x10) fun t94 =>
  OP (st 1 t94 t93 M) fun M1 =>
  OP (fad 0 x10) fun t95 =>
  OP (ld 1 false t95 M1) fun t96 =>
  OP (lenS t96) fun t97 =>
  OP (binI .gtr t97 (.int .i64 64)) fun t98 =>
  BR t98 (
  OP (binI .sub x8 x7) fun t102 =>
  OP (binI .add t102 (.int .i64 1)) fun t103 =>
  R F.fettleref4_fault #[(.int .i64 3), x6, t103] M1 fun t104 M2 =>
  OP (st 3 x3 t104 M2) fun M3 =>
  OP (ld 3 true x3 M3) fun r3 =>
  NTs [(.slice none 0 0), r3] ∧ Q (.tuple #[(.slice none 0 0), r3]) M3
  ) (
  OP (ld 4 true x10 M1) fun t106 =>
  OP (bldL (.agg #[(.string ⟨#[]⟩), (.int .i64 0), (.int .i64 0), (.bool false)]) 4 1 [(0, t106)]) fun c =>
  LT (.slice (some ⟨M1.n, 0, none⟩) 1 1) (M1.push (some (.inl (c, Ty.api_Word, true)))) fun t107 M4 =>
  OP2 (appV 4 Ty.api_Word x5 t107 M4) fun t108 M5 =>
  P_fettleref4_Split_1 x0 x3 x4 t108 x6 x7 x15 M5 Q
  )
theorem T_fettleref4_Split_7 {x0 x3 x4 x5 x6 x7 x8 x10 x15 : Value} {M : Store} {Q : Value → Store → Prop} (h : S_fettleref4_Split_7 x0 x3 x4 x5 x6 x7 x8 x10 x15 M Q) : P_fettleref4_Split_7 x0 x3 x4 x5 x6 x7 x8 x10 x15 M Q := by
  intro f h0 h3 h4 h5 h6 h7 h8 h10 h15; subst h0; subst h3; subst h4; subst h5; subst h6; subst h7; subst h8; subst h10; subst h15
  unfold At
  exact rule (B := 1000) (N := 192) (ct := .no)
    [⟨0, fun a M => dfr a.defers (P_fettleref4_Split_1 (a.get 0) (a.get 3) (a.get 4) (a.get 5) (a.get 6) (a.get 7) (a.get 8) M Q), fun a M => At Tryd.prog Ex none Tryd.f18 [1, 1, 1, 1, 0, 1, 0] a M Q⟩,
    ⟨1, fun a M => kfin Tryd.prog Tryd.f18.results.toList Q 1 a M, fun a M => kfin Tryd.prog Tryd.f18.results.toList Q 1 a M⟩]
    [] [0, 1] (by kernel_rfl) (by kernel_rfl) (by kernel_rfl) (by kernel_rfl) (by kernel_rfl)
    ⟨fun a M hn h => by obtain ⟨⟨n, f⟩, ds⟩ := a; have hn : n = 192 := hn; subst hn; obtain ⟨hd, h⟩ := dfr_iff h; have hd : ds = [] := hd; subst hd; exact h f rfl rfl rfl rfl rfl rfl rfl,
    fun _ _ _ h => h,
    trivial⟩
    (cast (by kernel_rfl) h)
def S_fettleref4_sign (x0 : Value) (M : Store) (Q : Value → Store → Prop) : Prop :=
  OP (binI .eql x0 (.int .u8 58)) fun t4 =>
  BR t4 (
  NTs [(.bool true)] ∧ Q (.bool true) M
  ) (
  OP (binI .eql x0 (.int .u8 124)) fun t7 =>
  BR t7 (
  NTs [(.bool true)] ∧ Q (.bool true) M
  ) (
  OP (binI .eql x0 (.int .u8 61)) fun t11 =>
  BR t11 (
  NTs [(.bool true)] ∧ Q (.bool true) M
  ) (
  OP (binI .eql x0 (.int .u8 59)) fun t15 =>
  BR t15 (
  NTs [(.bool true)] ∧ Q (.bool true) M
  ) (
  OP (binI .eql x0 (.int .u8 44)) fun t19 =>
  NTs [t19] ∧ Q t19 M
  )
  )
  )
  )
theorem T_fettleref4_sign {x0 : Value} {M : Store} {Q : Value → Store → Prop} (h : S_fettleref4_sign x0 M Q) : R F.fettleref4_sign #[x0] M Q := by
  refine runs_of (c := bodyOf Tryd.f37) Tryd.func37 rfl (by kernel_rfl) (by kernel_rfl) ?_
  unfold At
  exact rule (B := 1000) (N := 21) (ct := .no)
    [⟨1, fun a M => kfin Tryd.prog Tryd.f37.results.toList Q 1 a M, fun a M => kfin Tryd.prog Tryd.f37.results.toList Q 1 a M⟩]
    [] [1] (by kernel_rfl) (by kernel_rfl) (by kernel_rfl) (by kernel_rfl) (by kernel_rfl)
    ⟨fun _ _ _ h => h,
    trivial⟩
    (cast (by kernel_rfl) h)
def P_fettleref4_quoted_1 (x0 x1 x5 x6 x10 x11 : Value) (M : Store) (Q : Value → Store → Prop) : Prop :=
  ∀ f : Nat → Value, f 0 = x0 → f 1 = x1 → f 5 = x5 → f 6 = x6 → f 10 = x10 → f 11 = x11 → At Tryd.prog Ex none Tryd.f38 [1, 1, 0, 0] ⟨⟨87, f⟩, []⟩ M Q
def P_fettleref4_quoted_2 (x0 x1 x5 x6 x10 x11 : Value) (M : Store) (Q : Value → Store → Prop) : Prop :=
  ∀ f : Nat → Value, f 0 = x0 → f 1 = x1 → f 5 = x5 → f 6 = x6 → f 10 = x10 → f 11 = x11 → At Tryd.prog Ex none Tryd.f38 [1, 1, 0, 0, 0, 1] ⟨⟨87, f⟩, []⟩ M Q
def P_fettleref4_quoted_3 (x0 x1 x5 x6 x10 x11 : Value) (M : Store) (Q : Value → Store → Prop) : Prop :=
  ∀ f : Nat → Value, f 0 = x0 → f 1 = x1 → f 5 = x5 → f 6 = x6 → f 10 = x10 → f 11 = x11 → At Tryd.prog Ex none Tryd.f38 [1, 1, 1] ⟨⟨87, f⟩, []⟩ M Q
def S_fettleref4_quoted (x0 x1 x2 : Value) (M : Store) (Q : Value → Store → Prop) : Prop :=
  OP (boxv x2) fun c =>
  LT (.pointer (some ⟨M.n, 0, none⟩)) (M.push (some (.inl (c, Ty.api_Word, true)))) fun t5 M1 =>
  LT (.pointer (some ⟨M1.n, 0, none⟩)) (M1.push (some (.inl ([(.string ⟨#[]⟩), (.int .i64 0), (.int .i64 0), (.bool false)], Ty.api_Word, true)))) fun t6 M2 =>
  OP (binI .add x1 (.int .i64 1)) fun t13 =>
  P_fettleref4_quoted_1 x0 x1 t5 t6 t13 (.int .i64 (-1)) M2 Q
theorem T_fettleref4_quoted {x0 x1 x2 : Value} {M : Store} {Q : Value → Store → Prop} (h : S_fettleref4_quoted x0 x1 x2 M Q) : R F.fettleref4_quoted #[x0, x1, x2] M Q := by
  refine runs_of (c := bodyOf Tryd.f38) Tryd.func38 rfl (by kernel_rfl) (by kernel_rfl) ?_
  unfold At
  exact rule (B := 1000) (N := 87) (ct := (.two .no (.two .no (.two (.two (.here 1000) .no) (.here 1001)))))
    [⟨1002, fun a M => dfr a.defers (P_fettleref4_quoted_1 (a.get 0) (a.get 1) (a.get 5) (a.get 6) (a.get 10) (a.get 11) M Q), fun a M => At Tryd.prog Ex none Tryd.f38 [1, 1, 0, 0] a M Q⟩,
    ⟨1003, fun _ _ => False, fun a M => At Tryd.prog Ex none Tryd.f38 [1, 1, 1] a M Q⟩]
    [1000, 1001] [] (by kernel_rfl) (by kernel_rfl) (by kernel_rfl) (by kernel_rfl) (by kernel_rfl)
    ⟨fun a M hn h => by obtain ⟨⟨n, f⟩, ds⟩ := a; have hn : n = 87 := hn; subst hn; obtain ⟨hd, h⟩ := dfr_iff h; have hd : ds = [] := hd; subst hd; exact h f rfl rfl rfl rfl rfl rfl,
    fun _ _ _ h => h.elim,
    trivial⟩
    (cast (by kernel_rfl) h)
def S_fettleref4_quoted_1 (x0 x1 x5 x6 x10 x11 : Value) (M : Store) (Q : Value → Store → Prop) : Prop :=
  OP (lenV x0) fun t16 =>
  OP (binI .lss x10 t16) fun t17 =>
  BR t17 (
  OP (ixA 1 x0 x10) fun t21 =>
  OP (ld 1 false t21 M) fun t22 =>
  OP (binI .neq t22 (.int .u8 34)) fun t23 =>
  BR t23 (
  OP (ixA 1 x0 x10) fun t28 =>
  OP (ld 1 false t28 M) fun t29 =>
  OP (binI .neq t29 (.int .u8 10)) fun t30 =>
  BR t30 (
  P_fettleref4_quoted_2 x0 x1 x5 x6 x10 x11 M Q
  ) (
  P_fettleref4_quoted_3 x0 x1 x5 x6 x10 x11 M Q
  )
  ) (
  P_fettleref4_quoted_3 x0 x1 x5 x6 x10 x11 M Q
  )
  ) (
  P_fettleref4_quoted_3 x0 x1 x5 x6 x10 x11 M Q
  )
theorem T_fettleref4_quoted_1 {x0 x1 x5 x6 x10 x11 : Value} {M : Store} {Q : Value → Store → Prop} (h : S_fettleref4_quoted_1 x0 x1 x5 x6 x10 x11 M Q) : P_fettleref4_quoted_1 x0 x1 x5 x6 x10 x11 M Q := by
  intro f h0 h1 h5 h6 h10 h11; subst h0; subst h1; subst h5; subst h6; subst h10; subst h11
  unfold At
  refine cast (by kernel_rfl) (CW.loop (P := Tryd.prog) (E := Ex) (rd := none) (x := sub (bodyOf Tryd.f38) [1, 1, 0, 0, 0]) (a := ⟨⟨87, f⟩, []⟩) (M := M) (K := kcont Tryd.prog Ex none (bodyOf Tryd.f38) [1, 1, 0, 0] (kfin Tryd.prog Tryd.f38.results.toList Q)) ?_)
  exact rule (B := 1000) (N := 87) (ct := (.two .no (.here 1000)))
    [⟨1002, fun a M => dfr a.defers (P_fettleref4_quoted_2 (a.get 0) (a.get 1) (a.get 5) (a.get 6) (a.get 10) (a.get 11) M Q), fun a M => At Tryd.prog Ex none Tryd.f38 [1, 1, 0, 0, 0, 1] a M Q⟩,
    ⟨2, fun a M => dfr a.defers (P_fettleref4_quoted_3 (a.get 0) (a.get 1) (a.get 5) (a.get 6) (a.get 10) (a.get 11) M Q), fun a M => At Tryd.prog Ex none Tryd.f38 [1, 1, 1] a M Q⟩]
    [1000] [2] (by kernel_rfl) (by kernel_rfl) (by kernel_rfl) (by kernel_rfl) (by kernel_rfl)
    ⟨fun a M hn h => by obtain ⟨⟨n, f⟩, ds⟩ := a; have hn : n = 87 := hn; subst hn; obtain ⟨hd, h⟩ := dfr_iff h; have hd : ds = [] := hd; subst hd; exact h f rfl rfl rfl rfl rfl rfl,
    fun a M hn h => by obtain ⟨⟨n, f⟩, ds⟩ := a; have hn : n = 87 := hn; subst hn; obtain ⟨hd, h⟩ := dfr_iff h; have hd : ds = [] := hd; subst hd; exact h f rfl rfl rfl rfl rfl rfl,
    trivial⟩
    (cast (by kernel_rfl) h)
def S_fettleref4_quoted_2 (x0 x1 x5 x6 x10 x11 : Value) (M : Store) (Q : Value → Store → Prop) : Prop :=
  OP (binI .lss x11 (.int .i64 0)) fun t33 =>
  BR t33 (
  OP (ixA 1 x0 x10) fun t37 =>
  OP (ld 1 false t37 M) fun t38 =>
  OP (binI .lss t38 (.int .u8 32)) fun t39 =>
  BR3 t39 (
  OP (binI .add x10 (.int .i64 1)) fun t50 =>
  P_fettleref4_quoted_1 x0 x1 x5 x6 t50 x10 M Q
  ) (
  OP (ixA 1 x0 x10) fun t43 =>
  OP (ld 1 false t43 M) fun t44 =>
  OP (binI .gtr t44 (.int .u8 126)) fun t45 =>
  BR t45 (
  OP (binI .add x10 (.int .i64 1)) fun t50_1 =>
  P_fettleref4_quoted_1 x0 x1 x5 x6 t50_1 x10 M Q
  ) (
  OP (binI .add x10 (.int .i64 1)) fun t50_2 =>
  P_fettleref4_quoted_1 x0 x1 x5 x6 t50_2 x11 M Q
  )
  ) (
  BR t39 (
  OP (binI .add x10 (.int .i64 1)) fun t50_3 =>
  P_fettleref4_quoted_1 x0 x1 x5 x6 t50_3 x10 M Q
  ) (
  BR undef (
  OP (binI .add x10 (.int .i64 1)) fun t50_4 =>
  P_fettleref4_quoted_1 x0 x1 x5 x6 t50_4 x10 M Q
  ) (
  OP (binI .add x10 (.int .i64 1)) fun t50_5 =>
  P_fettleref4_quoted_1 x0 x1 x5 x6 t50_5 x11 M Q
  )
  )
  )
  ) (
  OP (binI .add x10 (.int .i64 1)) fun t50_6 =>
  P_fettleref4_quoted_1 x0 x1 x5 x6 t50_6 x11 M Q
  )
theorem T_fettleref4_quoted_2 {x0 x1 x5 x6 x10 x11 : Value} {M : Store} {Q : Value → Store → Prop} (h : S_fettleref4_quoted_2 x0 x1 x5 x6 x10 x11 M Q) : P_fettleref4_quoted_2 x0 x1 x5 x6 x10 x11 M Q := by
  intro f h0 h1 h5 h6 h10 h11; subst h0; subst h1; subst h5; subst h6; subst h10; subst h11
  unfold At
  exact rule (B := 1000) (N := 87) (ct := .no)
    [⟨0, fun a M => dfr a.defers (P_fettleref4_quoted_1 (a.get 0) (a.get 1) (a.get 5) (a.get 6) (a.get 10) (a.get 11) M Q), fun a M => At Tryd.prog Ex none Tryd.f38 [1, 1, 0, 0] a M Q⟩]
    [] [0] (by kernel_rfl) (by kernel_rfl) (by kernel_rfl) (by kernel_rfl) (by kernel_rfl)
    ⟨fun a M hn h => by obtain ⟨⟨n, f⟩, ds⟩ := a; have hn : n = 87 := hn; subst hn; obtain ⟨hd, h⟩ := dfr_iff h; have hd : ds = [] := hd; subst hd; exact h f rfl rfl rfl rfl rfl rfl,
    trivial⟩
    (cast (by kernel_rfl) h)
def S_fettleref4_quoted_3 (x0 x1 x5 x6 x10 x11 : Value) (M : Store) (Q : Value → Store → Prop) : Prop :=
  OP (lenV x0) fun t53 =>
  OP (binI .eql x10 t53) fun t54 =>
  BR t54 (
  OP (ld 4 true x5 M) fun t62 =>
  OP (st 4 x6 t62 M) fun M1 =>
  OP (ld 4 true x6 M1) fun r6 =>
  NTs [r6, (.int .i64 0), (.int .i64 2), x1] ∧ Q (.tuple #[r6, (.int .i64 0), (.int .i64 2), x1]) M1
  ) (
  OP (ixA 1 x0 x10) fun t58 =>
  OP (ld 1 false t58 M) fun t59 =>
  OP (binI .eql t59 (.int .u8 10)) fun t60 =>
  BR t60 (
  OP (ld 4 true x5 M) fun t62_1 =>
  OP (st 4 x6 t62_1 M) fun M2 =>
  OP (ld 4 true x6 M2) fun r6_1 =>
  NTs [r6_1, (.int .i64 0), (.int .i64 2), x1] ∧ Q (.tuple #[r6_1, (.int .i64 0), (.int .i64 2), x1]) M2
  ) (
  OP (binI .add x1 (.int .i64 1)) fun t66 =>
  OP (slV 1 Ty.uint8 x0 (some t66) (some x10) M) fun t68 =>
  OP (cvBS t68 M) fun t69 =>
  OP (fad 0 x5) fun t70 =>
  OP (st 1 t70 t69 M) fun M3 =>
  OP (fad 3 x5) fun t71 =>
  OP (st 1 t71 (.bool true) M3) fun M4 =>
  OP (fad 0 x5) fun t73 =>
  OP (ld 1 false t73 M4) fun t74 =>
  OP (lenS t74) fun t75 =>
  OP (binI .gtr t75 (.int .i64 64)) fun t76 =>
  BR t76 (
  OP (ld 4 true x5 M4) fun t77 =>
  OP (st 4 x6 t77 M4) fun M5 =>
  OP (ld 4 true x6 M5) fun r6_2 =>
  NTs [r6_2, (.int .i64 0), (.int .i64 3), x1] ∧ Q (.tuple #[r6_2, (.int .i64 0), (.int .i64 3), x1]) M5
  ) (
  OP (binI .geq x11 (.int .i64 0)) fun t81 =>
  BR t81 (
  OP (ld 4 true x5 M4) fun t82 =>
  OP (st 4 x6 t82 M4) fun M6 =>
  OP (ld 4 true x6 M6) fun r6_3 =>
  NTs [r6_3, (.int .i64 0), (.int .i64 1), x11] ∧ Q (.tuple #[r6_3, (.int .i64 0), (.int .i64 1), x11]) M6
  ) (
  OP (ld 4 true x5 M4) fun t84 =>
  OP (binI .add x10 (.int .i64 1)) fun t86 =>
  OP (st 4 x6 t84 M4) fun M7 =>
  OP (ld 4 true x6 M7) fun r6_4 =>
  NTs [r6_4, t86, (.int .i64 0), (.int .i64 0)] ∧ Q (.tuple #[r6_4, t86, (.int .i64 0), (.int .i64 0)]) M7
  )
  )
  )
  )
theorem T_fettleref4_quoted_3 {x0 x1 x5 x6 x10 x11 : Value} {M : Store} {Q : Value → Store → Prop} (h : S_fettleref4_quoted_3 x0 x1 x5 x6 x10 x11 M Q) : P_fettleref4_quoted_3 x0 x1 x5 x6 x10 x11 M Q := by
  intro f h0 h1 h5 h6 h10 h11; subst h0; subst h1; subst h5; subst h6; subst h10; subst h11
  unfold At
  exact rule (B := 1000) (N := 87) (ct := .no)
    [⟨1, fun a M => kfin Tryd.prog Tryd.f38.results.toList Q 1 a M, fun a M => kfin Tryd.prog Tryd.f38.results.toList Q 1 a M⟩]
    [] [1] (by kernel_rfl) (by kernel_rfl) (by kernel_rfl) (by kernel_rfl) (by kernel_rfl)
    ⟨fun _ _ _ h => h,
    trivial⟩
    (cast (by kernel_rfl) h)
def S_fettleref4_fault (x0 x1 x2 : Value) (M : Store) (Q : Value → Store → Prop) : Prop :=
  LT (.pointer (some ⟨M.n, 0, none⟩)) (M.push (some (.inl ([(.int .i64 0), (.int .i64 0), (.int .i64 0)], Ty.api_Fault, true)))) fun t6 M1 =>
  OP (bldS #[(.int .i64 0), (.int .i64 0), (.int .i64 0)] [(0, 1), (1, 1), (2, 1)] [(0, x0), (1, x1), (2, x2)]) fun t10 =>
  OP (st 3 t6 t10 M1) fun M2 =>
  OP (ld 3 true t6 M2) fun r6 =>
  NTs [r6] ∧ Q r6 M2
theorem T_fettleref4_fault {x0 x1 x2 : Value} {M : Store} {Q : Value → Store → Prop} (h : S_fettleref4_fault x0 x1 x2 M Q) : R F.fettleref4_fault #[x0, x1, x2] M Q := by
  refine runs_of (c := bodyOf Tryd.f39) Tryd.func39 rfl (by kernel_rfl) (by kernel_rfl) ?_
  unfold At
  exact rule (B := 1000) (N := 11) (ct := .no)
    [⟨1, fun a M => kfin Tryd.prog Tryd.f39.results.toList Q 1 a M, fun a M => kfin Tryd.prog Tryd.f39.results.toList Q 1 a M⟩]
    [] [1] (by kernel_rfl) (by kernel_rfl) (by kernel_rfl) (by kernel_rfl) (by kernel_rfl)
    ⟨fun _ _ _ h => h,
    trivial⟩
    (cast (by kernel_rfl) h)
end Go.G
