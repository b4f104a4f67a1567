/-  -/
import Derived.Test.YtjchjhkhopcalaaDoorPGN
open Go.RowKit
namespace Go.G
open Go.Ab Go.Proofs
set_option linter.unusedVariables false
set_option maxRecDepth 100000
def P_fettlelaw6_ActsOwn_1 (x0 x1 x5 x19 x20 x21 : Value) (M : Store) (Q : Value → Store → Prop) : Prop :=
  ∀ f : Nat → Value, f 0 = x0 → f 1 = x1 → f 5 = x5 → f 19 = x19 → f 20 = x20 → f 21 = x21 → At Tryd.prog Ex none Tryd.f5 [1, 1, 1, 0, 1, 0] ⟨⟨88, f⟩, []⟩ M Q
def P_fettlelaw6_ActsOwn_2 (x0 x1 x5 x19 x20 x21 : Value) (M : Store) (Q : Value → Store → Prop) : Prop :=
  ∀ f : Nat → Value, f 0 = x0 → f 1 = x1 → f 5 = x5 → f 19 = x19 → f 20 = x20 → f 21 = x21 → At Tryd.prog Ex none Tryd.f5 [1, 1, 1, 0, 1, 0, 0, 1, 1] ⟨⟨88, f⟩, []⟩ M Q
def P_fettlelaw6_ActsOwn_3 (x0 x1 x5 : Value) (M : Store) (Q : Value → Store → Prop) : Prop :=
  ∀ f : Nat → Value, f 0 = x0 → f 1 = x1 → f 5 = x5 → At Tryd.prog Ex none Tryd.f5 [1, 1, 1, 1] ⟨⟨88, f⟩, []⟩ M Q
def P_fettlelaw6_ActsOwn_4 (x1 x5 x44 x45 x46 : Value) (M : Store) (Q : Value → Store → Prop) : Prop :=
  ∀ f : Nat → Value, f 1 = x1 → f 5 = x5 → f 44 = x44 → f 45 = x45 → f 46 = x46 → At Tryd.prog Ex none Tryd.f5 [1, 1, 1, 1, 0, 1, 0] ⟨⟨88, f⟩, []⟩ M Q
def P_fettlelaw6_ActsOwn_5 (x1 x5 x44 x45 x46 : Value) (M : Store) (Q : Value → Store → Prop) : Prop :=
  ∀ f : Nat → Value, f 1 = x1 → f 5 = x5 → f 44 = x44 → f 45 = x45 → f 46 = x46 → At Tryd.prog Ex none Tryd.f5 [1, 1, 1, 1, 0, 1, 0, 0, 1, 1] ⟨⟨88, f⟩, []⟩ M Q
def P_fettlelaw6_ActsOwn_6 (M : Store) (Q : Value → Store → Prop) : Prop :=
  ∀ f : Nat → Value, At Tryd.prog Ex none Tryd.f5 [1, 1, 1, 1, 1] ⟨⟨88, f⟩, []⟩ M Q
def P_fettlelaw6_ActsOwn_7 (x1 x5 x10 x44 x45 x46 x57 x58 : Value) (M : Store) (Q : Value → Store → Prop) : Prop :=
  ∀ f : Nat → Value, f 1 = x1 → f 5 = x5 → f 10 = x10 → f 44 = x44 → f 45 = x45 → f 46 = x46 → f 57 = x57 → f 58 = x58 → At Tryd.prog Ex none Tryd.f5 [1, 1, 1, 1, 0, 1, 0, 0, 1, 1, 0, 0, 1, 1, 0, 1, 0] ⟨⟨88, f⟩, []⟩ M Q
def P_fettlelaw6_ActsOwn_8 (x1 x5 x10 x44 x45 x46 : Value) (M : Store) (Q : Value → Store → Prop) : Prop :=
  ∀ f : Nat → Value, f 1 = x1 → f 5 = x5 → f 10 = x10 → f 44 = x44 → f 45 = x45 → f 46 = x46 → At Tryd.prog Ex none Tryd.f5 [1, 1, 1, 1, 0, 1, 0, 0, 1, 1, 0, 0, 1, 1, 1] ⟨⟨88, f⟩, []⟩ M Q
def P_fettlelaw6_ActsOwn_9 (x1 x5 x44 x45 x46 x71 x72 x73 : Value) (M : Store) (Q : Value → Store → Prop) : Prop :=
  ∀ f : Nat → Value, f 1 = x1 → f 5 = x5 → f 44 = x44 → f 45 = x45 → f 46 = x46 → f 71 = x71 → f 72 = x72 → f 73 = x73 → At Tryd.prog Ex none Tryd.f5 [1, 1, 1, 1, 0, 1, 0, 0, 1, 1, 0, 0, 1, 1, 1, 1, 1, 0] ⟨⟨88, f⟩, []⟩ M Q
def P_fettlelaw6_ActsOwn_10 (x1 x5 x44 x45 x46 x71 x72 x73 : Value) (M : Store) (Q : Value → Store → Prop) : Prop :=
  ∀ f : Nat → Value, f 1 = x1 → f 5 = x5 → f 44 = x44 → f 45 = x45 → f 46 = x46 → f 71 = x71 → f 72 = x72 → f 73 = x73 → At Tryd.prog Ex none Tryd.f5 [1, 1, 1, 1, 0, 1, 0, 0, 1, 1, 0, 0, 1, 1, 1, 1, 1, 0, 0, 1, 1] ⟨⟨88, f⟩, []⟩ M Q
def P_fettlelaw6_ActsOwn_11 (x1 x5 x44 x45 x46 : Value) (M : Store) (Q : Value → Store → Prop) : Prop :=
  ∀ f : Nat → Value, f 1 = x1 → f 5 = x5 → f 44 = x44 → f 45 = x45 → f 46 = x46 → At Tryd.prog Ex none Tryd.f5 [1, 1, 1, 1, 0, 1, 0, 0, 1, 1, 1] ⟨⟨88, f⟩, []⟩ M Q
def S_fettlelaw6_ActsOwn (x0 x1 : Value) (M : Store) (Q : Value → Store → Prop) : Prop :=
  OP (lenV x1) fun t16 =>
  OP (binI .gtr t16 (.int .i64 8)) fun t17 =>
  BR t17 (
  R F.fettlelaw6_awake #[] M fun t18 M1 =>
  NTs [t18] ∧ Q t18 M1
  ) (
  OP (lenV x1) fun t20 =>
  P_fettlelaw6_ActsOwn_1 x0 x1 (.slice none 0 0) x1 t20 (.int .i64 0) M Q
  )
theorem T_fettlelaw6_ActsOwn {x0 x1 : Value} {M : Store} {Q : Value → Store → Prop} (h : S_fettlelaw6_ActsOwn x0 x1 M Q) : R F.fettlelaw6_ActsOwn #[x0, x1] M Q := by
  refine runs_of (c := bodyOf Tryd.f5) Tryd.func5 rfl (by kernel_rfl) (by kernel_rfl) ?_
  unfold At
  exact rule (B := 1000) (N := 88) (ct := (.two .no (.two .no (.two .no (.two (.two .no (.two (.here 1000) .no)) (.here 1001))))))
    [⟨1002, fun a M => dfr a.defers (P_fettlelaw6_ActsOwn_1 (a.get 0) (a.get 1) (a.get 5) (a.get 19) (a.get 20) (a.get 21) M Q), fun a M => At Tryd.prog Ex none Tryd.f5 [1, 1, 1, 0, 1, 0] a M Q⟩,
    ⟨1003, fun _ _ => False, fun a M => At Tryd.prog Ex none Tryd.f5 [1, 1, 1, 1] a M Q⟩,
    ⟨1, fun a M => kfin Tryd.prog Tryd.f5.results.toList Q 1 a M, fun a M => kfin Tryd.prog Tryd.f5.results.toList Q 1 a M⟩]
    [1000, 1001] [1] (by kernel_rfl) (by kernel_rfl) (by kernel_rfl) (by kernel_rfl) (by kernel_rfl)
    ⟨fun a M hn h => by obtain ⟨⟨n, f⟩, ds⟩ := a; have hn : n = 88 := hn; subst hn; obtain ⟨hd, h⟩ := dfr_iff h; have hd : ds = [] := hd; subst hd; exact h f rfl rfl rfl rfl rfl rfl,
    fun _ _ _ h => h.elim,
    fun _ _ _ h => h,
    trivial⟩
    (cast (by kernel_rfl) h)
def S_fettlelaw6_ActsOwn_1 (x0 x1 x5 x19 x20 x21 : Value) (M : Store) (Q : Value → Store → Prop) : Prop :=
  OP (binI .lss x21 x20) fun t22 =>
  BR t22 (
  P_fettlelaw6_ActsOwn_2 x0 x1 x5 x19 x20 x21 M Q
  ) (
  P_fettlelaw6_ActsOwn_3 x0 x1 x5 M Q
  )
theorem T_fettlelaw6_ActsOwn_1 {x0 x1 x5 x19 x20 x21 : Value} {M : Store} {Q : Value → Store → Prop} (h : S_fettlelaw6_ActsOwn_1 x0 x1 x5 x19 x20 x21 M Q) : P_fettlelaw6_ActsOwn_1 x0 x1 x5 x19 x20 x21 M Q := by
  intro f h0 h1 h5 h19 h20 h21; subst h0; subst h1; subst h5; subst h19; subst h20; subst h21
  unfold At
  refine cast (by kernel_rfl) (CW.loop (P := Tryd.prog) (E := Ex) (rd := none) (x := sub (bodyOf Tryd.f5) [1, 1, 1, 0, 1, 0, 0]) (a := ⟨⟨88, f⟩, []⟩) (M := M) (K := kcont Tryd.prog Ex none (bodyOf Tryd.f5) [1, 1, 1, 0, 1, 0] (kfin Tryd.prog Tryd.f5.results.toList Q)) ?_)
  exact rule (B := 1000) (N := 88) (ct := (.two .no (.two .no (.here 1000))))
    [⟨1002, fun a M => dfr a.defers (P_fettlelaw6_ActsOwn_2 (a.get 0) (a.get 1) (a.get 5) (a.get 19) (a.get 20) (a.get 21) M Q), fun a M => At Tryd.prog Ex none Tryd.f5 [1, 1, 1, 0, 1, 0, 0, 1, 1] a M Q⟩,
    ⟨2, fun a M => dfr a.defers (P_fettlelaw6_ActsOwn_3 (a.get 0) (a.get 1) (a.get 5) M Q), fun a M => At Tryd.prog Ex none Tryd.f5 [1, 1, 1, 1] a M Q⟩]
    [1000] [2] (by kernel_rfl) (by kernel_rfl) (by kernel_rfl) (by kernel_rfl) (by kernel_rfl)
    ⟨fun a M hn h => by obtain ⟨⟨n, f⟩, ds⟩ := a; have hn : n = 88 := hn; subst hn; obtain ⟨hd, h⟩ := dfr_iff h; have hd : ds = [] := hd; subst hd; exact h f rfl rfl rfl rfl rfl rfl,
    fun a M hn h => by obtain ⟨⟨n, f⟩, ds⟩ := a; have hn : n = 88 := hn; subst hn; obtain ⟨hd, h⟩ := dfr_iff h; have hd : ds = [] := hd; subst hd; exact h f rfl rfl rfl,
    trivial⟩
    (cast (by kernel_rfl) h)
def S_fettlelaw6_ActsOwn_2 (x0 x1 x5 x19 x20 x21 : Value) (M : Store) (Q : Value → Store → Prop) : Prop :=
  OP (ixA 1 x19 x21) fun t23 =>
  OP (ld 1 false t23 M) fun t24 =>
  OP (lenV t24) fun t26 =>
  OP (binI .gtr t26 (.int .i64 256)) fun t27 =>
  BR t27 (
  R F.fettlelaw6_awake #[] M fun t28 M1 =>
  NTs [t28] ∧ Q t28 M1
  ) (
  OP (cvBS t24 M) fun t31 =>
  OP (bldL (.string ⟨#[]⟩) 1 1 [(0, t31)]) fun c =>
  LT (.slice (some ⟨M.n, 0, none⟩) 1 1) (M.push (some (.inl (c, Ty.string, true)))) fun t32 M2 =>
  OP2 (appV 1 Ty.string x5 t32 M2) fun t33 M3 =>
  OP (binI .add x21 (.int .i64 1)) fun t34 =>
  P_fettlelaw6_ActsOwn_1 x0 x1 t33 x19 x20 t34 M3 Q
  )
theorem T_fettlelaw6_ActsOwn_2 {x0 x1 x5 x19 x20 x21 : Value} {M : Store} {Q : Value → Store → Prop} (h : S_fettlelaw6_ActsOwn_2 x0 x1 x5 x19 x20 x21 M Q) : P_fettlelaw6_ActsOwn_2 x0 x1 x5 x19 x20 x21 M Q := by
  intro f h0 h1 h5 h19 h20 h21; subst h0; subst h1; subst h5; subst h19; subst h20; subst h21
  unfold At
  exact rule (B := 1000) (N := 88) (ct := .no)
    [⟨0, fun a M => dfr a.defers (P_fettlelaw6_ActsOwn_1 (a.get 0) (a.get 1) (a.get 5) (a.get 19) (a.get 20) (a.get 21) M Q), fun a M => At Tryd.prog Ex none Tryd.f5 [1, 1, 1, 0, 1, 0] a M Q⟩,
    ⟨1, fun a M => kfin Tryd.prog Tryd.f5.results.toList Q 1 a M, fun a M => kfin Tryd.prog Tryd.f5.results.toList Q 1 a M⟩]
    [] [0, 1] (by kernel_rfl) (by kernel_rfl) (by kernel_rfl) (by kernel_rfl) (by kernel_rfl)
    ⟨fun a M hn h => by obtain ⟨⟨n, f⟩, ds⟩ := a; have hn : n = 88 := hn; subst hn; obtain ⟨hd, h⟩ := dfr_iff h; have hd : ds = [] := hd; subst hd; exact h f rfl rfl rfl rfl rfl rfl,
    fun _ _ _ h => h,
    trivial⟩
    (cast (by kernel_rfl) h)
def S_fettlelaw6_ActsOwn_3 (x0 x1 x5 : Value) (M : Store) (Q : Value → Store → Prop) : Prop :=
  R F.fettlelaw6_Act #[x0] M fun t36 M1 =>
  OP (bldS #[(.int .i64 0), (.int .i64 0), (.string ⟨#[]⟩)] [(0, 1), (1, 1), (2, 1)] [(0, (.int .i64 2))]) fun t37 =>
  OP (bldL (.agg #[(.int .i64 0), (.int .i64 0), (.string ⟨#[]⟩)]) 3 1 [(0, t37)]) fun c =>
  LT (.slice (some ⟨M1.n, 0, none⟩) 1 1) (M1.push (some (.inl (c, Ty.api_Do, true)))) fun t38 M2 =>
  OP (bldS #[(.int .i64 0), (.int .i64 0), (.string ⟨#[]⟩)] [(0, 1), (1, 1), (2, 1)] [(0, (.int .i64 3))]) fun t39 =>
  OP (bldL (.agg #[(.int .i64 0), (.int .i64 0), (.string ⟨#[]⟩)]) 3 1 [(0, t39)]) fun c_1 =>
  LT (.slice (some ⟨M2.n, 0, none⟩) 1 1) (M2.push (some (.inl (c_1, Ty.api_Do, true)))) fun t40 M3 =>
  OP (bldS #[(.int .i64 0), (.int .i64 0), (.string ⟨#[]⟩)] [(0, 1), (1, 1), (2, 1)] [(0, (.int .i64 2))]) fun t41 =>
  OP (bldS #[(.int .i64 0), (.int .i64 0), (.string ⟨#[]⟩)] [(0, 1), (1, 1), (2, 1)] [(0, (.int .i64 7)), (1, (.int .i64 99))]) fun t42 =>
  OP (bldL (.agg #[(.int .i64 0), (.int .i64 0), (.string ⟨#[]⟩)]) 3 2 [(0, t41), (1, t42)]) fun c_2 =>
  LT (.slice (some ⟨M3.n, 0, none⟩) 2 2) (M3.push (some (.inl (c_2, Ty.api_Do, true)))) fun t43 M4 =>
  OP (bldL (.slice none 0 0) 1 4 [(0, t36), (1, t38), (2, t40), (3, t43)]) fun c_3 =>
  LT (.slice (some ⟨M4.n, 0, none⟩) 4 4) (M4.push (some (.inl (c_3, Ty.sl_api_Do, true)))) fun t44 M5 =>
  OP (lenV t44) fun t45 =>
  P_fettlelaw6_ActsOwn_4 x1 x5 t44 t45 (.int .i64 0) M5 Q
theorem T_fettlelaw6_ActsOwn_3 {x0 x1 x5 : Value} {M : Store} {Q : Value → Store → Prop} (h : S_fettlelaw6_ActsOwn_3 x0 x1 x5 M Q) : P_fettlelaw6_ActsOwn_3 x0 x1 x5 M Q := by
  intro f h0 h1 h5; subst h0; subst h1; subst h5
  unfold At
  exact rule (B := 1000) (N := 88) (ct := (.two (.two .no (.two (.here 1000) .no)) (.here 1001)))
    [⟨1002, fun a M => dfr a.defers (P_fettlelaw6_ActsOwn_4 (a.get 1) (a.get 5) (a.get 44) (a.get 45) (a.get 46) M Q), fun a M => At Tryd.prog Ex none Tryd.f5 [1, 1, 1, 1, 0, 1, 0] a M Q⟩,
    ⟨1003, fun _ _ => False, fun a M => At Tryd.prog Ex none Tryd.f5 [1, 1, 1, 1, 1] a M Q⟩]
    [1000, 1001] [] (by kernel_rfl) (by kernel_rfl) (by kernel_rfl) (by kernel_rfl) (by kernel_rfl)
    ⟨fun a M hn h => by obtain ⟨⟨n, f⟩, ds⟩ := a; have hn : n = 88 := hn; subst hn; obtain ⟨hd, h⟩ := dfr_iff h; have hd : ds = [] := hd; subst hd; exact h f rfl rfl rfl rfl rfl,
    fun _ _ _ h => h.elim,
    trivial⟩
    (cast (by kernel_rfl) h)
def S_fettlelaw6_ActsOwn_4 (x1 x5 x44 x45 x46 : Value) (M : Store) (Q : Value → Store → Prop) : Prop :=
  OP (binI .lss x46 x45) fun t47 =>
  BR t47 (
  P_fettlelaw6_ActsOwn_5 x1 x5 x44 x45 x46 M Q
  ) (
  P_fettlelaw6_ActsOwn_6 M Q
  )
theorem T_fettlelaw6_ActsOwn_4 {x1 x5 x44 x45 x46 : Value} {M : Store} {Q : Value → Store → Prop} (h : S_fettlelaw6_ActsOwn_4 x1 x5 x44 x45 x46 M Q) : P_fettlelaw6_ActsOwn_4 x1 x5 x44 x45 x46 M Q := by
  intro f h1 h5 h44 h45 h46; subst h1; subst h5; subst h44; subst h45; subst h46
  unfold At
  refine cast (by kernel_rfl) (CW.loop (P := Tryd.prog) (E := Ex) (rd := none) (x := sub (bodyOf Tryd.f5) [1, 1, 1, 1, 0, 1, 0, 0]) (a := ⟨⟨88, f⟩, []⟩) (M := M) (K := kcont Tryd.prog Ex none (bodyOf Tryd.f5) [1, 1, 1, 1, 0, 1, 0] (kfin Tryd.prog Tryd.f5.results.toList Q)) ?_)
  exact rule (B := 1000) (N := 88) (ct := (.two .no (.two .no (.here 1000))))
    [⟨1002, fun a M => dfr a.defers (P_fettlelaw6_ActsOwn_5 (a.get 1) (a.get 5) (a.get 44) (a.get 45) (a.get 46) M Q), fun a M => At Tryd.prog Ex none Tryd.f5 [1, 1, 1, 1, 0, 1, 0, 0, 1, 1] a M Q⟩,
    ⟨4, fun a M => dfr a.defers (P_fettlelaw6_ActsOwn_6 M Q), fun a M => At Tryd.prog Ex none Tryd.f5 [1, 1, 1, 1, 1] a M Q⟩]
    [1000] [4] (by kernel_rfl) (by kernel_rfl) (by kernel_rfl) (by kernel_rfl) (by kernel_rfl)
    ⟨fun a M hn h => by obtain ⟨⟨n, f⟩, ds⟩ := a; have hn : n = 88 := hn; subst hn; obtain ⟨hd, h⟩ := dfr_iff h; have hd : ds = [] := hd; subst hd; exact h f rfl rfl rfl rfl rfl,
    fun a M hn h => by obtain ⟨⟨n, f⟩, ds⟩ := a; have hn : n = 88 := hn; subst hn; obtain ⟨hd, h⟩ := dfr_iff h; have hd : ds = [] := hd; subst hd; exact h f,
    trivial⟩
    (cast (by kernel_rfl) h)
def S_fettlelaw6_ActsOwn_5 (x1 x5 x44 x45 x46 : Value) (M : Store) (Q : Value → Store → Prop) : Prop :=
  OP (ixA 1 x44 x46) fun t48 =>
  OP (ld 1 false t48 M) fun t49 =>
  R F.acts_Run #[t49, x1] M fun t53 M1 =>
  OP (tup t53 0) fun t54 =>
  OP (tup t53 1) fun t55 =>
  OP (lenV t54) fun t57 =>
  P_fettlelaw6_ActsOwn_7 x1 x5 t54 x44 x45 x46 t57 (.int .i64 0) M1 Q
theorem T_fettlelaw6_ActsOwn_5 {x1 x5 x44 x45 x46 : Value} {M : Store} {Q : Value → Store → Prop} (h : S_fettlelaw6_ActsOwn_5 x1 x5 x44 x45 x46 M Q) : P_fettlelaw6_ActsOwn_5 x1 x5 x44 x45 x46 M Q := by
  intro f h1 h5 h44 h45 h46; subst h1; subst h5; subst h44; subst h45; subst h46
  unfold At
  exact rule (B := 1000) (N := 88) (ct := (.two (.two (.two .no (.two .no (.two (.two .no (.two (.here 1000) .no)) (.here 1001)))) .no) (.here 1002)))
    [⟨1002, fun a M => dfr a.defers (P_fettlelaw6_ActsOwn_7 (a.get 1) (a.get 5) (a.get 10) (a.get 44) (a.get 45) (a.get 46) (a.get 57) (a.get 58) M Q), fun a M => At Tryd.prog Ex none Tryd.f5 [1, 1, 1, 1, 0, 1, 0, 0, 1, 1, 0, 0, 1, 1, 0, 1, 0] a M Q⟩,
    ⟨1003, fun _ _ => False, fun a M => At Tryd.prog Ex none Tryd.f5 [1, 1, 1, 1, 0, 1, 0, 0, 1, 1, 0, 0, 1, 1, 1] a M Q⟩,
    ⟨1004, fun _ _ => False, fun a M => At Tryd.prog Ex none Tryd.f5 [1, 1, 1, 1, 0, 1, 0, 0, 1, 1, 1] a M Q⟩]
    [1000, 1001, 1002] [] (by kernel_rfl) (by kernel_rfl) (by kernel_rfl) (by kernel_rfl) (by kernel_rfl)
    ⟨fun a M hn h => by obtain ⟨⟨n, f⟩, ds⟩ := a; have hn : n = 88 := hn; subst hn; obtain ⟨hd, h⟩ := dfr_iff h; have hd : ds = [] := hd; subst hd; exact h f rfl rfl rfl rfl rfl rfl rfl rfl,
    fun _ _ _ h => h.elim,
    fun _ _ _ h => h.elim,
    trivial⟩
    (cast (by kernel_rfl) h)
def S_fettlelaw6_ActsOwn_6 (M : Store) (Q : Value → Store → Prop) : Prop :=
  R F.fettlelaw6_awake #[] M fun t87 M1 =>
  NTs [t87] ∧ Q t87 M1
theorem T_fettlelaw6_ActsOwn_6 {M : Store} {Q : Value → Store → Prop} (h : S_fettlelaw6_ActsOwn_6 M Q) : P_fettlelaw6_ActsOwn_6 M Q := by
  intro f 
  unfold At
  exact rule (B := 1000) (N := 88) (ct := .no)
    [⟨1, fun a M => kfin Tryd.prog Tryd.f5.results.toList Q 1 a M, fun a M => kfin Tryd.prog Tryd.f5.results.toList Q 1 a M⟩]
    [] [1] (by kernel_rfl) (by kernel_rfl) (by kernel_rfl) (by kernel_rfl) (by kernel_rfl)
    ⟨fun _ _ _ h => h,
    trivial⟩
    (cast (by kernel_rfl) h)
def S_fettlelaw6_ActsOwn_7 (x1 x5 x10 x44 x45 x46 x57 x58 : Value) (M : Store) (Q : Value → Store → Prop) : Prop :=
  OP (binI .lss x58 x57) fun t59 =>
  BR t59 (
  OP (ixA 1 x10 x58) fun t63 =>
  OP (ld 1 false t63 M) fun t64 =>
  OP (binI .add t64 (.int .u8 1)) fun t65 =>
  OP (ixA 1 x10 x58) fun t66 =>
  OP (st 1 t66 t65 M) fun M1 =>
  OP (binI .add x58 (.int .i64 1)) fun t67 =>
  P_fettlelaw6_ActsOwn_7 x1 x5 x10 x44 x45 x46 x57 t67 M1 Q
  ) (
  P_fettlelaw6_ActsOwn_8 x1 x5 x10 x44 x45 x46 M Q
  )
theorem T_fettlelaw6_ActsOwn_7 {x1 x5 x10 x44 x45 x46 x57 x58 : Value} {M : Store} {Q : Value → Store → Prop} (h : S_fettlelaw6_ActsOwn_7 x1 x5 x10 x44 x45 x46 x57 x58 M Q) : P_fettlelaw6_ActsOwn_7 x1 x5 x10 x44 x45 x46 x57 x58 M Q := by
  intro f h1 h5 h10 h44 h45 h46 h57 h58; subst h1; subst h5; subst h10; subst h44; subst h45; subst h46; subst h57; subst h58
  unfold At
  refine cast (by kernel_rfl) (CW.loop (P := Tryd.prog) (E := Ex) (rd := none) (x := sub (bodyOf Tryd.f5) [1, 1, 1, 1, 0, 1, 0, 0, 1, 1, 0, 0, 1, 1, 0, 1, 0, 0]) (a := ⟨⟨88, f⟩, []⟩) (M := M) (K := kcont Tryd.prog Ex none (bodyOf Tryd.f5) [1, 1, 1, 1, 0, 1, 0, 0, 1, 1, 0, 0, 1, 1, 0, 1, 0] (kfin Tryd.prog Tryd.f5.results.toList Q)) ?_)
  exact rule (B := 1000) (N := 88) (ct := .no)
    [⟨0, fun a M => dfr a.defers (P_fettlelaw6_ActsOwn_7 (a.get 1) (a.get 5) (a.get 10) (a.get 44) (a.get 45) (a.get 46) (a.get 57) (a.get 58) M Q), fun a M => At Tryd.prog Ex none Tryd.f5 [1, 1, 1, 1, 0, 1, 0, 0, 1, 1, 0, 0, 1, 1, 0, 1, 0] a M Q⟩,
    ⟨6, fun a M => dfr a.defers (P_fettlelaw6_ActsOwn_8 (a.get 1) (a.get 5) (a.get 10) (a.get 44) (a.get 45) (a.get 46) M Q), fun a M => At Tryd.prog Ex none Tryd.f5 [1, 1, 1, 1, 0, 1, 0, 0, 1, 1, 0, 0, 1, 1, 1] a M Q⟩]
    [] [0, 6] (by kernel_rfl) (by kernel_rfl) (by kernel_rfl) (by kernel_rfl) (by kernel_rfl)
    ⟨fun a M hn h => by obtain ⟨⟨n, f⟩, ds⟩ := a; have hn : n = 88 := hn; subst hn; obtain ⟨hd, h⟩ := dfr_iff h; have hd : ds = [] := hd; subst hd; exact h f rfl rfl rfl rfl rfl rfl rfl rfl,
    fun a M hn h => by obtain ⟨⟨n, f⟩, ds⟩ := a; have hn : n = 88 := hn; subst hn; obtain ⟨hd, h⟩ := dfr_iff h; have hd : ds = [] := hd; subst hd; exact h f rfl rfl rfl rfl rfl rfl,
    trivial⟩
    (cast (by kernel_rfl) h)
def S_fettlelaw6_ActsOwn_8 (x1 x5 x10 x44 x45 x46 : Value) (M : Store) (Q : Value → Store → Prop) : Prop :=
  OP (bldL (.int .u8 0) 1 3 [(0, (.int .u8 1)), (1, (.int .u8 2)), (2, (.int .u8 3))]) fun c =>
  LT (.slice (some ⟨M.n, 0, none⟩) 3 3) (M.push (some (.inl (c, Ty.uint8, true)))) fun t69 M1 =>
  OP2 (appV 1 Ty.uint8 x10 t69 M1) fun t70 M2 =>
  OP (lenV x1) fun t72 =>
  P_fettlelaw6_ActsOwn_9 x1 x5 x44 x45 x46 x1 t72 (.int .i64 0) M2 Q
theorem T_fettlelaw6_ActsOwn_8 {x1 x5 x10 x44 x45 x46 : Value} {M : Store} {Q : Value → Store → Prop} (h : S_fettlelaw6_ActsOwn_8 x1 x5 x10 x44 x45 x46 M Q) : P_fettlelaw6_ActsOwn_8 x1 x5 x10 x44 x45 x46 M Q := by
  intro f h1 h5 h10 h44 h45 h46; subst h1; subst h5; subst h10; subst h44; subst h45; subst h46
  unfold At
  exact rule (B := 1000) (N := 88) (ct := (.two .no (.two .no (.two (.here 1000) .no))))
    [⟨1002, fun a M => dfr a.defers (P_fettlelaw6_ActsOwn_9 (a.get 1) (a.get 5) (a.get 44) (a.get 45) (a.get 46) (a.get 71) (a.get 72) (a.get 73) M Q), fun a M => At Tryd.prog Ex none Tryd.f5 [1, 1, 1, 1, 0, 1, 0, 0, 1, 1, 0, 0, 1, 1, 1, 1, 1, 0] a M Q⟩]
    [1000] [] (by kernel_rfl) (by kernel_rfl) (by kernel_rfl) (by kernel_rfl) (by kernel_rfl)
    ⟨fun a M hn h => by obtain ⟨⟨n, f⟩, ds⟩ := a; have hn : n = 88 := hn; subst hn; obtain ⟨hd, h⟩ := dfr_iff h; have hd : ds = [] := hd; subst hd; exact h f rfl rfl rfl rfl rfl rfl rfl rfl,
    trivial⟩
    (cast (by kernel_rfl) h)
def S_fettlelaw6_ActsOwn_9 (x1 x5 x44 x45 x46 x71 x72 x73 : Value) (M : Store) (Q : Value → Store → Prop) : Prop :=
  OP (binI .lss x73 x72) fun t74 =>
  BR t74 (
  P_fettlelaw6_ActsOwn_10 x1 x5 x44 x45 x46 x71 x72 x73 M Q
  ) (
  P_fettlelaw6_ActsOwn_11 x1 x5 x44 x45 x46 M Q
  )
theorem T_fettlelaw6_ActsOwn_9 {x1 x5 x44 x45 x46 x71 x72 x73 : Value} {M : Store} {Q : Value → Store → Prop} (h : S_fettlelaw6_ActsOwn_9 x1 x5 x44 x45 x46 x71 x72 x73 M Q) : P_fettlelaw6_ActsOwn_9 x1 x5 x44 x45 x46 x71 x72 x73 M Q := by
  intro f h1 h5 h44 h45 h46 h71 h72 h73; subst h1; subst h5; subst h44; subst h45; subst h46; subst h71; subst h72; subst h73
  unfold At
  refine cast (by kernel_rfl) (CW.loop (P := Tryd.prog) (E := Ex) (rd := none) (x := sub (bodyOf Tryd.f5) [1, 1, 1, 1, 0, 1, 0, 0, 1, 1, 0, 0, 1, 1, 1, 1, 1, 0, 0]) (a := ⟨⟨88, f⟩, []⟩) (M := M) (K := kcont Tryd.prog Ex none (bodyOf Tryd.f5) [1, 1, 1, 1, 0, 1, 0, 0, 1, 1, 0, 0, 1, 1, 1, 1, 1, 0] (kfin Tryd.prog Tryd.f5.results.toList Q)) ?_)
  exact rule (B := 1000) (N := 88) (ct := (.two .no (.two .no (.here 1000))))
    [⟨1002, fun a M => dfr a.defers (P_fettlelaw6_ActsOwn_10 (a.get 1) (a.get 5) (a.get 44) (a.get 45) (a.get 46) (a.get 71) (a.get 72) (a.get 73) M Q), fun a M => At Tryd.prog Ex none Tryd.f5 [1, 1, 1, 1, 0, 1, 0, 0, 1, 1, 0, 0, 1, 1, 1, 1, 1, 0, 0, 1, 1] a M Q⟩,
    ⟨8, fun a M => dfr a.defers (P_fettlelaw6_ActsOwn_11 (a.get 1) (a.get 5) (a.get 44) (a.get 45) (a.get 46) M Q), fun a M => At Tryd.prog Ex none Tryd.f5 [1, 1, 1, 1, 0, 1, 0, 0, 1, 1, 1] a M Q⟩]
    [1000] [8] (by kernel_rfl) (by kernel_rfl) (by kernel_rfl) (by kernel_rfl) (by kernel_rfl)
    ⟨fun a M hn h => by obtain ⟨⟨n, f⟩, ds⟩ := a; have hn : n = 88 := hn; subst hn; obtain ⟨hd, h⟩ := dfr_iff h; have hd : ds = [] := hd; subst hd; exact h f rfl rfl rfl rfl rfl rfl rfl rfl,
    fun a M hn h => by obtain ⟨⟨n, f⟩, ds⟩ := a; have hn : n = 88 := hn; subst hn; obtain ⟨hd, h⟩ := dfr_iff h; have hd : ds = [] := hd; subst hd; exact h f rfl rfl rfl rfl rfl,
    trivial⟩
    (cast (by kernel_rfl) h)
def S_fettlelaw6_ActsOwn_10 (x1 x5 x44 x45 x46 x71 x72 x73 : Value) (M : Store) (Q : Value → Store → Prop) : Prop :=
  OP (ixA 1 x71 x73) fun t76 =>
  OP (ld 1 false t76 M) fun t77 =>
  OP (cvBS t77 M) fun t79 =>
  OP (ixA 1 x5 x73) fun t82 =>
  OP (ld 1 false t82 M) fun t83 =>
  OP (binS .neq t79 t83) fun t84 =>
  BR t84 (
  NTs [(.bool false)] ∧ Q (.bool false) M
  ) (
  OP (binI .add x73 (.int .i64 1)) fun t85 =>
  P_fettlelaw6_ActsOwn_9 x1 x5 x44 x45 x46 x71 x72 t85 M Q
  )
theorem T_fettlelaw6_ActsOwn_10 {x1 x5 x44 x45 x46 x71 x72 x73 : Value} {M : Store} {Q : Value → Store → Prop} (h : S_fettlelaw6_ActsOwn_10 x1 x5 x44 x45 x46 x71 x72 x73 M Q) : P_fettlelaw6_ActsOwn_10 x1 x5 x44 x45 x46 x71 x72 x73 M Q := by
  intro f h1 h5 h44 h45 h46 h71 h72 h73; subst h1; subst h5; subst h44; subst h45; subst h46; subst h71; subst h72; subst h73
  unfold At
  exact rule (B := 1000) (N := 88) (ct := .no)
    [⟨0, fun a M => dfr a.defers (P_fettlelaw6_ActsOwn_9 (a.get 1) (a.get 5) (a.get 44) (a.get 45) (a.get 46) (a.get 71) (a.get 72) (a.get 73) M Q), fun a M => At Tryd.prog Ex none Tryd.f5 [1, 1, 1, 1, 0, 1, 0, 0, 1, 1, 0, 0, 1, 1, 1, 1, 1, 0] a M Q⟩,
    ⟨1, fun a M => kfin Tryd.prog Tryd.f5.results.toList Q 1 a M, fun a M => kfin Tryd.prog Tryd.f5.results.toList Q 1 a M⟩]
    [] [0, 1] (by kernel_rfl) (by kernel_rfl) (by kernel_rfl) (by kernel_rfl) (by kernel_rfl)
    ⟨fun a M hn h => by obtain ⟨⟨n, f⟩, ds⟩ := a; have hn : n = 88 := hn; subst hn; obtain ⟨hd, h⟩ := dfr_iff h; have hd : ds = [] := hd; subst hd; exact h f rfl rfl rfl rfl rfl rfl rfl rfl,
    fun _ _ _ h => h,
    trivial⟩
    (cast (by kernel_rfl) h)
def S_fettlelaw6_ActsOwn_11 (x1 x5 x44 x45 x46 : Value) (M : Store) (Q : Value → Store → Prop) : Prop :=
  OP (binI .add x46 (.int .i64 1)) fun t86 =>
  P_fettlelaw6_ActsOwn_4 x1 x5 x44 x45 t86 M Q
theorem T_fettlelaw6_ActsOwn_11 {x1 x5 x44 x45 x46 : Value} {M : Store} {Q : Value → Store → Prop} (h : S_fettlelaw6_ActsOwn_11 x1 x5 x44 x45 x46 M Q) : P_fettlelaw6_ActsOwn_11 x1 x5 x44 x45 x46 M Q := by
  intro f h1 h5 h44 h45 h46; subst h1; subst h5; subst h44; subst h45; subst h46
  unfold At
  exact rule (B := 1000) (N := 88) (ct := .no)
    [⟨0, fun a M => dfr a.defers (P_fettlelaw6_ActsOwn_4 (a.get 1) (a.get 5) (a.get 44) (a.get 45) (a.get 46) M Q), fun a M => At Tryd.prog Ex none Tryd.f5 [1, 1, 1, 1, 0, 1, 0] a M Q⟩]
    [] [0] (by kernel_rfl) (by kernel_rfl) (by kernel_rfl) (by kernel_rfl) (by kernel_rfl)
    ⟨fun a M hn h => by obtain ⟨⟨n, f⟩, ds⟩ := a; have hn : n = 88 := hn; subst hn; obtain ⟨hd, h⟩ := dfr_iff h; have hd : ds = [] := hd; subst hd; exact h f rfl rfl rfl rfl rfl,
    trivial⟩
    (cast (by kernel_rfl) h)
end Go.G
