/-  -/
import Derived.Test.YtpacolplhcfamaaPGN
open Go.RowKit
namespace Go.G
open Go.Ab Go.Proofs
set_option linter.unusedVariables false
set_option maxRecDepth 100000
def P_hist_Honest_1 (x10 x11 x12 : Value) (M : Store) (Q : Value → Store → Prop) : Prop :=
  ∀ f : Nat → Value, f 10 = x10 → f 11 = x11 → f 12 = x12 → At Try.prog Ex none Try.f42 [1, 0, 1, 0] ⟨⟨43, f⟩, []⟩ M Q
def P_hist_Honest_2 (x10 x11 x12 : Value) (M : Store) (Q : Value → Store → Prop) : Prop :=
  ∀ f : Nat → Value, f 10 = x10 → f 11 = x11 → f 12 = x12 → At Try.prog Ex none Try.f42 [1, 0, 1, 0, 0, 1, 1] ⟨⟨43, f⟩, []⟩ M Q
def P_hist_Honest_3 (M : Store) (Q : Value → Store → Prop) : Prop :=
  ∀ f : Nat → Value, At Try.prog Ex none Try.f42 [1, 1] ⟨⟨43, f⟩, []⟩ M Q
def P_hist_Honest_4 (x4 x10 x11 x12 : Value) (M : Store) (Q : Value → Store → Prop) : Prop :=
  ∀ f : Nat → Value, f 4 = x4 → f 10 = x10 → f 11 = x11 → f 12 = x12 → At Try.prog Ex none Try.f42 [1, 0, 1, 0, 0, 1, 1, 0, 0, 1, 1] ⟨⟨43, f⟩, []⟩ M Q
def P_hist_Honest_5 (x10 x11 x12 : Value) (M : Store) (Q : Value → Store → Prop) : Prop :=
  ∀ f : Nat → Value, f 10 = x10 → f 11 = x11 → f 12 = x12 → At Try.prog Ex none Try.f42 [1, 0, 1, 0, 0, 1, 1, 1] ⟨⟨43, f⟩, []⟩ M Q
def S_hist_Honest (x0 : Value) (M : Store) (Q : Value → Store → Prop) : Prop :=
  OP (lenV x0) fun t11 =>
  P_hist_Honest_1 x0 t11 (.int .i64 0) M Q
theorem T_hist_Honest {x0 : Value} {M : Store} {Q : Value → Store → Prop} (h : S_hist_Honest x0 M Q) : R F.hist_Honest #[x0] M Q := by
  refine runs_of (c := bodyOf Try.f42) Try.func42 rfl (by kernel_rfl) (by kernel_rfl) ?_
  unfold At
  exact rule (B := 1000) (N := 43) (ct := (.two .no (.two (.two .no (.two (.here 1000) .no)) (.here 1001))))
    [⟨1002, fun a M => dfr a.defers (P_hist_Honest_1 (a.get 10) (a.get 11) (a.get 12) M Q), fun a M => At Try.prog Ex none Try.f42 [1, 0, 1, 0] a M Q⟩,
    ⟨1003, fun _ _ => False, fun a M => At Try.prog Ex none Try.f42 [1, 1] a M Q⟩]
    [1000, 1001] [] (by kernel_rfl) (by kernel_rfl) (by kernel_rfl) (by kernel_rfl) (by kernel_rfl)
    ⟨fun a M hn h => by obtain ⟨⟨n, f⟩, ds⟩ := a; have hn : n = 43 := hn; subst hn; obtain ⟨hd, h⟩ := dfr_iff h; have hd : ds = [] := hd; subst hd; exact h f rfl rfl rfl,
    fun _ _ _ h => h.elim,
    trivial⟩
    (cast (by kernel_rfl) h)
def S_hist_Honest_1 (x10 x11 x12 : Value) (M : Store) (Q : Value → Store → Prop) : Prop :=
  OP (binI .lss x12 x11) fun t13 =>
  BR t13 (
  P_hist_Honest_2 x10 x11 x12 M Q
  ) (
  P_hist_Honest_3 M Q
  )
theorem T_hist_Honest_1 {x10 x11 x12 : Value} {M : Store} {Q : Value → Store → Prop} (h : S_hist_Honest_1 x10 x11 x12 M Q) : P_hist_Honest_1 x10 x11 x12 M Q := by
  intro f h10 h11 h12; subst h10; subst h11; subst h12
  unfold At
  refine cast (by kernel_rfl) (CW.loop (P := Try.prog) (E := Ex) (rd := none) (x := sub (bodyOf Try.f42) [1, 0, 1, 0, 0]) (a := ⟨⟨43, f⟩, []⟩) (M := M) (K := kcont Try.prog Ex none (bodyOf Try.f42) [1, 0, 1, 0] (kfin Try.prog Try.f42.results.toList Q)) ?_)
  exact rule (B := 1000) (N := 43) (ct := (.two .no (.two .no (.here 1000))))
    [⟨1002, fun a M => dfr a.defers (P_hist_Honest_2 (a.get 10) (a.get 11) (a.get 12) M Q), fun a M => At Try.prog Ex none Try.f42 [1, 0, 1, 0, 0, 1, 1] a M Q⟩,
    ⟨2, fun a M => dfr a.defers (P_hist_Honest_3 M Q), fun a M => At Try.prog Ex none Try.f42 [1, 1] a M Q⟩]
    [1000] [2] (by kernel_rfl) (by kernel_rfl) (by kernel_rfl) (by kernel_rfl) (by kernel_rfl)
    ⟨fun a M hn h => by obtain ⟨⟨n, f⟩, ds⟩ := a; have hn : n = 43 := hn; subst hn; obtain ⟨hd, h⟩ := dfr_iff h; have hd : ds = [] := hd; subst hd; exact h f rfl rfl rfl,
    fun a M hn h => by obtain ⟨⟨n, f⟩, ds⟩ := a; have hn : n = 43 := hn; subst hn; obtain ⟨hd, h⟩ := dfr_iff h; have hd : ds = [] := hd; subst hd; exact h f,
    trivial⟩
    (cast (by kernel_rfl) h)
def S_hist_Honest_2 (x10 x11 x12 : Value) (M : Store) (Q : Value → Store → Prop) : Prop :=
  OP (ixA 4 x10 x12) fun t14 =>
  OP (ld 4 true t14 M) fun t15 =>
  LT (.pointer (some ⟨M.n, 0, none⟩)) (M.push (some (.inl ([(.int .i64 0), (.string ⟨#[]⟩), (.slice none 0 0), (.bool false)], Ty.api_Commit, true)))) fun t4 M1 =>
  OP (st 4 t4 t15 M1) fun M2 =>
  OP (fad 3 t4) fun t16 =>
  OP (ld 1 false t16 M2) fun t17 =>
  BR t17 (
  P_hist_Honest_5 x10 x11 x12 M2 Q
  ) (
  P_hist_Honest_4 t4 x10 x11 x12 M2 Q
  )
theorem T_hist_Honest_2 {x10 x11 x12 : Value} {M : Store} {Q : Value → Store → Prop} (h : S_hist_Honest_2 x10 x11 x12 M Q) : P_hist_Honest_2 x10 x11 x12 M Q := by
  intro f h10 h11 h12; subst h10; subst h11; subst h12
  unfold At
  exact rule (B := 1000) (N := 43) (ct := (.two (.two (.two .no (.two .no (.here 1000))) .no) (.here 1001)))
    [⟨1002, fun a M => dfr a.defers (P_hist_Honest_4 (a.get 4) (a.get 10) (a.get 11) (a.get 12) M Q), fun a M => At Try.prog Ex none Try.f42 [1, 0, 1, 0, 0, 1, 1, 0, 0, 1, 1] a M Q⟩,
    ⟨1003, fun a M => dfr a.defers (P_hist_Honest_5 (a.get 10) (a.get 11) (a.get 12) M Q), fun a M => At Try.prog Ex none Try.f42 [1, 0, 1, 0, 0, 1, 1, 1] a M Q⟩]
    [1000, 1001] [] (by kernel_rfl) (by kernel_rfl) (by kernel_rfl) (by kernel_rfl) (by kernel_rfl)
    ⟨fun a M hn h => by obtain ⟨⟨n, f⟩, ds⟩ := a; have hn : n = 43 := hn; subst hn; obtain ⟨hd, h⟩ := dfr_iff h; have hd : ds = [] := hd; subst hd; exact h f rfl rfl rfl rfl,
    fun a M hn h => by obtain ⟨⟨n, f⟩, ds⟩ := a; have hn : n = 43 := hn; subst hn; obtain ⟨hd, h⟩ := dfr_iff h; have hd : ds = [] := hd; subst hd; exact h f rfl rfl rfl,
    trivial⟩
    (cast (by kernel_rfl) h)
def S_hist_Honest_3 (M : Store) (Q : Value → Store → Prop) : Prop :=
  NTs [(.bool true)] ∧ Q (.bool true) M
theorem T_hist_Honest_3 {M : Store} {Q : Value → Store → Prop} (h : S_hist_Honest_3 M Q) : P_hist_Honest_3 M Q := by
  intro f 
  unfold At
  exact rule (B := 1000) (N := 43) (ct := .no)
    [⟨1, fun a M => kfin Try.prog Try.f42.results.toList Q 1 a M, fun a M => kfin Try.prog Try.f42.results.toList Q 1 a M⟩]
    [] [1] (by kernel_rfl) (by kernel_rfl) (by kernel_rfl) (by kernel_rfl) (by kernel_rfl)
    ⟨fun _ _ _ h => h,
    trivial⟩
    (cast (by kernel_rfl) h)
def S_hist_Honest_4 (x4 x10 x11 x12 : Value) (M : Store) (Q : Value → Store → Prop) : Prop :=
  OP (fad 2 x4) fun t19 =>
  OP (ld 1 false t19 M) fun t20 =>
  R F.arti_Open #[t20] M fun t21 M1 =>
  OP (tup t21 0) fun t22 =>
  OP (tup t21 1) fun t23 =>
  OP (tup t21 2) fun t24 =>
  R F.prnt_Value #[t22] M1 fun t27 M2 =>
  OP (tup t27 0) fun t28 =>
  OP (tup t27 1) fun t29 =>
  OP (aun .not t24) fun t31 =>
  BR t31 (
  NTs [(.bool false)] ∧ Q (.bool false) M2
  ) (
  OP (aun .not t29) fun t34 =>
  BR t34 (
  NTs [(.bool false)] ∧ Q (.bool false) M2
  ) (
  R F.bytes_Equal #[t23, t28] M2 fun t39 M3 =>
  OP (aun .not t39) fun t40 =>
  BR t40 (
  NTs [(.bool false)] ∧ Q (.bool false) M3
  ) (
  P_hist_Honest_5 x10 x11 x12 M3 Q
  )
  )
  )
theorem T_hist_Honest_4 {x4 x10 x11 x12 : Value} {M : Store} {Q : Value → Store → Prop} (h : S_hist_Honest_4 x4 x10 x11 x12 M Q) : P_hist_Honest_4 x4 x10 x11 x12 M Q := by
  intro f h4 h10 h11 h12; subst h4; subst h10; subst h11; subst h12
  unfold At
  exact rule (B := 1000) (N := 43) (ct := .no)
    [⟨0, fun a M => dfr a.defers (P_hist_Honest_5 (a.get 10) (a.get 11) (a.get 12) M Q), fun a M => At Try.prog Ex none Try.f42 [1, 0, 1, 0, 0, 1, 1, 1] a M Q⟩,
    ⟨1, fun a M => kfin Try.prog Try.f42.results.toList Q 1 a M, fun a M => kfin Try.prog Try.f42.results.toList Q 1 a M⟩]
    [] [0, 1] (by kernel_rfl) (by kernel_rfl) (by kernel_rfl) (by kernel_rfl) (by kernel_rfl)
    ⟨fun a M hn h => by obtain ⟨⟨n, f⟩, ds⟩ := a; have hn : n = 43 := hn; subst hn; obtain ⟨hd, h⟩ := dfr_iff h; have hd : ds = [] := hd; subst hd; exact h f rfl rfl rfl,
    fun _ _ _ h => h,
    trivial⟩
    (cast (by kernel_rfl) h)
def S_hist_Honest_5 (x10 x11 x12 : Value) (M : Store) (Q : Value → Store → Prop) : Prop :=
  OP (binI .add x12 (.int .i64 1)) fun t42 =>
  P_hist_Honest_1 x10 x11 t42 M Q
theorem T_hist_Honest_5 {x10 x11 x12 : Value} {M : Store} {Q : Value → Store → Prop} (h : S_hist_Honest_5 x10 x11 x12 M Q) : P_hist_Honest_5 x10 x11 x12 M Q := by
  intro f h10 h11 h12; subst h10; subst h11; subst h12
  unfold At
  exact rule (B := 1000) (N := 43) (ct := .no)
    [⟨0, fun a M => dfr a.defers (P_hist_Honest_1 (a.get 10) (a.get 11) (a.get 12) M Q), fun a M => At Try.prog Ex none Try.f42 [1, 0, 1, 0] a M Q⟩]
    [] [0] (by kernel_rfl) (by kernel_rfl) (by kernel_rfl) (by kernel_rfl) (by kernel_rfl)
    ⟨fun a M hn h => by obtain ⟨⟨n, f⟩, ds⟩ := a; have hn : n = 43 := hn; subst hn; obtain ⟨hd, h⟩ := dfr_iff h; have hd : ds = [] := hd; subst hd; exact h f rfl rfl rfl,
    trivial⟩
    (cast (by kernel_rfl) h)
def P_hist_Within_1 (x0 x7 x8 x9 : Value) (M : Store) (Q : Value → Store → Prop) : Prop :=
  ∀ f : Nat → Value, f 0 = x0 → f 7 = x7 → f 8 = x8 → f 9 = x9 → At Try.prog Ex none Try.f43 [1, 0, 1, 0] ⟨⟨29, f⟩, []⟩ M Q
def P_hist_Within_2 (x0 x7 x8 x9 : Value) (M : Store) (Q : Value → Store → Prop) : Prop :=
  ∀ f : Nat → Value, f 0 = x0 → f 7 = x7 → f 8 = x8 → f 9 = x9 → At Try.prog Ex none Try.f43 [1, 0, 1, 0, 0, 1, 1] ⟨⟨29, f⟩, []⟩ M Q
def P_hist_Within_3 (x0 : Value) (M : Store) (Q : Value → Store → Prop) : Prop :=
  ∀ f : Nat → Value, f 0 = x0 → At Try.prog Ex none Try.f43 [1, 1] ⟨⟨29, f⟩, []⟩ M Q
def S_hist_Within (x0 x1 : Value) (M : Store) (Q : Value → Store → Prop) : Prop :=
  OP (lenV x1) fun t8 =>
  P_hist_Within_1 x0 x1 t8 (.int .i64 0) M Q
theorem T_hist_Within {x0 x1 : Value} {M : Store} {Q : Value → Store → Prop} (h : S_hist_Within x0 x1 M Q) : R F.hist_Within #[x0, x1] M Q := by
  refine runs_of (c := bodyOf Try.f43) Try.func43 rfl (by kernel_rfl) (by kernel_rfl) ?_
  unfold At
  exact rule (B := 1000) (N := 29) (ct := (.two .no (.two (.two .no (.two (.here 1000) .no)) (.here 1001))))
    [⟨1002, fun a M => dfr a.defers (P_hist_Within_1 (a.get 0) (a.get 7) (a.get 8) (a.get 9) M Q), fun a M => At Try.prog Ex none Try.f43 [1, 0, 1, 0] a M Q⟩,
    ⟨1003, fun _ _ => False, fun a M => At Try.prog Ex none Try.f43 [1, 1] a M Q⟩]
    [1000, 1001] [] (by kernel_rfl) (by kernel_rfl) (by kernel_rfl) (by kernel_rfl) (by kernel_rfl)
    ⟨fun a M hn h => by obtain ⟨⟨n, f⟩, ds⟩ := a; have hn : n = 29 := hn; subst hn; obtain ⟨hd, h⟩ := dfr_iff h; have hd : ds = [] := hd; subst hd; exact h f rfl rfl rfl rfl,
    fun _ _ _ h => h.elim,
    trivial⟩
    (cast (by kernel_rfl) h)
def S_hist_Within_1 (x0 x7 x8 x9 : Value) (M : Store) (Q : Value → Store → Prop) : Prop :=
  OP (binI .lss x9 x8) fun t10 =>
  BR t10 (
  P_hist_Within_2 x0 x7 x8 x9 M Q
  ) (
  P_hist_Within_3 x0 M Q
  )
theorem T_hist_Within_1 {x0 x7 x8 x9 : Value} {M : Store} {Q : Value → Store → Prop} (h : S_hist_Within_1 x0 x7 x8 x9 M Q) : P_hist_Within_1 x0 x7 x8 x9 M Q := by
  intro f h0 h7 h8 h9; subst h0; subst h7; subst h8; subst h9
  unfold At
  refine cast (by kernel_rfl) (CW.loop (P := Try.prog) (E := Ex) (rd := none) (x := sub (bodyOf Try.f43) [1, 0, 1, 0, 0]) (a := ⟨⟨29, f⟩, []⟩) (M := M) (K := kcont Try.prog Ex none (bodyOf Try.f43) [1, 0, 1, 0] (kfin Try.prog Try.f43.results.toList Q)) ?_)
  exact rule (B := 1000) (N := 29) (ct := (.two .no (.two .no (.here 1000))))
    [⟨1002, fun a M => dfr a.defers (P_hist_Within_2 (a.get 0) (a.get 7) (a.get 8) (a.get 9) M Q), fun a M => At Try.prog Ex none Try.f43 [1, 0, 1, 0, 0, 1, 1] a M Q⟩,
    ⟨2, fun a M => dfr a.defers (P_hist_Within_3 (a.get 0) M Q), fun a M => At Try.prog Ex none Try.f43 [1, 1] a M Q⟩]
    [1000] [2] (by kernel_rfl) (by kernel_rfl) (by kernel_rfl) (by kernel_rfl) (by kernel_rfl)
    ⟨fun a M hn h => by obtain ⟨⟨n, f⟩, ds⟩ := a; have hn : n = 29 := hn; subst hn; obtain ⟨hd, h⟩ := dfr_iff h; have hd : ds = [] := hd; subst hd; exact h f rfl rfl rfl rfl,
    fun a M hn h => by obtain ⟨⟨n, f⟩, ds⟩ := a; have hn : n = 29 := hn; subst hn; obtain ⟨hd, h⟩ := dfr_iff h; have hd : ds = [] := hd; subst hd; exact h f rfl,
    trivial⟩
    (cast (by kernel_rfl) h)
def S_hist_Within_2 (x0 x7 x8 x9 : Value) (M : Store) (Q : Value → Store → Prop) : Prop :=
  OP (ixA 4 x7 x9) fun t11 =>
  OP (ld 4 true t11 M) fun t12 =>
  LT (.pointer (some ⟨M.n, 0, none⟩)) (M.push (some (.inl ([(.int .i64 0), (.string ⟨#[]⟩), (.slice none 0 0), (.bool false)], Ty.api_Commit, true)))) fun t6 M1 =>
  OP (st 4 t6 t12 M1) fun M2 =>
  OP (lenV x0) fun t14 =>
  OP (binI .gtr t14 (.int .i64 0)) fun t15 =>
  BR t15 (
  OP (ixA 4 x0 (.int .i64 0)) fun t18 =>
  OP (ld 4 true t18 M2) fun t19 =>
  OP (ld 4 true t6 M2) fun t20 =>
  R F.hist_tells #[t19, t20] M2 fun t21 M3 =>
  TDx [0, 1, 3, 7, 15, 31, 63, 15, 255, 511] [M2.n, M2.n, M2.n, M2.n, M2.n, M2.n, M2.n, M2.n, M2.n] 8 M2 M3 ∧
  BR t21 (
  OP (slV 4 Ty.api_Done x0 (some (.int .i64 1)) none M3) fun t24 =>
  OP (binI .add x9 (.int .i64 1)) fun t25 =>
  P_hist_Within_1 t24 x7 x8 t25 M3 Q
  ) (
  OP (binI .add x9 (.int .i64 1)) fun t25_1 =>
  P_hist_Within_1 x0 x7 x8 t25_1 M3 Q
  )
  ) (
  OP (binI .add x9 (.int .i64 1)) fun t25_2 =>
  P_hist_Within_1 x0 x7 x8 t25_2 M2 Q
  )
theorem T_hist_Within_2 {x0 x7 x8 x9 : Value} {M : Store} {Q : Value → Store → Prop} (h : S_hist_Within_2 x0 x7 x8 x9 M Q) : P_hist_Within_2 x0 x7 x8 x9 M Q := by
  intro f h0 h7 h8 h9; subst h0; subst h7; subst h8; subst h9
  unfold At
  exact rule (B := 1000) (N := 29) (ct := .no)
    [⟨0, fun a M => dfr a.defers (P_hist_Within_1 (a.get 0) (a.get 7) (a.get 8) (a.get 9) M Q), fun a M => At Try.prog Ex none Try.f43 [1, 0, 1, 0] a M Q⟩]
    [] [0] (by kernel_rfl) (by kernel_rfl) (by kernel_rfl) (by kernel_rfl) (by kernel_rfl)
    ⟨fun a M hn h => by obtain ⟨⟨n, f⟩, ds⟩ := a; have hn : n = 29 := hn; subst hn; obtain ⟨hd, h⟩ := dfr_iff h; have hd : ds = [] := hd; subst hd; exact h f rfl rfl rfl rfl,
    trivial⟩
    (cast (by kernel_rfl) h)
def S_hist_Within_3 (x0 : Value) (M : Store) (Q : Value → Store → Prop) : Prop :=
  OP (lenV x0) fun t27 =>
  OP (binI .eql t27 (.int .i64 0)) fun t28 =>
  NTs [t28] ∧ Q t28 M
theorem T_hist_Within_3 {x0 : Value} {M : Store} {Q : Value → Store → Prop} (h : S_hist_Within_3 x0 M Q) : P_hist_Within_3 x0 M Q := by
  intro f h0; subst h0
  unfold At
  exact rule (B := 1000) (N := 29) (ct := .no)
    [⟨1, fun a M => kfin Try.prog Try.f43.results.toList Q 1 a M, fun a M => kfin Try.prog Try.f43.results.toList Q 1 a M⟩]
    [] [1] (by kernel_rfl) (by kernel_rfl) (by kernel_rfl) (by kernel_rfl) (by kernel_rfl)
    ⟨fun _ _ _ h => h,
    trivial⟩
    (cast (by kernel_rfl) h)
def P_fettlelaw25_Commit_1 (x0 x2 x3 x4 : Value) (M : Store) (Q : Value → Store → Prop) : Prop :=
  ∀ f : Nat → Value, f 0 = x0 → f 2 = x2 → f 3 = x3 → f 4 = x4 → At Try.prog Ex none Try.f44 [1, 1, 1, 1, 1] ⟨⟨65, f⟩, []⟩ M Q
def P_fettlelaw25_Commit_2 (x0 x2 x6 : Value) (M : Store) (Q : Value → Store → Prop) : Prop :=
  ∀ f : Nat → Value, f 0 = x0 → f 2 = x2 → f 6 = x6 → At Try.prog Ex none Try.f44 [1, 1, 1, 1, 1, 1, 1] ⟨⟨65, f⟩, []⟩ M Q
def S_fettlelaw25_Commit (x0 : Value) (M : Store) (Q : Value → Store → Prop) : Prop :=
  LT (.pointer (some ⟨M.n, 0, none⟩)) (M.push (some (.inl ([(.int .i64 0), (.string ⟨#[]⟩), (.slice none 0 0), (.bool false)], Ty.api_Commit, true)))) fun t2 M1 =>
  OP (binI .and x0 (.int .i64 15)) fun t8 =>
  OP (binI .eql t8 (.int .i64 15)) fun t9 =>
  BR t9 (
  OP (binI .shr x0 (.int .u64 4)) fun t11 =>
  OP (binI .and t11 (.int .i64 1)) fun t12 =>
  OP (bldL (.string ⟨#[]⟩) 1 2 [(0, (.string ⟨#[97]⟩)), (1, (.string ⟨#[98]⟩))]) fun c =>
  LT (.slice (some ⟨M1.n, 0, none⟩) 2 2) (M1.push (some (.inl (c, Ty.string, true)))) fun t13 M2 =>
  OP (binI .shr x0 (.int .u64 5)) fun t15 =>
  OP (binI .and t15 (.int .i64 1)) fun t16 =>
  OP (ixA 1 t13 t16) fun t17 =>
  OP (ld 1 false t17 M2) fun t18 =>
  OP (bldS #[(.int .i64 0), (.string ⟨#[]⟩), (.slice none 0 0), (.bool false)] [(0, 1), (1, 1), (2, 1), (3, 1)] [(0, t12), (1, t18), (3, (.bool true))]) fun t19 =>
  OP (st 4 t2 t19 M2) fun M3 =>
  OP (ld 4 true t2 M3) fun r2 =>
  NTs [r2] ∧ Q r2 M3
  ) (
  OP (bldS #[(.int .i64 0), (.int .i64 0), (.string ⟨#[]⟩)] [(0, 1), (1, 1), (2, 1)] [(0, (.int .i64 3))]) fun t20 =>
  OP (bldS #[(.int .i64 0), (.int .i64 0), (.string ⟨#[]⟩)] [(0, 1), (1, 1), (2, 1)] [(0, (.int .i64 6))]) fun t21 =>
  OP (bldL (.agg #[(.int .i64 0), (.int .i64 0), (.string ⟨#[]⟩)]) 3 2 [(0, t20), (1, t21)]) fun c_1 =>
  LT (.slice (some ⟨M1.n, 0, none⟩) 2 2) (M1.push (some (.inl (c_1, Ty.api_Do, true)))) fun t22 M4 =>
  OP (binI .shr x0 (.int .u64 6)) fun t24 =>
  OP (binI .and t24 (.int .i64 1)) fun t25 =>
  OP (binI .add (.int .i64 97) t25) fun t26 =>
  OP (cvI .u8 t26) fun t27 =>
  OP (binI .shr x0 (.int .u64 7)) fun t29 =>
  OP (binI .and t29 (.int .i64 1)) fun t30 =>
  OP (binI .add (.int .i64 48) t30) fun t31 =>
  OP (cvI .u8 t31) fun t32 =>
  OP (bldL (.int .u8 0) 1 2 [(0, t27), (1, t32)]) fun c_2 =>
  LT (.slice (some ⟨M4.n, 0, none⟩) 2 2) (M4.push (some (.inl (c_2, Ty.uint8, true)))) fun t33 M5 =>
  OP (bldL (.slice none 0 0) 1 1 [(0, t33)]) fun c_3 =>
  LT (.slice (some ⟨M5.n, 0, none⟩) 1 1) (M5.push (some (.inl (c_3, Ty.sl_uint8, true)))) fun t34 M6 =>
  R F.fettleref10_Print #[t22, t34] M6 fun t35 M7 =>
  R F.fettleref10_Value #[t35] M7 fun t38 M8 =>
  OP (tup t38 0) fun t39 =>
  OP (tup t38 1) fun t40 =>
  OP (binI .and x0 (.int .i64 15)) fun t42 =>
  OP (binI .eql t42 (.int .i64 14)) fun t43 =>
  BR t43 (
  OP (bldL (.int .u8 0) 1 3 [(0, (.int .u8 108)), (1, (.int .u8 105)), (2, (.int .u8 101))]) fun c_4 =>
  LT (.slice (some ⟨M8.n, 0, none⟩) 3 3) (M8.push (some (.inl (c_4, Ty.uint8, true)))) fun t44 M9 =>
  OP2 (cvId t44 M9) fun t45 M10 =>
  P_fettlelaw25_Commit_1 x0 t2 t35 t45 M10 Q
  ) (
  P_fettlelaw25_Commit_1 x0 t2 t35 t39 M8 Q
  )
  )
theorem T_fettlelaw25_Commit {x0 : Value} {M : Store} {Q : Value → Store → Prop} (h : S_fettlelaw25_Commit x0 M Q) : R F.fettlelaw25_Commit #[x0] M Q := by
  refine runs_of (c := bodyOf Try.f44) Try.func44 rfl (by kernel_rfl) (by kernel_rfl) ?_
  unfold At
  exact rule (B := 1000) (N := 65) (ct := (.two .no (.two .no (.two .no (.two .no (.two .no (.here 1000)))))))
    [⟨1002, fun a M => dfr a.defers (P_fettlelaw25_Commit_1 (a.get 0) (a.get 2) (a.get 3) (a.get 4) M Q), fun a M => At Try.prog Ex none Try.f44 [1, 1, 1, 1, 1] a M Q⟩,
    ⟨1, fun a M => kfin Try.prog Try.f44.results.toList Q 1 a M, fun a M => kfin Try.prog Try.f44.results.toList Q 1 a M⟩]
    [1000] [1] (by kernel_rfl) (by kernel_rfl) (by kernel_rfl) (by kernel_rfl) (by kernel_rfl)
    ⟨fun a M hn h => by obtain ⟨⟨n, f⟩, ds⟩ := a; have hn : n = 65 := hn; subst hn; obtain ⟨hd, h⟩ := dfr_iff h; have hd : ds = [] := hd; subst hd; exact h f rfl rfl rfl rfl,
    fun _ _ _ h => h,
    trivial⟩
    (cast (by kernel_rfl) h)
def S_fettlelaw25_Commit_1 (x0 x2 x3 x4 : Value) (M : Store) (Q : Value → Store → Prop) : Prop :=
  R F.fettleref10_Make #[x3, x4] M fun t48 M1 =>
  OP (binI .and x0 (.int .i64 15)) fun t50 =>
  OP (binI .eql t50 (.int .i64 13)) fun t51 =>
  BR t51 (
  OP (bldL (.int .u8 0) 1 4 [(0, (.int .u8 110)), (1, (.int .u8 111)), (2, (.int .u8 110)), (3, (.int .u8 101))]) fun c =>
  LT (.slice (some ⟨M1.n, 0, none⟩) 4 4) (M1.push (some (.inl (c, Ty.uint8, true)))) fun t52 M2 =>
  OP2 (cvId t52 M2) fun t53 M3 =>
  P_fettlelaw25_Commit_2 x0 x2 t53 M3 Q
  ) (
  P_fettlelaw25_Commit_2 x0 x2 t48 M1 Q
  )
theorem T_fettlelaw25_Commit_1 {x0 x2 x3 x4 : Value} {M : Store} {Q : Value → Store → Prop} (h : S_fettlelaw25_Commit_1 x0 x2 x3 x4 M Q) : P_fettlelaw25_Commit_1 x0 x2 x3 x4 M Q := by
  intro f h0 h2 h3 h4; subst h0; subst h2; subst h3; subst h4
  unfold At
  exact rule (B := 1000) (N := 65) (ct := (.two .no (.two .no (.here 1000))))
    [⟨1002, fun a M => dfr a.defers (P_fettlelaw25_Commit_2 (a.get 0) (a.get 2) (a.get 6) M Q), fun a M => At Try.prog Ex none Try.f44 [1, 1, 1, 1, 1, 1, 1] a M Q⟩]
    [1000] [] (by kernel_rfl) (by kernel_rfl) (by kernel_rfl) (by kernel_rfl) (by kernel_rfl)
    ⟨fun a M hn h => by obtain ⟨⟨n, f⟩, ds⟩ := a; have hn : n = 65 := hn; subst hn; obtain ⟨hd, h⟩ := dfr_iff h; have hd : ds = [] := hd; subst hd; exact h f rfl rfl rfl,
    trivial⟩
    (cast (by kernel_rfl) h)
def S_fettlelaw25_Commit_2 (x0 x2 x6 : Value) (M : Store) (Q : Value → Store → Prop) : Prop :=
  OP (binI .shr x0 (.int .u64 4)) fun t55 =>
  OP (binI .and t55 (.int .i64 1)) fun t56 =>
  OP (bldL (.string ⟨#[]⟩) 1 2 [(0, (.string ⟨#[97]⟩)), (1, (.string ⟨#[98]⟩))]) fun c =>
  LT (.slice (some ⟨M.n, 0, none⟩) 2 2) (M.push (some (.inl (c, Ty.string, true)))) fun t57 M1 =>
  OP (binI .shr x0 (.int .u64 5)) fun t59 =>
  OP (binI .and t59 (.int .i64 1)) fun t60 =>
  OP (ixA 1 t57 t60) fun t61 =>
  OP (ld 1 false t61 M1) fun t62 =>
  OP (bldS #[(.int .i64 0), (.string ⟨#[]⟩), (.slice none 0 0), (.bool false)] [(0, 1), (1, 1), (2, 1), (3, 1)] [(0, t56), (1, t62), (2, x6)]) fun t64 =>
  OP (st 4 x2 t64 M1) fun M2 =>
  OP (ld 4 true x2 M2) fun r2 =>
  NTs [r2] ∧ Q r2 M2
theorem T_fettlelaw25_Commit_2 {x0 x2 x6 : Value} {M : Store} {Q : Value → Store → Prop} (h : S_fettlelaw25_Commit_2 x0 x2 x6 M Q) : P_fettlelaw25_Commit_2 x0 x2 x6 M Q := by
  intro f h0 h2 h6; subst h0; subst h2; subst h6
  unfold At
  exact rule (B := 1000) (N := 65) (ct := .no)
    [⟨1, fun a M => kfin Try.prog Try.f44.results.toList Q 1 a M, fun a M => kfin Try.prog Try.f44.results.toList Q 1 a M⟩]
    [] [1] (by kernel_rfl) (by kernel_rfl) (by kernel_rfl) (by kernel_rfl) (by kernel_rfl)
    ⟨fun _ _ _ h => h,
    trivial⟩
    (cast (by kernel_rfl) h)
def P_hist_Last_1 (x0 x1 x6 : Value) (M : Store) (Q : Value → Store → Prop) : Prop :=
  ∀ f : Nat → Value, f 0 = x0 → f 1 = x1 → f 6 = x6 → At Try.prog Ex none Try.f46 [1, 0, 1, 0] ⟨⟨32, f⟩, []⟩ M Q
def P_hist_Last_2 (x0 x1 x6 : Value) (M : Store) (Q : Value → Store → Prop) : Prop :=
  ∀ f : Nat → Value, f 0 = x0 → f 1 = x1 → f 6 = x6 → At Try.prog Ex none Try.f46 [1, 0, 1, 0, 0, 1] ⟨⟨32, f⟩, []⟩ M Q
def P_hist_Last_3 (M : Store) (Q : Value → Store → Prop) : Prop :=
  ∀ f : Nat → Value, At Try.prog Ex none Try.f46 [1, 1] ⟨⟨32, f⟩, []⟩ M Q
def P_hist_Last_4 (x0 x6 : Value) (M : Store) (Q : Value → Store → Prop) : Prop :=
  ∀ f : Nat → Value, f 0 = x0 → f 6 = x6 → At Try.prog Ex none Try.f46 [1, 0, 1, 0, 0, 1, 0, 0, 1] ⟨⟨32, f⟩, []⟩ M Q
def S_hist_Last (x0 x1 : Value) (M : Store) (Q : Value → Store → Prop) : Prop :=
  OP (lenV x0) fun t8 =>
  OP (binI .sub t8 (.int .i64 1)) fun t9 =>
  P_hist_Last_1 x0 x1 t9 M Q
theorem T_hist_Last {x0 x1 : Value} {M : Store} {Q : Value → Store → Prop} (h : S_hist_Last x0 x1 M Q) : R F.hist_Last #[x0, x1] M Q := by
  refine runs_of (c := bodyOf Try.f46) Try.func46 rfl (by kernel_rfl) (by kernel_rfl) ?_
  unfold At
  exact rule (B := 1000) (N := 32) (ct := (.two .no (.two (.two .no (.two (.here 1000) .no)) (.here 1001))))
    [⟨1002, fun a M => dfr a.defers (P_hist_Last_1 (a.get 0) (a.get 1) (a.get 6) M Q), fun a M => At Try.prog Ex none Try.f46 [1, 0, 1, 0] a M Q⟩,
    ⟨1003, fun _ _ => False, fun a M => At Try.prog Ex none Try.f46 [1, 1] a M Q⟩]
    [1000, 1001] [] (by kernel_rfl) (by kernel_rfl) (by kernel_rfl) (by kernel_rfl) (by kernel_rfl)
    ⟨fun a M hn h => by obtain ⟨⟨n, f⟩, ds⟩ := a; have hn : n = 32 := hn; subst hn; obtain ⟨hd, h⟩ := dfr_iff h; have hd : ds = [] := hd; subst hd; exact h f rfl rfl rfl,
    fun _ _ _ h => h.elim,
    trivial⟩
    (cast (by kernel_rfl) h)
def S_hist_Last_1 (x0 x1 x6 : Value) (M : Store) (Q : Value → Store → Prop) : Prop :=
  OP (binI .geq x6 (.int .i64 0)) fun t11 =>
  BR t11 (
  P_hist_Last_2 x0 x1 x6 M Q
  ) (
  P_hist_Last_3 M Q
  )
theorem T_hist_Last_1 {x0 x1 x6 : Value} {M : Store} {Q : Value → Store → Prop} (h : S_hist_Last_1 x0 x1 x6 M Q) : P_hist_Last_1 x0 x1 x6 M Q := by
  intro f h0 h1 h6; subst h0; subst h1; subst h6
  unfold At
  refine cast (by kernel_rfl) (CW.loop (P := Try.prog) (E := Ex) (rd := none) (x := sub (bodyOf Try.f46) [1, 0, 1, 0, 0]) (a := ⟨⟨32, f⟩, []⟩) (M := M) (K := kcont Try.prog Ex none (bodyOf Try.f46) [1, 0, 1, 0] (kfin Try.prog Try.f46.results.toList Q)) ?_)
  exact rule (B := 1000) (N := 32) (ct := (.two .no (.here 1000)))
    [⟨1002, fun a M => dfr a.defers (P_hist_Last_2 (a.get 0) (a.get 1) (a.get 6) M Q), fun a M => At Try.prog Ex none Try.f46 [1, 0, 1, 0, 0, 1] a M Q⟩,
    ⟨2, fun a M => dfr a.defers (P_hist_Last_3 M Q), fun a M => At Try.prog Ex none Try.f46 [1, 1] a M Q⟩]
    [1000] [2] (by kernel_rfl) (by kernel_rfl) (by kernel_rfl) (by kernel_rfl) (by kernel_rfl)
    ⟨fun a M hn h => by obtain ⟨⟨n, f⟩, ds⟩ := a; have hn : n = 32 := hn; subst hn; obtain ⟨hd, h⟩ := dfr_iff h; have hd : ds = [] := hd; subst hd; exact h f rfl rfl rfl,
    fun a M hn h => by obtain ⟨⟨n, f⟩, ds⟩ := a; have hn : n = 32 := hn; subst hn; obtain ⟨hd, h⟩ := dfr_iff h; have hd : ds = [] := hd; subst hd; exact h f,
    trivial⟩
    (cast (by kernel_rfl) h)
def S_hist_Last_2 (x0 x1 x6 : Value) (M : Store) (Q : Value → Store → Prop) : Prop :=
  OP (ixA 4 x0 x6) fun t16 =>
  OP (fad 1 t16) fun t17 =>
  OP (ld 1 false t17 M) fun t18 =>
  OP (binS .neq t18 x1) fun t20 =>
  BR t20 (
  OP (binI .sub x6 (.int .i64 1)) fun t13 =>
  P_hist_Last_1 x0 x1 t13 M Q
  ) (
  P_hist_Last_4 x0 x6 M Q
  )
theorem T_hist_Last_2 {x0 x1 x6 : Value} {M : Store} {Q : Value → Store → Prop} (h : S_hist_Last_2 x0 x1 x6 M Q) : P_hist_Last_2 x0 x1 x6 M Q := by
  intro f h0 h1 h6; subst h0; subst h1; subst h6
  unfold At
  exact rule (B := 1000) (N := 32) (ct := (.two (.two (.two .no (.here 1000)) .no) .no))
    [⟨1002, fun a M => dfr a.defers (P_hist_Last_4 (a.get 0) (a.get 6) M Q), fun a M => At Try.prog Ex none Try.f46 [1, 0, 1, 0, 0, 1, 0, 0, 1] a M Q⟩,
    ⟨0, fun a M => dfr a.defers (P_hist_Last_1 (a.get 0) (a.get 1) (a.get 6) M Q), fun a M => At Try.prog Ex none Try.f46 [1, 0, 1, 0] a M Q⟩]
    [1000] [0] (by kernel_rfl) (by kernel_rfl) (by kernel_rfl) (by kernel_rfl) (by kernel_rfl)
    ⟨fun a M hn h => by obtain ⟨⟨n, f⟩, ds⟩ := a; have hn : n = 32 := hn; subst hn; obtain ⟨hd, h⟩ := dfr_iff h; have hd : ds = [] := hd; subst hd; exact h f rfl rfl,
    fun a M hn h => by obtain ⟨⟨n, f⟩, ds⟩ := a; have hn : n = 32 := hn; subst hn; obtain ⟨hd, h⟩ := dfr_iff h; have hd : ds = [] := hd; subst hd; exact h f rfl rfl rfl,
    trivial⟩
    (cast (by kernel_rfl) h)
def S_hist_Last_3 (M : Store) (Q : Value → Store → Prop) : Prop :=
  NTs [(.slice none 0 0), (.bool false)] ∧ Q (.tuple #[(.slice none 0 0), (.bool false)]) M
theorem T_hist_Last_3 {M : Store} {Q : Value → Store → Prop} (h : S_hist_Last_3 M Q) : P_hist_Last_3 M Q := by
  intro f 
  unfold At
  exact rule (B := 1000) (N := 32) (ct := .no)
    [⟨1, fun a M => kfin Try.prog Try.f46.results.toList Q 1 a M, fun a M => kfin Try.prog Try.f46.results.toList Q 1 a M⟩]
    [] [1] (by kernel_rfl) (by kernel_rfl) (by kernel_rfl) (by kernel_rfl) (by kernel_rfl)
    ⟨fun _ _ _ h => h,
    trivial⟩
    (cast (by kernel_rfl) h)
def S_hist_Last_4 (x0 x6 : Value) (M : Store) (Q : Value → Store → Prop) : Prop :=
  OP (ixA 4 x0 x6) fun t23 =>
  OP (fad 3 t23) fun t24 =>
  OP (ld 1 false t24 M) fun t25 =>
  BR t25 (
  NTs [(.slice none 0 0), (.bool false)] ∧ Q (.tuple #[(.slice none 0 0), (.bool false)]) M
  ) (
  OP (ixA 4 x0 x6) fun t28 =>
  OP (fad 2 t28) fun t29 =>
  OP (ld 1 false t29 M) fun t30 =>
  R F.slices_Clone_sl_byte_byte #[t30] M fun t31 M1 =>
  NTs [t31, (.bool true)] ∧ Q (.tuple #[t31, (.bool true)]) M1
  )
theorem T_hist_Last_4 {x0 x6 : Value} {M : Store} {Q : Value → Store → Prop} (h : S_hist_Last_4 x0 x6 M Q) : P_hist_Last_4 x0 x6 M Q := by
  intro f h0 h6; subst h0; subst h6
  unfold At
  exact rule (B := 1000) (N := 32) (ct := .no)
    [⟨1, fun a M => kfin Try.prog Try.f46.results.toList Q 1 a M, fun a M => kfin Try.prog Try.f46.results.toList Q 1 a M⟩]
    [] [1] (by kernel_rfl) (by kernel_rfl) (by kernel_rfl) (by kernel_rfl) (by kernel_rfl)
    ⟨fun _ _ _ h => h,
    trivial⟩
    (cast (by kernel_rfl) h)
def P_fettleref10_Within_1 (x0 x1 x5 x6 : Value) (M : Store) (Q : Value → Store → Prop) : Prop :=
  ∀ f : Nat → Value, f 0 = x0 → f 1 = x1 → f 5 = x5 → f 6 = x6 → At Try.prog Ex none Try.f48 [1, 1, 0, 1, 0] ⟨⟨84, f⟩, []⟩ M Q
def P_fettleref10_Within_2 (x0 x1 x5 x6 : Value) (M : Store) (Q : Value → Store → Prop) : Prop :=
  ∀ f : Nat → Value, f 0 = x0 → f 1 = x1 → f 5 = x5 → f 6 = x6 → At Try.prog Ex none Try.f48 [1, 1, 0, 1, 0, 0, 1, 0, 0, 0, 0] ⟨⟨84, f⟩, []⟩ M Q
def P_fettleref10_Within_3 (M : Store) (Q : Value → Store → Prop) : Prop :=
  ∀ f : Nat → Value, At Try.prog Ex none Try.f48 [1, 1, 1] ⟨⟨84, f⟩, []⟩ M Q
def P_fettleref10_Within_4 (x0 x1 x5 x6 : Value) (M : Store) (Q : Value → Store → Prop) : Prop :=
  ∀ f : Nat → Value, f 0 = x0 → f 1 = x1 → f 5 = x5 → f 6 = x6 → At Try.prog Ex none Try.f48 [1, 1, 0, 1, 0, 0, 1, 0, 0, 0, 0, 0, 1] ⟨⟨84, f⟩, []⟩ M Q
def P_fettleref10_Within_5 (x0 x1 x5 x6 : Value) (M : Store) (Q : Value → Store → Prop) : Prop :=
  ∀ f : Nat → Value, f 0 = x0 → f 1 = x1 → f 5 = x5 → f 6 = x6 → At Try.prog Ex none Try.f48 [1, 1, 0, 1, 0, 0, 1, 0, 0, 1] ⟨⟨84, f⟩, []⟩ M Q
def P_fettleref10_Within_6 (x0 x1 x5 x6 : Value) (M : Store) (Q : Value → Store → Prop) : Prop :=
  ∀ f : Nat → Value, f 0 = x0 → f 1 = x1 → f 5 = x5 → f 6 = x6 → At Try.prog Ex none Try.f48 [1, 1, 0, 1, 0, 0, 1, 1] ⟨⟨84, f⟩, []⟩ M Q
def S_fettleref10_Within (x0 x1 : Value) (M : Store) (Q : Value → Store → Prop) : Prop :=
  P_fettleref10_Within_1 x0 x1 (.int .i64 0) (.int .i64 0) M Q
theorem T_fettleref10_Within {x0 x1 : Value} {M : Store} {Q : Value → Store → Prop} (h : S_fettleref10_Within x0 x1 M Q) : R F.fettleref10_Within #[x0, x1] M Q := by
  refine runs_of (c := bodyOf Try.f48) Try.func48 rfl (by kernel_rfl) (by kernel_rfl) ?_
  unfold At
  exact rule (B := 1000) (N := 84) (ct := (.two .no (.two .no (.two (.two .no (.two (.here 1000) .no)) (.here 1001)))))
    [⟨1002, fun a M => dfr a.defers (P_fettleref10_Within_1 (a.get 0) (a.get 1) (a.get 5) (a.get 6) M Q), fun a M => At Try.prog Ex none Try.f48 [1, 1, 0, 1, 0] a M Q⟩,
    ⟨1003, fun _ _ => False, fun a M => At Try.prog Ex none Try.f48 [1, 1, 1] a M Q⟩]
    [1000, 1001] [] (by kernel_rfl) (by kernel_rfl) (by kernel_rfl) (by kernel_rfl) (by kernel_rfl)
    ⟨fun a M hn h => by obtain ⟨⟨n, f⟩, ds⟩ := a; have hn : n = 84 := hn; subst hn; obtain ⟨hd, h⟩ := dfr_iff h; have hd : ds = [] := hd; subst hd; exact h f rfl rfl rfl rfl,
    fun _ _ _ h => h.elim,
    trivial⟩
    (cast (by kernel_rfl) h)
def S_fettleref10_Within_1 (x0 x1 x5 x6 : Value) (M : Store) (Q : Value → Store → Prop) : Prop :=
  OP (lenV x0) fun t12 =>
  OP (binI .lss x6 t12) fun t13 =>
  BR t13 (
  P_fettleref10_Within_2 x0 x1 x5 x6 M Q
  ) (
  P_fettleref10_Within_3 M Q
  )
theorem T_fettleref10_Within_1 {x0 x1 x5 x6 : Value} {M : Store} {Q : Value → Store → Prop} (h : S_fettleref10_Within_1 x0 x1 x5 x6 M Q) : P_fettleref10_Within_1 x0 x1 x5 x6 M Q := by
  intro f h0 h1 h5 h6; subst h0; subst h1; subst h5; subst h6
  unfold At
  refine cast (by kernel_rfl) (CW.loop (P := Try.prog) (E := Ex) (rd := none) (x := sub (bodyOf Try.f48) [1, 1, 0, 1, 0, 0]) (a := ⟨⟨84, f⟩, []⟩) (M := M) (K := kcont Try.prog Ex none (bodyOf Try.f48) [1, 1, 0, 1, 0] (kfin Try.prog Try.f48.results.toList Q)) ?_)
  exact rule (B := 1000) (N := 84) (ct := (.two .no (.two (.two (.two (.two (.here 1000) .no) (.here 1001)) .no) (.here 1002))))
    [⟨1002, fun a M => dfr a.defers (P_fettleref10_Within_2 (a.get 0) (a.get 1) (a.get 5) (a.get 6) M Q), fun a M => At Try.prog Ex none Try.f48 [1, 1, 0, 1, 0, 0, 1, 0, 0, 0, 0] a M Q⟩,
    ⟨1003, fun _ _ => False, fun a M => At Try.prog Ex none Try.f48 [1, 1, 0, 1, 0, 0, 1, 0, 0, 1] a M Q⟩,
    ⟨1004, fun _ _ => False, fun a M => At Try.prog Ex none Try.f48 [1, 1, 0, 1, 0, 0, 1, 1] a M Q⟩,
    ⟨2, fun a M => dfr a.defers (P_fettleref10_Within_3 M Q), fun a M => At Try.prog Ex none Try.f48 [1, 1, 1] a M Q⟩]
    [1000, 1001, 1002] [2] (by kernel_rfl) (by kernel_rfl) (by kernel_rfl) (by kernel_rfl) (by kernel_rfl)
    ⟨fun a M hn h => by obtain ⟨⟨n, f⟩, ds⟩ := a; have hn : n = 84 := hn; subst hn; obtain ⟨hd, h⟩ := dfr_iff h; have hd : ds = [] := hd; subst hd; exact h f rfl rfl rfl rfl,
    fun _ _ _ h => h.elim,
    fun _ _ _ h => h.elim,
    fun a M hn h => by obtain ⟨⟨n, f⟩, ds⟩ := a; have hn : n = 84 := hn; subst hn; obtain ⟨hd, h⟩ := dfr_iff h; have hd : ds = [] := hd; subst hd; exact h f,
    trivial⟩
    (cast (by kernel_rfl) h)
def S_fettleref10_Within_2 (x0 x1 x5 x6 : Value) (M : Store) (Q : Value → Store → Prop) : Prop :=
  OP (lenV x1) fun t18 =>
  OP (binI .lss x5 t18) fun t19 =>
  BR t19 (
  P_fettleref10_Within_4 x0 x1 x5 x6 M Q
  ) (
  P_fettleref10_Within_5 x0 x1 x5 x6 M Q
  )
theorem T_fettleref10_Within_2 {x0 x1 x5 x6 : Value} {M : Store} {Q : Value → Store → Prop} (h : S_fettleref10_Within_2 x0 x1 x5 x6 M Q) : P_fettleref10_Within_2 x0 x1 x5 x6 M Q := by
  intro f h0 h1 h5 h6; subst h0; subst h1; subst h5; subst h6
  unfold At
  refine cast (by kernel_rfl) (CW.loop (P := Try.prog) (E := Ex) (rd := none) (x := sub (bodyOf Try.f48) [1, 1, 0, 1, 0, 0, 1, 0, 0, 0, 0, 0]) (a := ⟨⟨84, f⟩, []⟩) (M := M) (K := kcont Try.prog Ex none (bodyOf Try.f48) [1, 1, 0, 1, 0, 0, 1, 0, 0, 0, 0] (kfin Try.prog Try.f48.results.toList Q)) ?_)
  exact rule (B := 1000) (N := 84) (ct := (.two .no (.here 1000)))
    [⟨1002, fun a M => dfr a.defers (P_fettleref10_Within_4 (a.get 0) (a.get 1) (a.get 5) (a.get 6) M Q), fun a M => At Try.prog Ex none Try.f48 [1, 1, 0, 1, 0, 0, 1, 0, 0, 0, 0, 0, 1] a M Q⟩,
    ⟨4, fun a M => dfr a.defers (P_fettleref10_Within_5 (a.get 0) (a.get 1) (a.get 5) (a.get 6) M Q), fun a M => At Try.prog Ex none Try.f48 [1, 1, 0, 1, 0, 0, 1, 0, 0, 1] a M Q⟩]
    [1000] [4] (by kernel_rfl) (by kernel_rfl) (by kernel_rfl) (by kernel_rfl) (by kernel_rfl)
    ⟨fun a M hn h => by obtain ⟨⟨n, f⟩, ds⟩ := a; have hn : n = 84 := hn; subst hn; obtain ⟨hd, h⟩ := dfr_iff h; have hd : ds = [] := hd; subst hd; exact h f rfl rfl rfl rfl,
    fun a M hn h => by obtain ⟨⟨n, f⟩, ds⟩ := a; have hn : n = 84 := hn; subst hn; obtain ⟨hd, h⟩ := dfr_iff h; have hd : ds = [] := hd; subst hd; exact h f rfl rfl rfl rfl,
    trivial⟩
    (cast (by kernel_rfl) h)
def S_fettleref10_Within_3 (M : Store) (Q : Value → Store → Prop) : Prop :=
  NTs [(.bool true)] ∧ Q (.bool true) M
theorem T_fettleref10_Within_3 {M : Store} {Q : Value → Store → Prop} (h : S_fettleref10_Within_3 M Q) : P_fettleref10_Within_3 M Q := by
  intro f 
  unfold At
  exact rule (B := 1000) (N := 84) (ct := .no)
    [⟨1, fun a M => kfin Try.prog Try.f48.results.toList Q 1 a M, fun a M => kfin Try.prog Try.f48.results.toList Q 1 a M⟩]
    [] [1] (by kernel_rfl) (by kernel_rfl) (by kernel_rfl) (by kernel_rfl) (by kernel_rfl)
    ⟨fun _ _ _ h => h,
    trivial⟩
    (cast (by kernel_rfl) h)
def S_fettleref10_Within_4 (x0 x1 x5 x6 : Value) (M : Store) (Q : Value → Store → Prop) : Prop :=
  OP (ixA 4 x1 x5) fun t23 =>
  OP (fad 2 t23) fun t24 =>
  OP (ld 1 false t24 M) fun t25 =>
  R F.fettleref10_Open #[t25] M fun t26 M1 =>
  OP (tup t26 0) fun t27 =>
  OP (tup t26 1) fun t28 =>
  OP (tup t26 2) fun t29 =>
  BR t29 (
  OP (ixA 4 x1 x5) fun t34 =>
  OP (fad 3 t34) fun t35 =>
  OP (ld 1 false t35 M1) fun t36 =>
  OP (aun .not t36) fun t37 =>
  BR t37 (
  OP (ixA 4 x1 x5) fun t42 =>
  OP (fad 1 t42) fun t43 =>
  OP (ld 1 false t43 M1) fun t44 =>
  OP (ixA 4 x0 x6) fun t47 =>
  OP (fad 0 t47) fun t48 =>
  OP (ld 1 false t48 M1) fun t49 =>
  OP (binS .eql t44 t49) fun t50 =>
  BR t50 (
  OP (ixA 4 x1 x5) fun t55 =>
  OP (fad 0 t55) fun t56 =>
  OP (ld 1 false t56 M1) fun t57 =>
  OP (ixA 4 x0 x6) fun t60 =>
  OP (fad 1 t60) fun t61 =>
  OP (ld 1 false t61 M1) fun t62 =>
  OP (binI .eql t57 t62) fun t63 =>
  BR t63 (
  OP (cvBS t27 M1) fun t67 =>
  OP (ixA 4 x0 x6) fun t70 =>
  OP (fad 3 t70) fun t71 =>
  OP (ld 1 false t71 M1) fun t72 =>
  OP (cvBS t72 M1) fun t73 =>
  OP (binS .eql t67 t73) fun t74 =>
  BR t74 (
  P_fettleref10_Within_5 x0 x1 x5 x6 M1 Q
  ) (
  OP (binI .add x5 (.int .i64 1)) fun t77 =>
  P_fettleref10_Within_2 x0 x1 t77 x6 M1 Q
  )
  ) (
  OP (binI .add x5 (.int .i64 1)) fun t77_1 =>
  P_fettleref10_Within_2 x0 x1 t77_1 x6 M1 Q
  )
  ) (
  OP (binI .add x5 (.int .i64 1)) fun t77_2 =>
  P_fettleref10_Within_2 x0 x1 t77_2 x6 M1 Q
  )
  ) (
  OP (binI .add x5 (.int .i64 1)) fun t77_3 =>
  P_fettleref10_Within_2 x0 x1 t77_3 x6 M1 Q
  )
  ) (
  OP (binI .add x5 (.int .i64 1)) fun t77_4 =>
  P_fettleref10_Within_2 x0 x1 t77_4 x6 M1 Q
  )
theorem T_fettleref10_Within_4 {x0 x1 x5 x6 : Value} {M : Store} {Q : Value → Store → Prop} (h : S_fettleref10_Within_4 x0 x1 x5 x6 M Q) : P_fettleref10_Within_4 x0 x1 x5 x6 M Q := by
  intro f h0 h1 h5 h6; subst h0; subst h1; subst h5; subst h6
  unfold At
  exact rule (B := 1000) (N := 84) (ct := .no)
    [⟨0, fun a M => dfr a.defers (P_fettleref10_Within_2 (a.get 0) (a.get 1) (a.get 5) (a.get 6) M Q), fun a M => At Try.prog Ex none Try.f48 [1, 1, 0, 1, 0, 0, 1, 0, 0, 0, 0] a M Q⟩,
    ⟨4, fun a M => dfr a.defers (P_fettleref10_Within_5 (a.get 0) (a.get 1) (a.get 5) (a.get 6) M Q), fun a M => At Try.prog Ex none Try.f48 [1, 1, 0, 1, 0, 0, 1, 0, 0, 1] a M Q⟩]
    [] [0, 4] (by kernel_rfl) (by kernel_rfl) (by kernel_rfl) (by kernel_rfl) (by kernel_rfl)
    ⟨fun a M hn h => by obtain ⟨⟨n, f⟩, ds⟩ := a; have hn : n = 84 := hn; subst hn; obtain ⟨hd, h⟩ := dfr_iff h; have hd : ds = [] := hd; subst hd; exact h f rfl rfl rfl rfl,
    fun a M hn h => by obtain ⟨⟨n, f⟩, ds⟩ := a; have hn : n = 84 := hn; subst hn; obtain ⟨hd, h⟩ := dfr_iff h; have hd : ds = [] := hd; subst hd; exact h f rfl rfl rfl rfl,
    trivial⟩
    (cast (by kernel_rfl) h)
def S_fettleref10_Within_5 (x0 x1 x5 x6 : Value) (M : Store) (Q : Value → Store → Prop) : Prop :=
  OP (lenV x1) fun t80 =>
  OP (binI .eql x5 t80) fun t81 =>
  BR t81 (
  NTs [(.bool false)] ∧ Q (.bool false) M
  ) (
  OP (binI .add x5 (.int .i64 1)) fun t83 =>
  P_fettleref10_Within_6 x0 x1 t83 x6 M Q
  )
theorem T_fettleref10_Within_5 {x0 x1 x5 x6 : Value} {M : Store} {Q : Value → Store → Prop} (h : S_fettleref10_Within_5 x0 x1 x5 x6 M Q) : P_fettleref10_Within_5 x0 x1 x5 x6 M Q := by
  intro f h0 h1 h5 h6; subst h0; subst h1; subst h5; subst h6
  unfold At
  exact rule (B := 1000) (N := 84) (ct := .no)
    [⟨0, fun a M => dfr a.defers (P_fettleref10_Within_6 (a.get 0) (a.get 1) (a.get 5) (a.get 6) M Q), fun a M => At Try.prog Ex none Try.f48 [1, 1, 0, 1, 0, 0, 1, 1] a M Q⟩,
    ⟨1, fun a M => kfin Try.prog Try.f48.results.toList Q 1 a M, fun a M => kfin Try.prog Try.f48.results.toList Q 1 a M⟩]
    [] [0, 1] (by kernel_rfl) (by kernel_rfl) (by kernel_rfl) (by kernel_rfl) (by kernel_rfl)
    ⟨fun a M hn h => by obtain ⟨⟨n, f⟩, ds⟩ := a; have hn : n = 84 := hn; subst hn; obtain ⟨hd, h⟩ := dfr_iff h; have hd : ds = [] := hd; subst hd; exact h f rfl rfl rfl rfl,
    fun _ _ _ h => h,
    trivial⟩
    (cast (by kernel_rfl) h)
def S_fettleref10_Within_6 (x0 x1 x5 x6 : Value) (M : Store) (Q : Value → Store → Prop) : Prop :=
  OP (binI .add x6 (.int .i64 1)) fun t15 =>
  P_fettleref10_Within_1 x0 x1 x5 t15 M Q
theorem T_fettleref10_Within_6 {x0 x1 x5 x6 : Value} {M : Store} {Q : Value → Store → Prop} (h : S_fettleref10_Within_6 x0 x1 x5 x6 M Q) : P_fettleref10_Within_6 x0 x1 x5 x6 M Q := by
  intro f h0 h1 h5 h6; subst h0; subst h1; subst h5; subst h6
  unfold At
  exact rule (B := 1000) (N := 84) (ct := .no)
    [⟨0, fun a M => dfr a.defers (P_fettleref10_Within_1 (a.get 0) (a.get 1) (a.get 5) (a.get 6) M Q), fun a M => At Try.prog Ex none Try.f48 [1, 1, 0, 1, 0] a M Q⟩]
    [] [0] (by kernel_rfl) (by kernel_rfl) (by kernel_rfl) (by kernel_rfl) (by kernel_rfl)
    ⟨fun a M hn h => by obtain ⟨⟨n, f⟩, ds⟩ := a; have hn : n = 84 := hn; subst hn; obtain ⟨hd, h⟩ := dfr_iff h; have hd : ds = [] := hd; subst hd; exact h f rfl rfl rfl rfl,
    trivial⟩
    (cast (by kernel_rfl) h)
def P_fettleref10_Last_1 (x0 x1 x6 : Value) (M : Store) (Q : Value → Store → Prop) : Prop :=
  ∀ f : Nat → Value, f 0 = x0 → f 1 = x1 → f 6 = x6 → At Try.prog Ex none Try.f49 [1, 0, 1, 0] ⟨⟨32, f⟩, []⟩ M Q
def P_fettleref10_Last_2 (x0 x1 x6 : Value) (M : Store) (Q : Value → Store → Prop) : Prop :=
  ∀ f : Nat → Value, f 0 = x0 → f 1 = x1 → f 6 = x6 → At Try.prog Ex none Try.f49 [1, 0, 1, 0, 0, 1] ⟨⟨32, f⟩, []⟩ M Q
def P_fettleref10_Last_3 (M : Store) (Q : Value → Store → Prop) : Prop :=
  ∀ f : Nat → Value, At Try.prog Ex none Try.f49 [1, 1] ⟨⟨32, f⟩, []⟩ M Q
def S_fettleref10_Last (x0 x1 : Value) (M : Store) (Q : Value → Store → Prop) : Prop :=
  OP (lenV x0) fun t8 =>
  OP (binI .sub t8 (.int .i64 1)) fun t9 =>
  P_fettleref10_Last_1 x0 x1 t9 M Q
theorem T_fettleref10_Last {x0 x1 : Value} {M : Store} {Q : Value → Store → Prop} (h : S_fettleref10_Last x0 x1 M Q) : R F.fettleref10_Last #[x0, x1] M Q := by
  refine runs_of (c := bodyOf Try.f49) Try.func49 rfl (by kernel_rfl) (by kernel_rfl) ?_
  unfold At
  exact rule (B := 1000) (N := 32) (ct := (.two .no (.two (.two .no (.two (.here 1000) .no)) (.here 1001))))
    [⟨1002, fun a M => dfr a.defers (P_fettleref10_Last_1 (a.get 0) (a.get 1) (a.get 6) M Q), fun a M => At Try.prog Ex none Try.f49 [1, 0, 1, 0] a M Q⟩,
    ⟨1003, fun _ _ => False, fun a M => At Try.prog Ex none Try.f49 [1, 1] a M Q⟩]
    [1000, 1001] [] (by kernel_rfl) (by kernel_rfl) (by kernel_rfl) (by kernel_rfl) (by kernel_rfl)
    ⟨fun a M hn h => by obtain ⟨⟨n, f⟩, ds⟩ := a; have hn : n = 32 := hn; subst hn; obtain ⟨hd, h⟩ := dfr_iff h; have hd : ds = [] := hd; subst hd; exact h f rfl rfl rfl,
    fun _ _ _ h => h.elim,
    trivial⟩
    (cast (by kernel_rfl) h)
def S_fettleref10_Last_1 (x0 x1 x6 : Value) (M : Store) (Q : Value → Store → Prop) : Prop :=
  OP (binI .geq x6 (.int .i64 0)) fun t11 =>
  BR t11 (
  P_fettleref10_Last_2 x0 x1 x6 M Q
  ) (
  P_fettleref10_Last_3 M Q
  )
theorem T_fettleref10_Last_1 {x0 x1 x6 : Value} {M : Store} {Q : Value → Store → Prop} (h : S_fettleref10_Last_1 x0 x1 x6 M Q) : P_fettleref10_Last_1 x0 x1 x6 M Q := by
  intro f h0 h1 h6; subst h0; subst h1; subst h6
  unfold At
  refine cast (by kernel_rfl) (CW.loop (P := Try.prog) (E := Ex) (rd := none) (x := sub (bodyOf Try.f49) [1, 0, 1, 0, 0]) (a := ⟨⟨32, f⟩, []⟩) (M := M) (K := kcont Try.prog Ex none (bodyOf Try.f49) [1, 0, 1, 0] (kfin Try.prog Try.f49.results.toList Q)) ?_)
  exact rule (B := 1000) (N := 32) (ct := (.two .no (.here 1000)))
    [⟨1002, fun a M => dfr a.defers (P_fettleref10_Last_2 (a.get 0) (a.get 1) (a.get 6) M Q), fun a M => At Try.prog Ex none Try.f49 [1, 0, 1, 0, 0, 1] a M Q⟩,
    ⟨2, fun a M => dfr a.defers (P_fettleref10_Last_3 M Q), fun a M => At Try.prog Ex none Try.f49 [1, 1] a M Q⟩]
    [1000] [2] (by kernel_rfl) (by kernel_rfl) (by kernel_rfl) (by kernel_rfl) (by kernel_rfl)
    ⟨fun a M hn h => by obtain ⟨⟨n, f⟩, ds⟩ := a; have hn : n = 32 := hn; subst hn; obtain ⟨hd, h⟩ := dfr_iff h; have hd : ds = [] := hd; subst hd; exact h f rfl rfl rfl,
    fun a M hn h => by obtain ⟨⟨n, f⟩, ds⟩ := a; have hn : n = 32 := hn; subst hn; obtain ⟨hd, h⟩ := dfr_iff h; have hd : ds = [] := hd; subst hd; exact h f,
    trivial⟩
    (cast (by kernel_rfl) h)
def S_fettleref10_Last_2 (x0 x1 x6 : Value) (M : Store) (Q : Value → Store → Prop) : Prop :=
  OP (ixA 4 x0 x6) fun t16 =>
  OP (fad 1 t16) fun t17 =>
  OP (ld 1 false t17 M) fun t18 =>
  OP (binS .eql t18 x1) fun t20 =>
  BR t20 (
  OP (ixA 4 x0 x6) fun t23 =>
  OP (fad 2 t23) fun t24 =>
  OP (ld 1 false t24 M) fun t25 =>
  OP (ixA 4 x0 x6) fun t28 =>
  OP (fad 3 t28) fun t29 =>
  OP (ld 1 false t29 M) fun t30 =>
  OP (aun .not t30) fun t31 =>
  NTs [t25, t31] ∧ Q (.tuple #[t25, t31]) M
  ) (
  OP (binI .sub x6 (.int .i64 1)) fun t13 =>
  P_fettleref10_Last_1 x0 x1 t13 M Q
  )
theorem T_fettleref10_Last_2 {x0 x1 x6 : Value} {M : Store} {Q : Value → Store → Prop} (h : S_fettleref10_Last_2 x0 x1 x6 M Q) : P_fettleref10_Last_2 x0 x1 x6 M Q := by
  intro f h0 h1 h6; subst h0; subst h1; subst h6
  unfold At
  exact rule (B := 1000) (N := 32) (ct := .no)
    [⟨0, fun a M => dfr a.defers (P_fettleref10_Last_1 (a.get 0) (a.get 1) (a.get 6) M Q), fun a M => At Try.prog Ex none Try.f49 [1, 0, 1, 0] a M Q⟩,
    ⟨1, fun a M => kfin Try.prog Try.f49.results.toList Q 1 a M, fun a M => kfin Try.prog Try.f49.results.toList Q 1 a M⟩]
    [] [0, 1] (by kernel_rfl) (by kernel_rfl) (by kernel_rfl) (by kernel_rfl) (by kernel_rfl)
    ⟨fun a M hn h => by obtain ⟨⟨n, f⟩, ds⟩ := a; have hn : n = 32 := hn; subst hn; obtain ⟨hd, h⟩ := dfr_iff h; have hd : ds = [] := hd; subst hd; exact h f rfl rfl rfl,
    fun _ _ _ h => h,
    trivial⟩
    (cast (by kernel_rfl) h)
def S_fettleref10_Last_3 (M : Store) (Q : Value → Store → Prop) : Prop :=
  NTs [(.slice none 0 0), (.bool false)] ∧ Q (.tuple #[(.slice none 0 0), (.bool false)]) M
theorem T_fettleref10_Last_3 {M : Store} {Q : Value → Store → Prop} (h : S_fettleref10_Last_3 M Q) : P_fettleref10_Last_3 M Q := by
  intro f 
  unfold At
  exact rule (B := 1000) (N := 32) (ct := .no)
    [⟨1, fun a M => kfin Try.prog Try.f49.results.toList Q 1 a M, fun a M => kfin Try.prog Try.f49.results.toList Q 1 a M⟩]
    [] [1] (by kernel_rfl) (by kernel_rfl) (by kernel_rfl) (by kernel_rfl) (by kernel_rfl)
    ⟨fun _ _ _ h => h,
    trivial⟩
    (cast (by kernel_rfl) h)
def P_fettleref10_Honest_1 (x0 x3 : Value) (M : Store) (Q : Value → Store → Prop) : Prop :=
  ∀ f : Nat → Value, f 0 = x0 → f 3 = x3 → At Try.prog Ex none Try.f50 [1, 0, 1, 0] ⟨⟨51, f⟩, []⟩ M Q
def P_fettleref10_Honest_2 (x0 x3 : Value) (M : Store) (Q : Value → Store → Prop) : Prop :=
  ∀ f : Nat → Value, f 0 = x0 → f 3 = x3 → At Try.prog Ex none Try.f50 [1, 0, 1, 0, 0, 1] ⟨⟨51, f⟩, []⟩ M Q
def P_fettleref10_Honest_3 (M : Store) (Q : Value → Store → Prop) : Prop :=
  ∀ f : Nat → Value, At Try.prog Ex none Try.f50 [1, 1] ⟨⟨51, f⟩, []⟩ M Q
def S_fettleref10_Honest (x0 : Value) (M : Store) (Q : Value → Store → Prop) : Prop :=
  P_fettleref10_Honest_1 x0 (.int .i64 0) M Q
theorem T_fettleref10_Honest {x0 : Value} {M : Store} {Q : Value → Store → Prop} (h : S_fettleref10_Honest x0 M Q) : R F.fettleref10_Honest #[x0] M Q := by
  refine runs_of (c := bodyOf Try.f50) Try.func50 rfl (by kernel_rfl) (by kernel_rfl) ?_
  unfold At
  exact rule (B := 1000) (N := 51) (ct := (.two .no (.two (.two .no (.two (.here 1000) .no)) (.here 1001))))
    [⟨1002, fun a M => dfr a.defers (P_fettleref10_Honest_1 (a.get 0) (a.get 3) M Q), fun a M => At Try.prog Ex none Try.f50 [1, 0, 1, 0] a M Q⟩,
    ⟨1003, fun _ _ => False, fun a M => At Try.prog Ex none Try.f50 [1, 1] a M Q⟩]
    [1000, 1001] [] (by kernel_rfl) (by kernel_rfl) (by kernel_rfl) (by kernel_rfl) (by kernel_rfl)
    ⟨fun a M hn h => by obtain ⟨⟨n, f⟩, ds⟩ := a; have hn : n = 51 := hn; subst hn; obtain ⟨hd, h⟩ := dfr_iff h; have hd : ds = [] := hd; subst hd; exact h f rfl rfl,
    fun _ _ _ h => h.elim,
    trivial⟩
    (cast (by kernel_rfl) h)
def S_fettleref10_Honest_1 (x0 x3 : Value) (M : Store) (Q : Value → Store → Prop) : Prop :=
  OP (lenV x0) fun t11 =>
  OP (binI .lss x3 t11) fun t12 =>
  BR t12 (
  P_fettleref10_Honest_2 x0 x3 M Q
  ) (
  P_fettleref10_Honest_3 M Q
  )
theorem T_fettleref10_Honest_1 {x0 x3 : Value} {M : Store} {Q : Value → Store → Prop} (h : S_fettleref10_Honest_1 x0 x3 M Q) : P_fettleref10_Honest_1 x0 x3 M Q := by
  intro f h0 h3; subst h0; subst h3
  unfold At
  refine cast (by kernel_rfl) (CW.loop (P := Try.prog) (E := Ex) (rd := none) (x := sub (bodyOf Try.f50) [1, 0, 1, 0, 0]) (a := ⟨⟨51, f⟩, []⟩) (M := M) (K := kcont Try.prog Ex none (bodyOf Try.f50) [1, 0, 1, 0] (kfin Try.prog Try.f50.results.toList Q)) ?_)
  exact rule (B := 1000) (N := 51) (ct := (.two .no (.here 1000)))
    [⟨1002, fun a M => dfr a.defers (P_fettleref10_Honest_2 (a.get 0) (a.get 3) M Q), fun a M => At Try.prog Ex none Try.f50 [1, 0, 1, 0, 0, 1] a M Q⟩,
    ⟨2, fun a M => dfr a.defers (P_fettleref10_Honest_3 M Q), fun a M => At Try.prog Ex none Try.f50 [1, 1] a M Q⟩]
    [1000] [2] (by kernel_rfl) (by kernel_rfl) (by kernel_rfl) (by kernel_rfl) (by kernel_rfl)
    ⟨fun a M hn h => by obtain ⟨⟨n, f⟩, ds⟩ := a; have hn : n = 51 := hn; subst hn; obtain ⟨hd, h⟩ := dfr_iff h; have hd : ds = [] := hd; subst hd; exact h f rfl rfl,
    fun a M hn h => by obtain ⟨⟨n, f⟩, ds⟩ := a; have hn : n = 51 := hn; subst hn; obtain ⟨hd, h⟩ := dfr_iff h; have hd : ds = [] := hd; subst hd; exact h f,
    trivial⟩
    (cast (by kernel_rfl) h)
def S_fettleref10_Honest_2 (x0 x3 : Value) (M : Store) (Q : Value → Store → Prop) : Prop :=
  OP (ixA 4 x0 x3) fun t18 =>
  OP (fad 2 t18) fun t19 =>
  OP (ld 1 false t19 M) fun t20 =>
  R F.fettleref10_Open #[t20] M fun t21 M1 =>
  OP (tup t21 0) fun t22 =>
  OP (tup t21 1) fun t23 =>
  OP (tup t21 2) fun t24 =>
  R F.fettleref10_Value #[t22] M1 fun t27 M2 =>
  OP (tup t27 0) fun t28 =>
  OP (tup t27 1) fun t29 =>
  OP (ixA 4 x0 x3) fun t32 =>
  OP (fad 3 t32) fun t33 =>
  OP (ld 1 false t33 M2) fun t34 =>
  OP (aun .not t34) fun t35 =>
  BR t35 (
  OP (aun .not t24) fun t38 =>
  BR3 t38 (
  NTs [(.bool false)] ∧ Q (.bool false) M2
  ) (
  OP (aun .not t29) fun t41 =>
  BR3 t41 (
  NTs [(.bool false)] ∧ Q (.bool false) M2
  ) (
  OP (cvBS t23 M2) fun t45 =>
  OP (cvBS t28 M2) fun t47 =>
  OP (binS .neq t45 t47) fun t48 =>
  BR t48 (
  NTs [(.bool false)] ∧ Q (.bool false) M2
  ) (
  OP (binI .add x3 (.int .i64 1)) fun t14 =>
  P_fettleref10_Honest_1 x0 t14 M2 Q
  )
  ) (
  BR t41 (
  NTs [(.bool false)] ∧ Q (.bool false) M2
  ) (
  BR undef (
  NTs [(.bool false)] ∧ Q (.bool false) M2
  ) (
  OP (binI .add x3 (.int .i64 1)) fun t14_1 =>
  P_fettleref10_Honest_1 x0 t14_1 M2 Q
  )
  )
  )
  ) (
  BR t38 (
  NTs [(.bool false)] ∧ Q (.bool false) M2
  ) (
  BR undef (
  NTs [(.bool false)] ∧ Q (.bool false) M2
  ) (
  BR undef (
  NTs [(.bool false)] ∧ Q (.bool false) M2
  ) (
  OP (binI .add x3 (.int .i64 1)) fun t14_2 =>
  P_fettleref10_Honest_1 x0 t14_2 M2 Q
  )
  )
  )
  )
  ) (
  OP (binI .add x3 (.int .i64 1)) fun t14_3 =>
  P_fettleref10_Honest_1 x0 t14_3 M2 Q
  )
theorem T_fettleref10_Honest_2 {x0 x3 : Value} {M : Store} {Q : Value → Store → Prop} (h : S_fettleref10_Honest_2 x0 x3 M Q) : P_fettleref10_Honest_2 x0 x3 M Q := by
  intro f h0 h3; subst h0; subst h3
  unfold At
  exact rule (B := 1000) (N := 51) (ct := .no)
    [⟨0, fun a M => dfr a.defers (P_fettleref10_Honest_1 (a.get 0) (a.get 3) M Q), fun a M => At Try.prog Ex none Try.f50 [1, 0, 1, 0] a M Q⟩,
    ⟨1, fun a M => kfin Try.prog Try.f50.results.toList Q 1 a M, fun a M => kfin Try.prog Try.f50.results.toList Q 1 a M⟩]
    [] [0, 1] (by kernel_rfl) (by kernel_rfl) (by kernel_rfl) (by kernel_rfl) (by kernel_rfl)
    ⟨fun a M hn h => by obtain ⟨⟨n, f⟩, ds⟩ := a; have hn : n = 51 := hn; subst hn; obtain ⟨hd, h⟩ := dfr_iff h; have hd : ds = [] := hd; subst hd; exact h f rfl rfl,
    fun _ _ _ h => h,
    trivial⟩
    (cast (by kernel_rfl) h)
def S_fettleref10_Honest_3 (M : Store) (Q : Value → Store → Prop) : Prop :=
  NTs [(.bool true)] ∧ Q (.bool true) M
theorem T_fettleref10_Honest_3 {M : Store} {Q : Value → Store → Prop} (h : S_fettleref10_Honest_3 M Q) : P_fettleref10_Honest_3 M Q := by
  intro f 
  unfold At
  exact rule (B := 1000) (N := 51) (ct := .no)
    [⟨1, fun a M => kfin Try.prog Try.f50.results.toList Q 1 a M, fun a M => kfin Try.prog Try.f50.results.toList Q 1 a M⟩]
    [] [1] (by kernel_rfl) (by kernel_rfl) (by kernel_rfl) (by kernel_rfl) (by kernel_rfl)
    ⟨fun _ _ _ h => h,
    trivial⟩
    (cast (by kernel_rfl) h)
def S_hist_tells (x0 x1 : Value) (M : Store) (Q : Value → Store → Prop) : Prop :=
  OP (boxv x0) fun c =>
  LT (.pointer (some ⟨M.n, 0, none⟩)) (M.push (some (.inl (c, Ty.api_Done, true)))) fun t2 M1 =>
  OP (boxv x1) fun c_1 =>
  LT (.pointer (some ⟨M1.n, 0, none⟩)) (M1.push (some (.inl (c_1, Ty.api_Commit, true)))) fun t3 M2 =>
  OP (fad 2 t3) fun t9 =>
  OP (ld 1 false t9 M2) fun t10 =>
  R F.arti_Open #[t10] M2 fun t11 M3 =>
  OP (tup t11 0) fun t12 =>
  OP (tup t11 1) fun t13 =>
  OP (tup t11 2) fun t14 =>
  BR t14 (
  OP (fad 3 t3) fun t17 =>
  OP (ld 1 false t17 M3) fun t18 =>
  OP (aun .not t18) fun t19 =>
  BR t19 (
  OP (fad 0 t2) fun t22 =>
  OP (ld 1 false t22 M3) fun t23 =>
  OP (fad 1 t3) fun t24 =>
  OP (ld 1 false t24 M3) fun t25 =>
  OP (binS .eql t23 t25) fun t26 =>
  BR t26 (
  OP (fad 1 t2) fun t29 =>
  OP (ld 1 false t29 M3) fun t30 =>
  OP (fad 0 t3) fun t31 =>
  OP (ld 1 false t31 M3) fun t32 =>
  OP (binI .eql t30 t32) fun t33 =>
  BR t33 (
  OP (fad 3 t2) fun t36 =>
  OP (ld 1 false t36 M3) fun t37 =>
  R F.bytes_Equal #[t37, t12] M3 fun t39 M4 =>
  NTs [t39] ∧ Q t39 M4
  ) (
  NTs [(.bool false)] ∧ Q (.bool false) M3
  )
  ) (
  NTs [(.bool false)] ∧ Q (.bool false) M3
  )
  ) (
  NTs [(.bool false)] ∧ Q (.bool false) M3
  )
  ) (
  NTs [(.bool false)] ∧ Q (.bool false) M3
  )
theorem T_hist_tells {x0 x1 : Value} {M : Store} {Q : Value → Store → Prop} (h : S_hist_tells x0 x1 M Q) : R F.hist_tells #[x0, x1] M Q := by
  refine runs_of (c := bodyOf Try.f94) Try.func94 rfl (by kernel_rfl) (by kernel_rfl) ?_
  unfold At
  exact rule (B := 1000) (N := 41) (ct := .no)
    [⟨1, fun a M => kfin Try.prog Try.f94.results.toList Q 1 a M, fun a M => kfin Try.prog Try.f94.results.toList Q 1 a M⟩]
    [] [1] (by kernel_rfl) (by kernel_rfl) (by kernel_rfl) (by kernel_rfl) (by kernel_rfl)
    ⟨fun _ _ _ h => h,
    trivial⟩
    (cast (by kernel_rfl) h)
end Go.G
