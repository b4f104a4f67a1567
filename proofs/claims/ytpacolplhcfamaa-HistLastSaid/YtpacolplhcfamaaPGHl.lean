/-  -/
import Derived.Test.YtpacolplhcfamaaPGN
open Go.RowKit
namespace Go.G
open Go.Ab Go.Proofs
set_option linter.unusedVariables false
set_option maxRecDepth 100000
def P_fettlelaw25_HistLast_1 (x0 x5 x6 x7 x8 x9 : Value) (M : Store) (Q : Value → Store → Prop) : Prop :=
  ∀ f : Nat → Value, f 0 = x0 → f 5 = x5 → f 6 = x6 → f 7 = x7 → f 8 = x8 → f 9 = x9 → At Try.prog Ex none Try.f12 [1, 1, 1, 1, 0, 1, 0] ⟨⟨77, f⟩, []⟩ M Q
def P_fettlelaw25_HistLast_2 (x0 x5 x6 x7 x8 x9 : Value) (M : Store) (Q : Value → Store → Prop) : Prop :=
  ∀ f : Nat → Value, f 0 = x0 → f 5 = x5 → f 6 = x6 → f 7 = x7 → f 8 = x8 → f 9 = x9 → At Try.prog Ex none Try.f12 [1, 1, 1, 1, 0, 1, 0, 0, 1] ⟨⟨77, f⟩, []⟩ M Q
def P_fettlelaw25_HistLast_3 (x6 : Value) (M : Store) (Q : Value → Store → Prop) : Prop :=
  ∀ f : Nat → Value, f 6 = x6 → At Try.prog Ex none Try.f12 [1, 1, 1, 1, 1] ⟨⟨77, f⟩, []⟩ M Q
def P_fettlelaw25_HistLast_4 (x0 x5 x6 x7 x8 x9 : Value) (M : Store) (Q : Value → Store → Prop) : Prop :=
  ∀ f : Nat → Value, f 0 = x0 → f 5 = x5 → f 6 = x6 → f 7 = x7 → f 8 = x8 → f 9 = x9 → At Try.prog Ex none Try.f12 [1, 1, 1, 1, 0, 1, 0, 0, 1, 0, 0, 1, 1, 1] ⟨⟨77, f⟩, []⟩ M Q
def P_fettlelaw25_HistLast_5 (x0 x5 x6 x7 x8 x9 : Value) (M : Store) (Q : Value → Store → Prop) : Prop :=
  ∀ f : Nat → Value, f 0 = x0 → f 5 = x5 → f 6 = x6 → f 7 = x7 → f 8 = x8 → f 9 = x9 → At Try.prog Ex none Try.f12 [1, 1, 1, 1, 0, 1, 0, 0, 1, 1] ⟨⟨77, f⟩, []⟩ M Q
def S_fettlelaw25_HistLast (x0 x1 : Value) (M : Store) (Q : Value → Store → Prop) : Prop :=
  OP (bldL (.string ⟨#[]⟩) 1 2 [(0, (.string ⟨#[97]⟩)), (1, (.string ⟨#[98]⟩))]) fun c =>
  LT (.slice (some ⟨M.n, 0, none⟩) 2 2) (M.push (some (.inl (c, Ty.string, true)))) fun t15 M1 =>
  OP (binI .and x1 (.int .i64 1)) fun t17 =>
  OP (ixA 1 t15 t17) fun t18 =>
  OP (ld 1 false t18 M1) fun t19 =>
  P_fettlelaw25_HistLast_1 x0 t19 (.slice none 0 0) (.slice none 0 0) (.bool false) (.int .i64 0) M1 Q
theorem T_fettlelaw25_HistLast {x0 x1 : Value} {M : Store} {Q : Value → Store → Prop} (h : S_fettlelaw25_HistLast x0 x1 M Q) : R F.fettlelaw25_HistLast #[x0, x1] M Q := by
  refine runs_of (c := bodyOf Try.f12) Try.func12 rfl (by kernel_rfl) (by kernel_rfl) ?_
  unfold At
  exact rule (B := 1000) (N := 77) (ct := (.two .no (.two .no (.two .no (.two .no (.two (.two .no (.two (.here 1000) .no)) (.here 1001)))))))
    [⟨1002, fun a M => dfr a.defers (P_fettlelaw25_HistLast_1 (a.get 0) (a.get 5) (a.get 6) (a.get 7) (a.get 8) (a.get 9) M Q), fun a M => At Try.prog Ex none Try.f12 [1, 1, 1, 1, 0, 1, 0] a M Q⟩,
    ⟨1003, fun _ _ => False, fun a M => At Try.prog Ex none Try.f12 [1, 1, 1, 1, 1] a M Q⟩]
    [1000, 1001] [] (by kernel_rfl) (by kernel_rfl) (by kernel_rfl) (by kernel_rfl) (by kernel_rfl)
    ⟨fun a M hn h => by obtain ⟨⟨n, f⟩, ds⟩ := a; have hn : n = 77 := hn; subst hn; obtain ⟨hd, h⟩ := dfr_iff h; have hd : ds = [] := hd; subst hd; exact h f rfl rfl rfl rfl rfl rfl,
    fun _ _ _ h => h.elim,
    trivial⟩
    (cast (by kernel_rfl) h)
def S_fettlelaw25_HistLast_1 (x0 x5 x6 x7 x8 x9 : Value) (M : Store) (Q : Value → Store → Prop) : Prop :=
  OP (lenV x0) fun t22 =>
  OP (binI .lss x9 t22) fun t23 =>
  BR t23 (
  OP (binI .lss x9 (.int .i64 20)) fun t26 =>
  BR t26 (
  P_fettlelaw25_HistLast_2 x0 x5 x6 x7 x8 x9 M Q
  ) (
  P_fettlelaw25_HistLast_3 x6 M Q
  )
  ) (
  P_fettlelaw25_HistLast_3 x6 M Q
  )
theorem T_fettlelaw25_HistLast_1 {x0 x5 x6 x7 x8 x9 : Value} {M : Store} {Q : Value → Store → Prop} (h : S_fettlelaw25_HistLast_1 x0 x5 x6 x7 x8 x9 M Q) : P_fettlelaw25_HistLast_1 x0 x5 x6 x7 x8 x9 M Q := by
  intro f h0 h5 h6 h7 h8 h9; subst h0; subst h5; subst h6; subst h7; subst h8; subst h9
  unfold At
  refine cast (by kernel_rfl) (CW.loop (P := Try.prog) (E := Ex) (rd := none) (x := sub (bodyOf Try.f12) [1, 1, 1, 1, 0, 1, 0, 0]) (a := ⟨⟨77, f⟩, []⟩) (M := M) (K := kcont Try.prog Ex none (bodyOf Try.f12) [1, 1, 1, 1, 0, 1, 0] (kfin Try.prog Try.f12.results.toList Q)) ?_)
  exact rule (B := 1000) (N := 77) (ct := (.two .no (.here 1000)))
    [⟨1002, fun a M => dfr a.defers (P_fettlelaw25_HistLast_2 (a.get 0) (a.get 5) (a.get 6) (a.get 7) (a.get 8) (a.get 9) M Q), fun a M => At Try.prog Ex none Try.f12 [1, 1, 1, 1, 0, 1, 0, 0, 1] a M Q⟩,
    ⟨2, fun a M => dfr a.defers (P_fettlelaw25_HistLast_3 (a.get 6) M Q), fun a M => At Try.prog Ex none Try.f12 [1, 1, 1, 1, 1] a M Q⟩]
    [1000] [2] (by kernel_rfl) (by kernel_rfl) (by kernel_rfl) (by kernel_rfl) (by kernel_rfl)
    ⟨fun a M hn h => by obtain ⟨⟨n, f⟩, ds⟩ := a; have hn : n = 77 := hn; subst hn; obtain ⟨hd, h⟩ := dfr_iff h; have hd : ds = [] := hd; subst hd; exact h f rfl rfl rfl rfl rfl rfl,
    fun a M hn h => by obtain ⟨⟨n, f⟩, ds⟩ := a; have hn : n = 77 := hn; subst hn; obtain ⟨hd, h⟩ := dfr_iff h; have hd : ds = [] := hd; subst hd; exact h f rfl,
    trivial⟩
    (cast (by kernel_rfl) h)
def S_fettlelaw25_HistLast_2 (x0 x5 x6 x7 x8 x9 : Value) (M : Store) (Q : Value → Store → Prop) : Prop :=
  OP (ixA 1 x0 x9) fun t32 =>
  OP (ld 1 false t32 M) fun t33 =>
  R F.fettlelaw25_Commit #[t33] M fun t34 M1 =>
  LT (.pointer (some ⟨M1.n, 0, none⟩)) (M1.push (some (.inl ([(.int .i64 0), (.string ⟨#[]⟩), (.slice none 0 0), (.bool false)], Ty.api_Commit, true)))) fun t10 M2 =>
  OP (st 4 t10 t34 M2) fun M3 =>
  OP (ld 4 true t10 M3) fun t36 =>
  OP (bldL (.agg #[(.int .i64 0), (.string ⟨#[]⟩), (.slice none 0 0), (.bool false)]) 4 1 [(0, t36)]) fun c =>
  LT (.slice (some ⟨M3.n, 0, none⟩) 1 1) (M3.push (some (.inl (c, Ty.api_Commit, true)))) fun t37 M4 =>
  OP2 (appV 4 Ty.api_Commit x6 t37 M4) fun t38 M5 =>
  OP (fad 1 t10) fun t39 =>
  OP (ld 1 false t39 M5) fun t40 =>
  OP (binS .eql t40 x5) fun t42 =>
  BR t42 (
  OP (fad 2 t10) fun t43 =>
  OP (ld 1 false t43 M5) fun t44 =>
  OP (fad 3 t10) fun t45 =>
  OP (ld 1 false t45 M5) fun t46 =>
  OP (aun .not t46) fun t47 =>
  P_fettlelaw25_HistLast_4 x0 x5 t38 t44 t47 x9 M5 Q
  ) (
  P_fettlelaw25_HistLast_4 x0 x5 t38 x7 x8 x9 M5 Q
  )
theorem T_fettlelaw25_HistLast_2 {x0 x5 x6 x7 x8 x9 : Value} {M : Store} {Q : Value → Store → Prop} (h : S_fettlelaw25_HistLast_2 x0 x5 x6 x7 x8 x9 M Q) : P_fettlelaw25_HistLast_2 x0 x5 x6 x7 x8 x9 M Q := by
  intro f h0 h5 h6 h7 h8 h9; subst h0; subst h5; subst h6; subst h7; subst h8; subst h9
  unfold At
  exact rule (B := 1000) (N := 77) (ct := (.two (.two (.two .no (.two .no (.two .no (.here 1000)))) .no) (.here 1001)))
    [⟨1002, fun a M => dfr a.defers (P_fettlelaw25_HistLast_4 (a.get 0) (a.get 5) (a.get 6) (a.get 7) (a.get 8) (a.get 9) M Q), fun a M => At Try.prog Ex none Try.f12 [1, 1, 1, 1, 0, 1, 0, 0, 1, 0, 0, 1, 1, 1] a M Q⟩,
    ⟨1003, fun _ _ => False, fun a M => At Try.prog Ex none Try.f12 [1, 1, 1, 1, 0, 1, 0, 0, 1, 1] a M Q⟩]
    [1000, 1001] [] (by kernel_rfl) (by kernel_rfl) (by kernel_rfl) (by kernel_rfl) (by kernel_rfl)
    ⟨fun a M hn h => by obtain ⟨⟨n, f⟩, ds⟩ := a; have hn : n = 77 := hn; subst hn; obtain ⟨hd, h⟩ := dfr_iff h; have hd : ds = [] := hd; subst hd; exact h f rfl rfl rfl rfl rfl rfl,
    fun _ _ _ h => h.elim,
    trivial⟩
    (cast (by kernel_rfl) h)
def S_fettlelaw25_HistLast_3 (x6 : Value) (M : Store) (Q : Value → Store → Prop) : Prop :=
  R F.hist_Last #[x6, (.string ⟨#[122, 122]⟩)] M fun t69 M1 =>
  OP (tup t69 0) fun t70 =>
  OP (tup t69 1) fun t71 =>
  OP (aun .not t71) fun t73 =>
  BR t73 (
  R F.fettlelaw25_awake #[] M1 fun t75 M2 =>
  NTs [t75] ∧ Q t75 M2
  ) (
  NTs [(.bool false)] ∧ Q (.bool false) M1
  )
theorem T_fettlelaw25_HistLast_3 {x6 : Value} {M : Store} {Q : Value → Store → Prop} (h : S_fettlelaw25_HistLast_3 x6 M Q) : P_fettlelaw25_HistLast_3 x6 M Q := by
  intro f h6; subst h6
  unfold At
  exact rule (B := 1000) (N := 77) (ct := .no)
    [⟨1, fun a M => kfin Try.prog Try.f12.results.toList Q 1 a M, fun a M => kfin Try.prog Try.f12.results.toList Q 1 a M⟩]
    [] [1] (by kernel_rfl) (by kernel_rfl) (by kernel_rfl) (by kernel_rfl) (by kernel_rfl)
    ⟨fun _ _ _ h => h,
    trivial⟩
    (cast (by kernel_rfl) h)
def S_fettlelaw25_HistLast_4 (x0 x5 x6 x7 x8 x9 : Value) (M : Store) (Q : Value → Store → Prop) : Prop :=
  R F.hist_Last #[x6, x5] M fun t51 M1 =>
  OP (tup t51 0) fun t52 =>
  OP (tup t51 1) fun t53 =>
  OP (abin Try.prog false .neq Ty.bool t53 x8) fun t56 =>
  BR t56 (
  NTs [(.bool false)] ∧ Q (.bool false) M1
  ) (
  BR3 x8 (
  OP (cvBS t52 M1) fun t61 =>
  OP (cvBS x7 M1) fun t63 =>
  OP (binS .neq t61 t63) fun t64 =>
  BR t64 (
  NTs [(.bool false)] ∧ Q (.bool false) M1
  ) (
  P_fettlelaw25_HistLast_5 x0 x5 x6 x7 x8 x9 M1 Q
  )
  ) (
  P_fettlelaw25_HistLast_5 x0 x5 x6 x7 x8 x9 M1 Q
  ) (
  BR x8 (
  BR undef (
  NTs [(.bool false)] ∧ Q (.bool false) M1
  ) (
  P_fettlelaw25_HistLast_5 x0 x5 x6 x7 x8 x9 M1 Q
  )
  ) (
  P_fettlelaw25_HistLast_5 x0 x5 x6 x7 x8 x9 M1 Q
  )
  )
  )
theorem T_fettlelaw25_HistLast_4 {x0 x5 x6 x7 x8 x9 : Value} {M : Store} {Q : Value → Store → Prop} (h : S_fettlelaw25_HistLast_4 x0 x5 x6 x7 x8 x9 M Q) : P_fettlelaw25_HistLast_4 x0 x5 x6 x7 x8 x9 M Q := by
  intro f h0 h5 h6 h7 h8 h9; subst h0; subst h5; subst h6; subst h7; subst h8; subst h9
  unfold At
  exact rule (B := 1000) (N := 77) (ct := .no)
    [⟨0, fun a M => dfr a.defers (P_fettlelaw25_HistLast_5 (a.get 0) (a.get 5) (a.get 6) (a.get 7) (a.get 8) (a.get 9) M Q), fun a M => At Try.prog Ex none Try.f12 [1, 1, 1, 1, 0, 1, 0, 0, 1, 1] a M Q⟩,
    ⟨1, fun a M => kfin Try.prog Try.f12.results.toList Q 1 a M, fun a M => kfin Try.prog Try.f12.results.toList Q 1 a M⟩]
    [] [0, 1] (by kernel_rfl) (by kernel_rfl) (by kernel_rfl) (by kernel_rfl) (by kernel_rfl)
    ⟨fun a M hn h => by obtain ⟨⟨n, f⟩, ds⟩ := a; have hn : n = 77 := hn; subst hn; obtain ⟨hd, h⟩ := dfr_iff h; have hd : ds = [] := hd; subst hd; exact h f rfl rfl rfl rfl rfl rfl,
    fun _ _ _ h => h,
    trivial⟩
    (cast (by kernel_rfl) h)
def S_fettlelaw25_HistLast_5 (x0 x5 x6 x7 x8 x9 : Value) (M : Store) (Q : Value → Store → Prop) : Prop :=
  OP (binI .add x9 (.int .i64 1)) fun t29 =>
  P_fettlelaw25_HistLast_1 x0 x5 x6 x7 x8 t29 M Q
theorem T_fettlelaw25_HistLast_5 {x0 x5 x6 x7 x8 x9 : Value} {M : Store} {Q : Value → Store → Prop} (h : S_fettlelaw25_HistLast_5 x0 x5 x6 x7 x8 x9 M Q) : P_fettlelaw25_HistLast_5 x0 x5 x6 x7 x8 x9 M Q := by
  intro f h0 h5 h6 h7 h8 h9; subst h0; subst h5; subst h6; subst h7; subst h8; subst h9
  unfold At
  exact rule (B := 1000) (N := 77) (ct := .no)
    [⟨0, fun a M => dfr a.defers (P_fettlelaw25_HistLast_1 (a.get 0) (a.get 5) (a.get 6) (a.get 7) (a.get 8) (a.get 9) M Q), fun a M => At Try.prog Ex none Try.f12 [1, 1, 1, 1, 0, 1, 0] a M Q⟩]
    [] [0] (by kernel_rfl) (by kernel_rfl) (by kernel_rfl) (by kernel_rfl) (by kernel_rfl)
    ⟨fun a M hn h => by obtain ⟨⟨n, f⟩, ds⟩ := a; have hn : n = 77 := hn; subst hn; obtain ⟨hd, h⟩ := dfr_iff h; have hd : ds = [] := hd; subst hd; exact h f rfl rfl rfl rfl rfl rfl,
    trivial⟩
    (cast (by kernel_rfl) h)
end Go.G
