/-  -/
import Derived.Test.YtnonfejhkbaikaaDoorPGN
open Go.RowKit
namespace Go.G
open Go.Ab Go.Proofs
set_option linter.unusedVariables false
set_option maxRecDepth 100000
def P_fettleref4_Dec_1 (x0 x3 : Value) (M : Store) (Q : Value → Store → Prop) : Prop :=
  ∀ f : Nat → Value, f 0 = x0 → f 3 = x3 → At Tryd.prog Ex none Tryd.f13 [1, 1, 0, 0] ⟨⟨21, f⟩, []⟩ M Q
def P_fettleref4_Dec_2 (x0 x3 : Value) (M : Store) (Q : Value → Store → Prop) : Prop :=
  ∀ f : Nat → Value, f 0 = x0 → f 3 = x3 → At Tryd.prog Ex none Tryd.f13 [1, 1, 0, 0, 0, 1] ⟨⟨21, f⟩, []⟩ M Q
def P_fettleref4_Dec_3 (x3 : Value) (M : Store) (Q : Value → Store → Prop) : Prop :=
  ∀ f : Nat → Value, f 3 = x3 → At Tryd.prog Ex none Tryd.f13 [1, 1, 1] ⟨⟨21, f⟩, []⟩ M Q
def S_fettleref4_Dec (x0 : Value) (M : Store) (Q : Value → Store → Prop) : Prop :=
  P_fettleref4_Dec_1 x0 (.string ⟨#[]⟩) M Q
theorem T_fettleref4_Dec {x0 : Value} {M : Store} {Q : Value → Store → Prop} (h : S_fettleref4_Dec x0 M Q) : R F.fettleref4_Dec #[x0] M Q := by
  refine runs_of (c := bodyOf Tryd.f13) Tryd.func13 rfl (by kernel_rfl) (by kernel_rfl) ?_
  unfold At
  exact rule (B := 1000) (N := 21) (ct := (.two .no (.two .no (.two (.two (.here 1000) .no) (.here 1001)))))
    [⟨1002, fun a M => dfr a.defers (P_fettleref4_Dec_1 (a.get 0) (a.get 3) M Q), fun a M => At Tryd.prog Ex none Tryd.f13 [1, 1, 0, 0] a M Q⟩,
    ⟨1003, fun _ _ => False, fun a M => At Tryd.prog Ex none Tryd.f13 [1, 1, 1] a M Q⟩]
    [1000, 1001] [] (by kernel_rfl) (by kernel_rfl) (by kernel_rfl) (by kernel_rfl) (by kernel_rfl)
    ⟨fun a M hn h => by obtain ⟨⟨n, f⟩, ds⟩ := a; have hn : n = 21 := hn; subst hn; obtain ⟨hd, h⟩ := dfr_iff h; have hd : ds = [] := hd; subst hd; exact h f rfl rfl,
    fun _ _ _ h => h.elim,
    trivial⟩
    (cast (by kernel_rfl) h)
def S_fettleref4_Dec_1 (x0 x3 : Value) (M : Store) (Q : Value → Store → Prop) : Prop :=
  OP (binI .gtr x0 (.int .i64 0)) fun t5 =>
  BR t5 (
  P_fettleref4_Dec_2 x0 x3 M Q
  ) (
  OP (binS .eql x3 (.string ⟨#[]⟩)) fun t8 =>
  BR t8 (
  P_fettleref4_Dec_2 x0 x3 M Q
  ) (
  P_fettleref4_Dec_3 x3 M Q
  )
  )
theorem T_fettleref4_Dec_1 {x0 x3 : Value} {M : Store} {Q : Value → Store → Prop} (h : S_fettleref4_Dec_1 x0 x3 M Q) : P_fettleref4_Dec_1 x0 x3 M Q := by
  intro f h0 h3; subst h0; subst h3
  unfold At
  refine cast (by kernel_rfl) (CW.loop (P := Tryd.prog) (E := Ex) (rd := none) (x := sub (bodyOf Tryd.f13) [1, 1, 0, 0, 0]) (a := ⟨⟨21, f⟩, []⟩) (M := M) (K := kcont Tryd.prog Ex none (bodyOf Tryd.f13) [1, 1, 0, 0] (kfin Tryd.prog Tryd.f13.results.toList Q)) ?_)
  exact rule (B := 1000) (N := 21) (ct := (.two .no (.here 1000)))
    [⟨1002, fun a M => dfr a.defers (P_fettleref4_Dec_2 (a.get 0) (a.get 3) M Q), fun a M => At Tryd.prog Ex none Tryd.f13 [1, 1, 0, 0, 0, 1] a M Q⟩,
    ⟨2, fun a M => dfr a.defers (P_fettleref4_Dec_3 (a.get 3) M Q), fun a M => At Tryd.prog Ex none Tryd.f13 [1, 1, 1] a M Q⟩]
    [1000] [2] (by kernel_rfl) (by kernel_rfl) (by kernel_rfl) (by kernel_rfl) (by kernel_rfl)
    ⟨fun a M hn h => by obtain ⟨⟨n, f⟩, ds⟩ := a; have hn : n = 21 := hn; subst hn; obtain ⟨hd, h⟩ := dfr_iff h; have hd : ds = [] := hd; subst hd; exact h f rfl rfl,
    fun a M hn h => by obtain ⟨⟨n, f⟩, ds⟩ := a; have hn : n = 21 := hn; subst hn; obtain ⟨hd, h⟩ := dfr_iff h; have hd : ds = [] := hd; subst hd; exact h f rfl,
    trivial⟩
    (cast (by kernel_rfl) h)
def S_fettleref4_Dec_2 (x0 x3 : Value) (M : Store) (Q : Value → Store → Prop) : Prop :=
  OP (binI .rem x0 (.int .i64 10)) fun t11 =>
  OP (binI .add (.int .i64 48) t11) fun t12 =>
  OP (cvI .u8 t12) fun t13 =>
  OP (bldL (.int .u8 0) 1 1 [(0, t13)]) fun c =>
  LT (.slice (some ⟨M.n, 0, none⟩) 1 1) (M.push (some (.inl (c, Ty.uint8, true)))) fun t14 M1 =>
  OP (cvBS t14 M1) fun t15 =>
  OP (binS .add t15 x3) fun t17 =>
  OP (binI .quo x0 (.int .i64 10)) fun t19 =>
  P_fettleref4_Dec_1 t19 t17 M1 Q
theorem T_fettleref4_Dec_2 {x0 x3 : Value} {M : Store} {Q : Value → Store → Prop} (h : S_fettleref4_Dec_2 x0 x3 M Q) : P_fettleref4_Dec_2 x0 x3 M Q := by
  intro f h0 h3; subst h0; subst h3
  unfold At
  exact rule (B := 1000) (N := 21) (ct := .no)
    [⟨0, fun a M => dfr a.defers (P_fettleref4_Dec_1 (a.get 0) (a.get 3) M Q), fun a M => At Tryd.prog Ex none Tryd.f13 [1, 1, 0, 0] a M Q⟩]
    [] [0] (by kernel_rfl) (by kernel_rfl) (by kernel_rfl) (by kernel_rfl) (by kernel_rfl)
    ⟨fun a M hn h => by obtain ⟨⟨n, f⟩, ds⟩ := a; have hn : n = 21 := hn; subst hn; obtain ⟨hd, h⟩ := dfr_iff h; have hd : ds = [] := hd; subst hd; exact h f rfl rfl,
    trivial⟩
    (cast (by kernel_rfl) h)
def S_fettleref4_Dec_3 (x3 : Value) (M : Store) (Q : Value → Store → Prop) : Prop :=
  NTs [x3] ∧ Q x3 M
theorem T_fettleref4_Dec_3 {x3 : Value} {M : Store} {Q : Value → Store → Prop} (h : S_fettleref4_Dec_3 x3 M Q) : P_fettleref4_Dec_3 x3 M Q := by
  intro f h3; subst h3
  unfold At
  exact rule (B := 1000) (N := 21) (ct := .no)
    [⟨1, fun a M => kfin Tryd.prog Tryd.f13.results.toList Q 1 a M, fun a M => kfin Tryd.prog Tryd.f13.results.toList Q 1 a M⟩]
    [] [1] (by kernel_rfl) (by kernel_rfl) (by kernel_rfl) (by kernel_rfl) (by kernel_rfl)
    ⟨fun _ _ _ h => h,
    trivial⟩
    (cast (by kernel_rfl) h)
end Go.G
