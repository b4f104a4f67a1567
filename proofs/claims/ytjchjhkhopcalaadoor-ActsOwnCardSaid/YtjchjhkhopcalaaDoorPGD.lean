/-  -/
import Derived.Test.YtjchjhkhopcalaaDoorPGN
open Go.RowKit
namespace Go.G
open Go.Ab Go.Proofs
set_option linter.unusedVariables false
set_option maxRecDepth 100000
def P_fettlelaw6_ActsApart_1 (x9 x10 : Value) (M : Store) (Q : Value → Store → Prop) : Prop :=
  ∀ f : Nat → Value, f 9 = x9 → f 10 = x10 → At Tryd.prog Ex none Tryd.f4 [1, 1, 1] ⟨⟨53, f⟩, []⟩ M Q
def S_fettlelaw6_ActsApart (x0 x1 x2 x3 : Value) (M : Store) (Q : Value → Store → Prop) : Prop :=
  R F.fettlelaw6_Act #[x0] M fun t13 M1 =>
  R F.fettlelaw6_Act #[x1] M1 fun t15 M2 =>
  BR x3 (
  OP (bldL (.agg #[(.int .i64 0), (.int .i64 0), (.string ⟨#[]⟩)]) 3 0 []) fun c =>
  LT (.slice (some ⟨M2.n, 0, none⟩) 0 0) (M2.push (some (.inl (c, Ty.api_Do, true)))) fun t17 M3 =>
  OP2 (appV 3 Ty.api_Do t17 t13 M3) fun t19 M4 =>
  OP (binI .and x2 (.int .i64 255)) fun t21 =>
  OP (lenV t19) fun t23 =>
  OP (binI .rem t21 t23) fun t24 =>
  OP (binI .shr x2 (.int .u64 8)) fun t26 =>
  OP (binI .and t26 (.int .i64 1)) fun t27 =>
  OP (binI .eql t27 (.int .i64 1)) fun t28 =>
  BR t28 (
  OP (ixA 3 t19 t24) fun t33 =>
  OP (fad 1 t33) fun t34 =>
  OP (ld 1 false t34 M4) fun t35 =>
  OP (binI .add t35 (.int .i64 1)) fun t36 =>
  OP (ixA 3 t19 t24) fun t37 =>
  OP (fad 1 t37) fun t38 =>
  OP (st 1 t38 t36 M4) fun M5 =>
  P_fettlelaw6_ActsApart_1 t13 t19 M5 Q
  ) (
  P_fettlelaw6_ActsApart_1 t13 t19 M4 Q
  )
  ) (
  P_fettlelaw6_ActsApart_1 t13 t15 M2 Q
  )
theorem T_fettlelaw6_ActsApart {x0 x1 x2 x3 : Value} {M : Store} {Q : Value → Store → Prop} (h : S_fettlelaw6_ActsApart x0 x1 x2 x3 M Q) : R F.fettlelaw6_ActsApart #[x0, x1, x2, x3] M Q := by
  refine runs_of (c := bodyOf Tryd.f4) Tryd.func4 rfl (by kernel_rfl) (by kernel_rfl) ?_
  unfold At
  exact rule (B := 1000) (N := 53) (ct := (.two .no (.two .no (.two .no (.here 1000)))))
    [⟨1002, fun a M => dfr a.defers (P_fettlelaw6_ActsApart_1 (a.get 9) (a.get 10) M Q), fun a M => At Tryd.prog Ex none Tryd.f4 [1, 1, 1] a M Q⟩]
    [1000] [] (by kernel_rfl) (by kernel_rfl) (by kernel_rfl) (by kernel_rfl) (by kernel_rfl)
    ⟨fun a M hn h => by obtain ⟨⟨n, f⟩, ds⟩ := a; have hn : n = 53 := hn; subst hn; obtain ⟨hd, h⟩ := dfr_iff h; have hd : ds = [] := hd; subst hd; exact h f rfl rfl,
    trivial⟩
    (cast (by kernel_rfl) h)
def S_fettlelaw6_ActsApart_1 (x9 x10 : Value) (M : Store) (Q : Value → Store → Prop) : Prop :=
  R F.acts_Bytes #[x9] M fun t40 M1 =>
  TDx [0, 1, 3, 0, 11, 27, 63, 0, 0, 411, 1023, 2047, 4095, 8191, 16383] [M.n, M.n] 1 M M1 ∧
  OP (cvBS t40 M1) fun t41 =>
  R F.acts_Bytes #[x10] M1 fun t43 M2 =>
  TDj [3] [M.n, M.n, M1.n, M1.n, M1.n] M1 M2 ∧
  OP (cvBS t43 M2) fun t44 =>
  OP (binS .eql t41 t44) fun t45 =>
  R F.fettleref4_SameAct #[x9, x10] M2 fun t48 M3 =>
  TDj [7, 8] [M.n, M.n, M1.n, M1.n, M1.n, M2.n, M2.n, M2.n, M2.n, M2.n] M2 M3 ∧
  OP (abin Tryd.prog false .eql Ty.bool t45 t48) fun t49 =>
  BR t49 (
  R F.fettlelaw6_awake #[] M3 fun t51 M4 =>
  TDx [0, 1, 3, 0, 11, 27, 63, 0, 0, 411, 1023, 2047, 4095, 8191, 16383] [M.n, M.n, M1.n, M1.n, M1.n, M2.n, M2.n, M2.n, M2.n, M2.n, M3.n, M3.n, M3.n] 12 M3 M4 ∧
  NTs [t51] ∧ Q t51 M4
  ) (
  NTs [(.bool false)] ∧ Q (.bool false) M3
  )
theorem T_fettlelaw6_ActsApart_1 {x9 x10 : Value} {M : Store} {Q : Value → Store → Prop} (h : S_fettlelaw6_ActsApart_1 x9 x10 M Q) : P_fettlelaw6_ActsApart_1 x9 x10 M Q := by
  intro f h9 h10; subst h9; subst h10
  unfold At
  exact rule (B := 1000) (N := 53) (ct := .no)
    [⟨1, fun a M => kfin Tryd.prog Tryd.f4.results.toList Q 1 a M, fun a M => kfin Tryd.prog Tryd.f4.results.toList Q 1 a M⟩]
    [] [1] (by kernel_rfl) (by kernel_rfl) (by kernel_rfl) (by kernel_rfl) (by kernel_rfl)
    ⟨fun _ _ _ h => h,
    trivial⟩
    (cast (by kernel_rfl) h)
end Go.G
