/-  -/
import Derived.Test.YtnonfejhkbaikaaDoorPGN
open Go.RowKit
namespace Go.G
open Go.Ab Go.Proofs
set_option linter.unusedVariables false
set_option maxRecDepth 100000
def P_fettlelaw6_Act_1 (x0 x3 x4 x5 : Value) (M : Store) (Q : Value → Store → Prop) : Prop :=
  ∀ f : Nat → Value, f 0 = x0 → f 3 = x3 → f 4 = x4 → f 5 = x5 → At Tryd.prog Ex none Tryd.f12 [1, 1, 1, 0, 1, 0] ⟨⟨82, f⟩, []⟩ M Q
def P_fettlelaw6_Act_2 (x0 x3 x4 x5 : Value) (M : Store) (Q : Value → Store → Prop) : Prop :=
  ∀ f : Nat → Value, f 0 = x0 → f 3 = x3 → f 4 = x4 → f 5 = x5 → At Tryd.prog Ex none Tryd.f12 [1, 1, 1, 0, 1, 0, 0, 1] ⟨⟨82, f⟩, []⟩ M Q
def P_fettlelaw6_Act_3 (x3 : Value) (M : Store) (Q : Value → Store → Prop) : Prop :=
  ∀ f : Nat → Value, f 3 = x3 → At Tryd.prog Ex none Tryd.f12 [1, 1, 1, 1] ⟨⟨82, f⟩, []⟩ M Q
def P_fettlelaw6_Act_4 (x0 x3 x4 x5 x6 x7 : Value) (M : Store) (Q : Value → Store → Prop) : Prop :=
  ∀ f : Nat → Value, f 0 = x0 → f 3 = x3 → f 4 = x4 → f 5 = x5 → f 6 = x6 → f 7 = x7 → At Tryd.prog Ex none Tryd.f12 [1, 1, 1, 0, 1, 0, 0, 1, 0, 0, 1, 1, 1] ⟨⟨82, f⟩, []⟩ M Q
def P_fettlelaw6_Act_5 (x0 x3 x4 x5 x6 x7 : Value) (M : Store) (Q : Value → Store → Prop) : Prop :=
  ∀ f : Nat → Value, f 0 = x0 → f 3 = x3 → f 4 = x4 → f 5 = x5 → f 6 = x6 → f 7 = x7 → At Tryd.prog Ex none Tryd.f12 [1, 1, 1, 0, 1, 0, 0, 1, 0, 0, 1, 1, 1, 1] ⟨⟨82, f⟩, []⟩ M Q
def P_fettlelaw6_Act_6 (x0 x3 x4 x5 x6 x7 x45 x46 : Value) (M : Store) (Q : Value → Store → Prop) : Prop :=
  ∀ f : Nat → Value, f 0 = x0 → f 3 = x3 → f 4 = x4 → f 5 = x5 → f 6 = x6 → f 7 = x7 → f 45 = x45 → f 46 = x46 → At Tryd.prog Ex none Tryd.f12 [1, 1, 1, 0, 1, 0, 0, 1, 0, 0, 1, 1, 1, 1, 0, 1, 0, 1] ⟨⟨82, f⟩, []⟩ M Q
def P_fettlelaw6_Act_7 (x0 x3 x4 x5 x7 : Value) (M : Store) (Q : Value → Store → Prop) : Prop :=
  ∀ f : Nat → Value, f 0 = x0 → f 3 = x3 → f 4 = x4 → f 5 = x5 → f 7 = x7 → At Tryd.prog Ex none Tryd.f12 [1, 1, 1, 0, 1, 0, 0, 1, 0, 0, 1, 1, 1, 1, 1] ⟨⟨82, f⟩, []⟩ M Q
def P_fettlelaw6_Act_8 (x0 x3 x4 x5 : Value) (M : Store) (Q : Value → Store → Prop) : Prop :=
  ∀ f : Nat → Value, f 0 = x0 → f 3 = x3 → f 4 = x4 → f 5 = x5 → At Tryd.prog Ex none Tryd.f12 [1, 1, 1, 0, 1, 0, 0, 1, 1] ⟨⟨82, f⟩, []⟩ M Q
def S_fettlelaw6_Act (x0 : Value) (M : Store) (Q : Value → Store → Prop) : Prop :=
  OP (bldL (.string ⟨#[]⟩) 1 6 [(0, (.string ⟨#[]⟩)), (1, (.string ⟨#[97]⟩)), (2, (.string ⟨#[104, 105, 32, 116, 104, 101, 114, 101]⟩)), (3, (.string ⟨#[45]⟩)), (4, (.string ⟨#[120, 121, 122]⟩)), (5, (.string ⟨#[48, 49, 50, 51, 52, 53, 54, 55, 56, 57, 48, 49, 50, 51, 52, 53, 54, 55, 56, 57, 48, 49, 50, 51, 52, 53, 54, 55, 56, 57, 48, 49, 50, 51, 52, 53, 54, 55, 56, 57, 48, 49, 50, 51, 52, 53, 54, 55, 56, 57, 48, 49, 50, 51, 52, 53, 54, 55, 56, 57, 48, 49, 50, 51]⟩))]) fun c =>
  LT (.slice (some ⟨M.n, 0, none⟩) 6 6) (M.push (some (.inl (c, Ty.string, true)))) fun t8 M1 =>
  P_fettlelaw6_Act_1 x0 (.slice none 0 0) t8 (.int .i64 0) M1 Q
theorem T_fettlelaw6_Act {x0 : Value} {M : Store} {Q : Value → Store → Prop} (h : S_fettlelaw6_Act x0 M Q) : R F.fettlelaw6_Act #[x0] M Q := by
  refine runs_of (c := bodyOf Tryd.f12) Tryd.func12 rfl (by kernel_rfl) (by kernel_rfl) ?_
  unfold At
  exact rule (B := 1000) (N := 82) (ct := (.two .no (.two .no (.two .no (.two (.two .no (.two (.here 1000) .no)) (.here 1001))))))
    [⟨1002, fun a M => dfr a.defers (P_fettlelaw6_Act_1 (a.get 0) (a.get 3) (a.get 4) (a.get 5) M Q), fun a M => At Tryd.prog Ex none Tryd.f12 [1, 1, 1, 0, 1, 0] a M Q⟩,
    ⟨1003, fun _ _ => False, fun a M => At Tryd.prog Ex none Tryd.f12 [1, 1, 1, 1] a M Q⟩]
    [1000, 1001] [] (by kernel_rfl) (by kernel_rfl) (by kernel_rfl) (by kernel_rfl) (by kernel_rfl)
    ⟨fun a M hn h => by obtain ⟨⟨n, f⟩, ds⟩ := a; have hn : n = 82 := hn; subst hn; obtain ⟨hd, h⟩ := dfr_iff h; have hd : ds = [] := hd; subst hd; exact h f rfl rfl rfl rfl,
    fun _ _ _ h => h.elim,
    trivial⟩
    (cast (by kernel_rfl) h)
def S_fettlelaw6_Act_1 (x0 x3 x4 x5 : Value) (M : Store) (Q : Value → Store → Prop) : Prop :=
  OP (lenV x0) fun t11 =>
  OP (binI .lss x5 t11) fun t12 =>
  BR t12 (
  OP (binI .lss x5 (.int .i64 6)) fun t15 =>
  BR t15 (
  P_fettlelaw6_Act_2 x0 x3 x4 x5 M Q
  ) (
  P_fettlelaw6_Act_3 x3 M Q
  )
  ) (
  P_fettlelaw6_Act_3 x3 M Q
  )
theorem T_fettlelaw6_Act_1 {x0 x3 x4 x5 : Value} {M : Store} {Q : Value → Store → Prop} (h : S_fettlelaw6_Act_1 x0 x3 x4 x5 M Q) : P_fettlelaw6_Act_1 x0 x3 x4 x5 M Q := by
  intro f h0 h3 h4 h5; subst h0; subst h3; subst h4; subst h5
  unfold At
  refine cast (by kernel_rfl) (CW.loop (P := Tryd.prog) (E := Ex) (rd := none) (x := sub (bodyOf Tryd.f12) [1, 1, 1, 0, 1, 0, 0]) (a := ⟨⟨82, f⟩, []⟩) (M := M) (K := kcont Tryd.prog Ex none (bodyOf Tryd.f12) [1, 1, 1, 0, 1, 0] (kfin Tryd.prog Tryd.f12.results.toList Q)) ?_)
  exact rule (B := 1000) (N := 82) (ct := (.two .no (.here 1000)))
    [⟨1002, fun a M => dfr a.defers (P_fettlelaw6_Act_2 (a.get 0) (a.get 3) (a.get 4) (a.get 5) M Q), fun a M => At Tryd.prog Ex none Tryd.f12 [1, 1, 1, 0, 1, 0, 0, 1] a M Q⟩,
    ⟨2, fun a M => dfr a.defers (P_fettlelaw6_Act_3 (a.get 3) M Q), fun a M => At Tryd.prog Ex none Tryd.f12 [1, 1, 1, 1] a M Q⟩]
    [1000] [2] (by kernel_rfl) (by kernel_rfl) (by kernel_rfl) (by kernel_rfl) (by kernel_rfl)
    ⟨fun a M hn h => by obtain ⟨⟨n, f⟩, ds⟩ := a; have hn : n = 82 := hn; subst hn; obtain ⟨hd, h⟩ := dfr_iff h; have hd : ds = [] := hd; subst hd; exact h f rfl rfl rfl rfl,
    fun a M hn h => by obtain ⟨⟨n, f⟩, ds⟩ := a; have hn : n = 82 := hn; subst hn; obtain ⟨hd, h⟩ := dfr_iff h; have hd : ds = [] := hd; subst hd; exact h f rfl,
    trivial⟩
    (cast (by kernel_rfl) h)
def S_fettlelaw6_Act_2 (x0 x3 x4 x5 : Value) (M : Store) (Q : Value → Store → Prop) : Prop :=
  OP (ixA 1 x0 x5) fun t21 =>
  OP (ld 1 false t21 M) fun t22 =>
  OP (binI .and t22 (.int .i64 7)) fun t24 =>
  OP (binI .add (.int .i64 4) t24) fun t25 =>
  OP (bldS #[(.int .i64 0), (.int .i64 0), (.string ⟨#[]⟩)] [(0, 1), (1, 1), (2, 1)] [(0, t25)]) fun t26 =>
  LT (.pointer (some ⟨M.n, 0, none⟩)) (M.push (some (.inl ([(.int .i64 0), (.int .i64 0), (.string ⟨#[]⟩)], Ty.api_Do, true)))) fun t7 M1 =>
  OP (st 3 t7 t26 M1) fun M2 =>
  OP (binI .eql x5 (.int .i64 0)) fun t28 =>
  BR t28 (
  OP (binI .and t22 (.int .i64 255)) fun t30 =>
  OP (binI .rem t30 (.int .i64 3)) fun t31 =>
  OP (binI .add (.int .i64 1) t31) fun t32 =>
  OP (fad 0 t7) fun t33 =>
  OP (st 1 t33 t32 M2) fun M3 =>
  P_fettlelaw6_Act_4 x0 x3 x4 x5 t22 t7 M3 Q
  ) (
  P_fettlelaw6_Act_4 x0 x3 x4 x5 t22 t7 M2 Q
  )
theorem T_fettlelaw6_Act_2 {x0 x3 x4 x5 : Value} {M : Store} {Q : Value → Store → Prop} (h : S_fettlelaw6_Act_2 x0 x3 x4 x5 M Q) : P_fettlelaw6_Act_2 x0 x3 x4 x5 M Q := by
  intro f h0 h3 h4 h5; subst h0; subst h3; subst h4; subst h5
  unfold At
  exact rule (B := 1000) (N := 82) (ct := (.two (.two (.two .no (.two .no (.two .no (.here 1000)))) .no) (.here 1001)))
    [⟨1002, fun a M => dfr a.defers (P_fettlelaw6_Act_4 (a.get 0) (a.get 3) (a.get 4) (a.get 5) (a.get 6) (a.get 7) M Q), fun a M => At Tryd.prog Ex none Tryd.f12 [1, 1, 1, 0, 1, 0, 0, 1, 0, 0, 1, 1, 1] a M Q⟩,
    ⟨1003, fun _ _ => False, fun a M => At Tryd.prog Ex none Tryd.f12 [1, 1, 1, 0, 1, 0, 0, 1, 1] a M Q⟩]
    [1000, 1001] [] (by kernel_rfl) (by kernel_rfl) (by kernel_rfl) (by kernel_rfl) (by kernel_rfl)
    ⟨fun a M hn h => by obtain ⟨⟨n, f⟩, ds⟩ := a; have hn : n = 82 := hn; subst hn; obtain ⟨hd, h⟩ := dfr_iff h; have hd : ds = [] := hd; subst hd; exact h f rfl rfl rfl rfl rfl rfl,
    fun _ _ _ h => h.elim,
    trivial⟩
    (cast (by kernel_rfl) h)
def S_fettlelaw6_Act_3 (x3 : Value) (M : Store) (Q : Value → Store → Prop) : Prop :=
  OP (lenV x3) fun t77 =>
  OP (binI .eql t77 (.int .i64 0)) fun t78 =>
  BR t78 (
  OP (bldS #[(.int .i64 0), (.int .i64 0), (.string ⟨#[]⟩)] [(0, 1), (1, 1), (2, 1)] [(0, (.int .i64 3))]) fun t79 =>
  OP (bldL (.agg #[(.int .i64 0), (.int .i64 0), (.string ⟨#[]⟩)]) 3 1 [(0, t79)]) fun c =>
  LT (.slice (some ⟨M.n, 0, none⟩) 1 1) (M.push (some (.inl (c, Ty.api_Do, true)))) fun t80 M1 =>
  NTs [t80] ∧ Q t80 M1
  ) (
  NTs [x3] ∧ Q x3 M
  )
theorem T_fettlelaw6_Act_3 {x3 : Value} {M : Store} {Q : Value → Store → Prop} (h : S_fettlelaw6_Act_3 x3 M Q) : P_fettlelaw6_Act_3 x3 M Q := by
  intro f h3; subst h3
  unfold At
  exact rule (B := 1000) (N := 82) (ct := .no)
    [⟨1, fun a M => kfin Tryd.prog Tryd.f12.results.toList Q 1 a M, fun a M => kfin Tryd.prog Tryd.f12.results.toList Q 1 a M⟩]
    [] [1] (by kernel_rfl) (by kernel_rfl) (by kernel_rfl) (by kernel_rfl) (by kernel_rfl)
    ⟨fun _ _ _ h => h,
    trivial⟩
    (cast (by kernel_rfl) h)
def S_fettlelaw6_Act_4 (x0 x3 x4 x5 x6 x7 : Value) (M : Store) (Q : Value → Store → Prop) : Prop :=
  OP (fad 0 x7) fun t34 =>
  OP (ld 1 false t34 M) fun t35 =>
  OP (binI .eql t35 (.int .i64 11)) fun t36 =>
  BR t36 (
  OP (binI .shr x6 (.int .u64 8)) fun t39 =>
  OP (binI .and t39 (.int .i64 3)) fun t40 =>
  OP (binI .gtr t40 (.int .i64 0)) fun t41 =>
  BR t41 (
  OP (fad 0 x7) fun t43 =>
  OP (st 1 t43 (.int .i64 6) M) fun M1 =>
  P_fettlelaw6_Act_5 x0 x3 x4 x5 x6 x7 M1 Q
  ) (
  P_fettlelaw6_Act_5 x0 x3 x4 x5 x6 x7 M Q
  )
  ) (
  P_fettlelaw6_Act_5 x0 x3 x4 x5 x6 x7 M Q
  )
theorem T_fettlelaw6_Act_4 {x0 x3 x4 x5 x6 x7 : Value} {M : Store} {Q : Value → Store → Prop} (h : S_fettlelaw6_Act_4 x0 x3 x4 x5 x6 x7 M Q) : P_fettlelaw6_Act_4 x0 x3 x4 x5 x6 x7 M Q := by
  intro f h0 h3 h4 h5 h6 h7; subst h0; subst h3; subst h4; subst h5; subst h6; subst h7
  unfold At
  exact rule (B := 1000) (N := 82) (ct := (.two .no (.here 1000)))
    [⟨1002, fun a M => dfr a.defers (P_fettlelaw6_Act_5 (a.get 0) (a.get 3) (a.get 4) (a.get 5) (a.get 6) (a.get 7) M Q), fun a M => At Tryd.prog Ex none Tryd.f12 [1, 1, 1, 0, 1, 0, 0, 1, 0, 0, 1, 1, 1, 1] a M Q⟩]
    [1000] [] (by kernel_rfl) (by kernel_rfl) (by kernel_rfl) (by kernel_rfl) (by kernel_rfl)
    ⟨fun a M hn h => by obtain ⟨⟨n, f⟩, ds⟩ := a; have hn : n = 82 := hn; subst hn; obtain ⟨hd, h⟩ := dfr_iff h; have hd : ds = [] := hd; subst hd; exact h f rfl rfl rfl rfl rfl rfl,
    trivial⟩
    (cast (by kernel_rfl) h)
def S_fettlelaw6_Act_5 (x0 x3 x4 x5 x6 x7 : Value) (M : Store) (Q : Value → Store → Prop) : Prop :=
  OP (fad 0 x7) fun t44 =>
  OP (ld 1 false t44 M) fun t45 =>
  OP (binI .eql t45 (.int .i64 1)) fun t47 =>
  BR t47 (
  P_fettlelaw6_Act_6 x0 x3 x4 x5 x6 x7 t45 t47 M Q
  ) (
  OP (binI .eql t45 (.int .i64 10)) fun t48 =>
  P_fettlelaw6_Act_6 x0 x3 x4 x5 x6 x7 t45 t48 M Q
  )
theorem T_fettlelaw6_Act_5 {x0 x3 x4 x5 x6 x7 : Value} {M : Store} {Q : Value → Store → Prop} (h : S_fettlelaw6_Act_5 x0 x3 x4 x5 x6 x7 M Q) : P_fettlelaw6_Act_5 x0 x3 x4 x5 x6 x7 M Q := by
  intro f h0 h3 h4 h5 h6 h7; subst h0; subst h3; subst h4; subst h5; subst h6; subst h7
  unfold At
  exact rule (B := 1000) (N := 82) (ct := (.two (.two .no (.two (.two .no (.here 1000)) .no)) (.here 1001)))
    [⟨1002, fun a M => dfr a.defers (P_fettlelaw6_Act_6 (a.get 0) (a.get 3) (a.get 4) (a.get 5) (a.get 6) (a.get 7) (a.get 45) (a.get 46) M Q), fun a M => At Tryd.prog Ex none Tryd.f12 [1, 1, 1, 0, 1, 0, 0, 1, 0, 0, 1, 1, 1, 1, 0, 1, 0, 1] a M Q⟩,
    ⟨1003, fun _ _ => False, fun a M => At Tryd.prog Ex none Tryd.f12 [1, 1, 1, 0, 1, 0, 0, 1, 0, 0, 1, 1, 1, 1, 1] a M Q⟩]
    [1000, 1001] [] (by kernel_rfl) (by kernel_rfl) (by kernel_rfl) (by kernel_rfl) (by kernel_rfl)
    ⟨fun a M hn h => by obtain ⟨⟨n, f⟩, ds⟩ := a; have hn : n = 82 := hn; subst hn; obtain ⟨hd, h⟩ := dfr_iff h; have hd : ds = [] := hd; subst hd; exact h f rfl rfl rfl rfl rfl rfl rfl rfl,
    fun _ _ _ h => h.elim,
    trivial⟩
    (cast (by kernel_rfl) h)
def S_fettlelaw6_Act_6 (x0 x3 x4 x5 x6 x7 x45 x46 : Value) (M : Store) (Q : Value → Store → Prop) : Prop :=
  BR x46 (
  OP (binI .shr x6 (.int .u64 10)) fun t51 =>
  OP (binI .and t51 (.int .i64 255)) fun t52 =>
  OP (lenV x4) fun t54 =>
  OP (binI .rem t52 t54) fun t55 =>
  OP (ixA 1 x4 t55) fun t56 =>
  OP (ld 1 false t56 M) fun t57 =>
  OP (fad 2 x7) fun t58 =>
  OP (st 1 t58 t57 M) fun M1 =>
  P_fettlelaw6_Act_7 x0 x3 x4 x5 x7 M1 Q
  ) (
  OP (binI .eql x45 (.int .i64 2)) fun t60 =>
  BR t60 (
  OP (binI .shr x6 (.int .u64 10)) fun t62 =>
  OP (binI .and t62 (.int .i64 3)) fun t63 =>
  OP (fad 1 x7) fun t64 =>
  OP (st 1 t64 t63 M) fun M2 =>
  P_fettlelaw6_Act_7 x0 x3 x4 x5 x7 M2 Q
  ) (
  OP (binI .eql x45 (.int .i64 7)) fun t66 =>
  BR t66 (
  BR t66 (
  OP (binI .shr x6 (.int .u64 10)) fun t69 =>
  OP (binI .and t69 (.int .i64 31)) fun t70 =>
  OP (fad 1 x7) fun t71 =>
  OP (st 1 t71 t70 M) fun M3 =>
  P_fettlelaw6_Act_7 x0 x3 x4 x5 x7 M3 Q
  ) (
  P_fettlelaw6_Act_7 x0 x3 x4 x5 x7 M Q
  )
  ) (
  OP (binI .eql x45 (.int .i64 8)) fun t67 =>
  BR t67 (
  OP (binI .shr x6 (.int .u64 10)) fun t69_1 =>
  OP (binI .and t69_1 (.int .i64 31)) fun t70_1 =>
  OP (fad 1 x7) fun t71_1 =>
  OP (st 1 t71_1 t70_1 M) fun M4 =>
  P_fettlelaw6_Act_7 x0 x3 x4 x5 x7 M4 Q
  ) (
  P_fettlelaw6_Act_7 x0 x3 x4 x5 x7 M Q
  )
  )
  )
  )
theorem T_fettlelaw6_Act_6 {x0 x3 x4 x5 x6 x7 x45 x46 : Value} {M : Store} {Q : Value → Store → Prop} (h : S_fettlelaw6_Act_6 x0 x3 x4 x5 x6 x7 x45 x46 M Q) : P_fettlelaw6_Act_6 x0 x3 x4 x5 x6 x7 x45 x46 M Q := by
  intro f h0 h3 h4 h5 h6 h7 h45 h46; subst h0; subst h3; subst h4; subst h5; subst h6; subst h7; subst h45; subst h46
  unfold At
  exact rule (B := 1000) (N := 82) (ct := .no)
    [⟨0, fun a M => dfr a.defers (P_fettlelaw6_Act_7 (a.get 0) (a.get 3) (a.get 4) (a.get 5) (a.get 7) M Q), fun a M => At Tryd.prog Ex none Tryd.f12 [1, 1, 1, 0, 1, 0, 0, 1, 0, 0, 1, 1, 1, 1, 1] a M Q⟩]
    [] [0] (by kernel_rfl) (by kernel_rfl) (by kernel_rfl) (by kernel_rfl) (by kernel_rfl)
    ⟨fun a M hn h => by obtain ⟨⟨n, f⟩, ds⟩ := a; have hn : n = 82 := hn; subst hn; obtain ⟨hd, h⟩ := dfr_iff h; have hd : ds = [] := hd; subst hd; exact h f rfl rfl rfl rfl rfl,
    trivial⟩
    (cast (by kernel_rfl) h)
def S_fettlelaw6_Act_7 (x0 x3 x4 x5 x7 : Value) (M : Store) (Q : Value → Store → Prop) : Prop :=
  OP (ld 3 true x7 M) fun t73 =>
  OP (bldL (.agg #[(.int .i64 0), (.int .i64 0), (.string ⟨#[]⟩)]) 3 1 [(0, t73)]) fun c =>
  LT (.slice (some ⟨M.n, 0, none⟩) 1 1) (M.push (some (.inl (c, Ty.api_Do, true)))) fun t74 M1 =>
  OP2 (appV 3 Ty.api_Do x3 t74 M1) fun t75 M2 =>
  P_fettlelaw6_Act_8 x0 t75 x4 x5 M2 Q
theorem T_fettlelaw6_Act_7 {x0 x3 x4 x5 x7 : Value} {M : Store} {Q : Value → Store → Prop} (h : S_fettlelaw6_Act_7 x0 x3 x4 x5 x7 M Q) : P_fettlelaw6_Act_7 x0 x3 x4 x5 x7 M Q := by
  intro f h0 h3 h4 h5 h7; subst h0; subst h3; subst h4; subst h5; subst h7
  unfold At
  exact rule (B := 1000) (N := 82) (ct := .no)
    [⟨0, fun a M => dfr a.defers (P_fettlelaw6_Act_8 (a.get 0) (a.get 3) (a.get 4) (a.get 5) M Q), fun a M => At Tryd.prog Ex none Tryd.f12 [1, 1, 1, 0, 1, 0, 0, 1, 1] a M Q⟩]
    [] [0] (by kernel_rfl) (by kernel_rfl) (by kernel_rfl) (by kernel_rfl) (by kernel_rfl)
    ⟨fun a M hn h => by obtain ⟨⟨n, f⟩, ds⟩ := a; have hn : n = 82 := hn; subst hn; obtain ⟨hd, h⟩ := dfr_iff h; have hd : ds = [] := hd; subst hd; exact h f rfl rfl rfl rfl,
    trivial⟩
    (cast (by kernel_rfl) h)
def S_fettlelaw6_Act_8 (x0 x3 x4 x5 : Value) (M : Store) (Q : Value → Store → Prop) : Prop :=
  OP (binI .add x5 (.int .i64 1)) fun t18 =>
  P_fettlelaw6_Act_1 x0 x3 x4 t18 M Q
theorem T_fettlelaw6_Act_8 {x0 x3 x4 x5 : Value} {M : Store} {Q : Value → Store → Prop} (h : S_fettlelaw6_Act_8 x0 x3 x4 x5 M Q) : P_fettlelaw6_Act_8 x0 x3 x4 x5 M Q := by
  intro f h0 h3 h4 h5; subst h0; subst h3; subst h4; subst h5
  unfold At
  exact rule (B := 1000) (N := 82) (ct := .no)
    [⟨0, fun a M => dfr a.defers (P_fettlelaw6_Act_1 (a.get 0) (a.get 3) (a.get 4) (a.get 5) M Q), fun a M => At Tryd.prog Ex none Tryd.f12 [1, 1, 1, 0, 1, 0] a M Q⟩]
    [] [0] (by kernel_rfl) (by kernel_rfl) (by kernel_rfl) (by kernel_rfl) (by kernel_rfl)
    ⟨fun a M hn h => by obtain ⟨⟨n, f⟩, ds⟩ := a; have hn : n = 82 := hn; subst hn; obtain ⟨hd, h⟩ := dfr_iff h; have hd : ds = [] := hd; subst hd; exact h f rfl rfl rfl rfl,
    trivial⟩
    (cast (by kernel_rfl) h)
def P_fettleref4_SameAct_1 (x0 x1 x5 : Value) (M : Store) (Q : Value → Store → Prop) : Prop :=
  ∀ f : Nat → Value, f 0 = x0 → f 1 = x1 → f 5 = x5 → At Tryd.prog Ex none Tryd.f16 [1, 1, 0, 1, 0] ⟨⟨26, f⟩, []⟩ M Q
def P_fettleref4_SameAct_2 (x0 x1 x5 : Value) (M : Store) (Q : Value → Store → Prop) : Prop :=
  ∀ f : Nat → Value, f 0 = x0 → f 1 = x1 → f 5 = x5 → At Tryd.prog Ex none Tryd.f16 [1, 1, 0, 1, 0, 0, 1] ⟨⟨26, f⟩, []⟩ M Q
def P_fettleref4_SameAct_3 (M : Store) (Q : Value → Store → Prop) : Prop :=
  ∀ f : Nat → Value, At Tryd.prog Ex none Tryd.f16 [1, 1, 1] ⟨⟨26, f⟩, []⟩ M Q
def S_fettleref4_SameAct (x0 x1 : Value) (M : Store) (Q : Value → Store → Prop) : Prop :=
  OP (lenV x0) fun t7 =>
  OP (lenV x1) fun t9 =>
  OP (binI .neq t7 t9) fun t10 =>
  BR t10 (
  NTs [(.bool false)] ∧ Q (.bool false) M
  ) (
  P_fettleref4_SameAct_1 x0 x1 (.int .i64 0) M Q
  )
theorem T_fettleref4_SameAct {x0 x1 : Value} {M : Store} {Q : Value → Store → Prop} (h : S_fettleref4_SameAct x0 x1 M Q) : R F.fettleref4_SameAct #[x0, x1] M Q := by
  refine runs_of (c := bodyOf Tryd.f16) Tryd.func16 rfl (by kernel_rfl) (by kernel_rfl) ?_
  unfold At
  exact rule (B := 1000) (N := 26) (ct := (.two .no (.two .no (.two (.two .no (.two (.here 1000) .no)) (.here 1001)))))
    [⟨1002, fun a M => dfr a.defers (P_fettleref4_SameAct_1 (a.get 0) (a.get 1) (a.get 5) M Q), fun a M => At Tryd.prog Ex none Tryd.f16 [1, 1, 0, 1, 0] a M Q⟩,
    ⟨1003, fun _ _ => False, fun a M => At Tryd.prog Ex none Tryd.f16 [1, 1, 1] a M Q⟩,
    ⟨1, fun a M => kfin Tryd.prog Tryd.f16.results.toList Q 1 a M, fun a M => kfin Tryd.prog Tryd.f16.results.toList Q 1 a M⟩]
    [1000, 1001] [1] (by kernel_rfl) (by kernel_rfl) (by kernel_rfl) (by kernel_rfl) (by kernel_rfl)
    ⟨fun a M hn h => by obtain ⟨⟨n, f⟩, ds⟩ := a; have hn : n = 26 := hn; subst hn; obtain ⟨hd, h⟩ := dfr_iff h; have hd : ds = [] := hd; subst hd; exact h f rfl rfl rfl,
    fun _ _ _ h => h.elim,
    fun _ _ _ h => h,
    trivial⟩
    (cast (by kernel_rfl) h)
def S_fettleref4_SameAct_1 (x0 x1 x5 : Value) (M : Store) (Q : Value → Store → Prop) : Prop :=
  OP (lenV x0) fun t13 =>
  OP (binI .lss x5 t13) fun t14 =>
  BR t14 (
  P_fettleref4_SameAct_2 x0 x1 x5 M Q
  ) (
  P_fettleref4_SameAct_3 M Q
  )
theorem T_fettleref4_SameAct_1 {x0 x1 x5 : Value} {M : Store} {Q : Value → Store → Prop} (h : S_fettleref4_SameAct_1 x0 x1 x5 M Q) : P_fettleref4_SameAct_1 x0 x1 x5 M Q := by
  intro f h0 h1 h5; subst h0; subst h1; subst h5
  unfold At
  refine cast (by kernel_rfl) (CW.loop (P := Tryd.prog) (E := Ex) (rd := none) (x := sub (bodyOf Tryd.f16) [1, 1, 0, 1, 0, 0]) (a := ⟨⟨26, f⟩, []⟩) (M := M) (K := kcont Tryd.prog Ex none (bodyOf Tryd.f16) [1, 1, 0, 1, 0] (kfin Tryd.prog Tryd.f16.results.toList Q)) ?_)
  exact rule (B := 1000) (N := 26) (ct := (.two .no (.here 1000)))
    [⟨1002, fun a M => dfr a.defers (P_fettleref4_SameAct_2 (a.get 0) (a.get 1) (a.get 5) M Q), fun a M => At Tryd.prog Ex none Tryd.f16 [1, 1, 0, 1, 0, 0, 1] a M Q⟩,
    ⟨2, fun a M => dfr a.defers (P_fettleref4_SameAct_3 M Q), fun a M => At Tryd.prog Ex none Tryd.f16 [1, 1, 1] a M Q⟩]
    [1000] [2] (by kernel_rfl) (by kernel_rfl) (by kernel_rfl) (by kernel_rfl) (by kernel_rfl)
    ⟨fun a M hn h => by obtain ⟨⟨n, f⟩, ds⟩ := a; have hn : n = 26 := hn; subst hn; obtain ⟨hd, h⟩ := dfr_iff h; have hd : ds = [] := hd; subst hd; exact h f rfl rfl rfl,
    fun a M hn h => by obtain ⟨⟨n, f⟩, ds⟩ := a; have hn : n = 26 := hn; subst hn; obtain ⟨hd, h⟩ := dfr_iff h; have hd : ds = [] := hd; subst hd; exact h f,
    trivial⟩
    (cast (by kernel_rfl) h)
def S_fettleref4_SameAct_2 (x0 x1 x5 : Value) (M : Store) (Q : Value → Store → Prop) : Prop :=
  OP (ixA 3 x0 x5) fun t19 =>
  OP (ld 3 true t19 M) fun t20 =>
  OP (ixA 3 x1 x5) fun t23 =>
  OP (ld 3 true t23 M) fun t24 =>
  OP (abin Tryd.prog false .neq Ty.api_Do t20 t24) fun t25 =>
  BR t25 (
  NTs [(.bool false)] ∧ Q (.bool false) M
  ) (
  OP (binI .add x5 (.int .i64 1)) fun t16 =>
  P_fettleref4_SameAct_1 x0 x1 t16 M Q
  )
theorem T_fettleref4_SameAct_2 {x0 x1 x5 : Value} {M : Store} {Q : Value → Store → Prop} (h : S_fettleref4_SameAct_2 x0 x1 x5 M Q) : P_fettleref4_SameAct_2 x0 x1 x5 M Q := by
  intro f h0 h1 h5; subst h0; subst h1; subst h5
  unfold At
  exact rule (B := 1000) (N := 26) (ct := .no)
    [⟨0, fun a M => dfr a.defers (P_fettleref4_SameAct_1 (a.get 0) (a.get 1) (a.get 5) M Q), fun a M => At Tryd.prog Ex none Tryd.f16 [1, 1, 0, 1, 0] a M Q⟩,
    ⟨1, fun a M => kfin Tryd.prog Tryd.f16.results.toList Q 1 a M, fun a M => kfin Tryd.prog Tryd.f16.results.toList Q 1 a M⟩]
    [] [0, 1] (by kernel_rfl) (by kernel_rfl) (by kernel_rfl) (by kernel_rfl) (by kernel_rfl)
    ⟨fun a M hn h => by obtain ⟨⟨n, f⟩, ds⟩ := a; have hn : n = 26 := hn; subst hn; obtain ⟨hd, h⟩ := dfr_iff h; have hd : ds = [] := hd; subst hd; exact h f rfl rfl rfl,
    fun _ _ _ h => h,
    trivial⟩
    (cast (by kernel_rfl) h)
def S_fettleref4_SameAct_3 (M : Store) (Q : Value → Store → Prop) : Prop :=
  NTs [(.bool true)] ∧ Q (.bool true) M
theorem T_fettleref4_SameAct_3 {M : Store} {Q : Value → Store → Prop} (h : S_fettleref4_SameAct_3 M Q) : P_fettleref4_SameAct_3 M Q := by
  intro f 
  unfold At
  exact rule (B := 1000) (N := 26) (ct := .no)
    [⟨1, fun a M => kfin Tryd.prog Tryd.f16.results.toList Q 1 a M, fun a M => kfin Tryd.prog Tryd.f16.results.toList Q 1 a M⟩]
    [] [1] (by kernel_rfl) (by kernel_rfl) (by kernel_rfl) (by kernel_rfl) (by kernel_rfl)
    ⟨fun _ _ _ h => h,
    trivial⟩
    (cast (by kernel_rfl) h)
end Go.G
