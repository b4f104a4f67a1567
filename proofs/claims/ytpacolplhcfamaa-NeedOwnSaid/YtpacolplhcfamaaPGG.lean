/-  -/
import Derived.Test.YtpacolplhcfamaaPGN
open Go.RowKit
namespace Go.G
open Go.Ab Go.Proofs
set_option linter.unusedVariables false
set_option maxRecDepth 100000
def S_fettlelaw16_Rule (M : Store) (Q : Value → Store → Prop) : Prop :=
  LT (.pointer (some ⟨M.n, 0, none⟩)) (M.push (some (.inl ([(.slice none 0 0), (.slice none 0 0), (.slice none 0 0), (.slice none 0 0), (.bool false)], Ty.api_Rule, true)))) fun t0 M1 =>
  OP (bldL (.string ⟨#[]⟩) 1 2 [(0, (.string ⟨#[97]⟩)), (1, (.string ⟨#[98]⟩))]) fun c =>
  LT (.slice (some ⟨M1.n, 0, none⟩) 2 2) (M1.push (some (.inl (c, Ty.string, true)))) fun t1 M2 =>
  OP (bldL (.string ⟨#[]⟩) 1 1 [(0, (.string ⟨#[115]⟩))]) fun c_1 =>
  LT (.slice (some ⟨M2.n, 0, none⟩) 1 1) (M2.push (some (.inl (c_1, Ty.string, true)))) fun t2 M3 =>
  OP (bldS #[(.int .i64 0), (.int .i64 0), (.string ⟨#[]⟩)] [(0, 1), (1, 1), (2, 1)] [(0, (.int .i64 3))]) fun t3 =>
  OP (bldL (.agg #[(.int .i64 0), (.int .i64 0), (.string ⟨#[]⟩)]) 3 1 [(0, t3)]) fun c_2 =>
  LT (.slice (some ⟨M3.n, 0, none⟩) 1 1) (M3.push (some (.inl (c_2, Ty.api_Do, true)))) fun t4 M4 =>
  OP (bldS #[(.int .i64 0), (.int .i64 0), (.string ⟨#[]⟩)] [(0, 1), (1, 1), (2, 1)] [(0, (.int .i64 3))]) fun t5 =>
  OP (bldS #[(.int .i64 0), (.int .i64 0), (.string ⟨#[]⟩)] [(0, 1), (1, 1), (2, 1)] [(0, (.int .i64 4))]) fun t6 =>
  OP (bldL (.agg #[(.int .i64 0), (.int .i64 0), (.string ⟨#[]⟩)]) 3 2 [(0, t5), (1, t6)]) fun c_3 =>
  LT (.slice (some ⟨M4.n, 0, none⟩) 2 2) (M4.push (some (.inl (c_3, Ty.api_Do, true)))) fun t7 M5 =>
  OP (bldL (.slice none 0 0) 1 2 [(0, t4), (1, t7)]) fun c_4 =>
  LT (.slice (some ⟨M5.n, 0, none⟩) 2 2) (M5.push (some (.inl (c_4, Ty.sl_api_Do, true)))) fun t8 M6 =>
  OP (bldS #[(.slice none 0 0), (.slice none 0 0), (.slice none 0 0), (.slice none 0 0), (.bool false)] [(0, 1), (1, 1), (2, 1), (3, 1), (4, 1)] [(0, t1), (1, t2), (3, t8)]) fun t9 =>
  OP (st 5 t0 t9 M6) fun M7 =>
  OP (ld 5 true t0 M7) fun r0 =>
  NTs [r0] ∧ Q r0 M7
theorem T_fettlelaw16_Rule {M : Store} {Q : Value → Store → Prop} (h : S_fettlelaw16_Rule M Q) : R F.fettlelaw16_Rule #[] M Q := by
  refine runs_of (c := bodyOf Try.f52) Try.func52 rfl (by kernel_rfl) (by kernel_rfl) ?_
  unfold At
  exact rule (B := 1000) (N := 10) (ct := .no)
    [⟨1, fun a M => kfin Try.prog Try.f52.results.toList Q 1 a M, fun a M => kfin Try.prog Try.f52.results.toList Q 1 a M⟩]
    [] [1] (by kernel_rfl) (by kernel_rfl) (by kernel_rfl) (by kernel_rfl) (by kernel_rfl)
    ⟨fun _ _ _ h => h,
    trivial⟩
    (cast (by kernel_rfl) h)
def S_need_New (x0 x1 : Value) (M : Store) (Q : Value → Store → Prop) : Prop :=
  OP (boxv x0) fun c =>
  LT (.pointer (some ⟨M.n, 0, none⟩)) (M.push (some (.inl (c, Ty.api_Rule, true)))) fun t2 M1 =>
  OP (ld 5 true t2 M1) fun t5 =>
  R F.need_Still #[t5] M1 fun t6 M2 =>
  TDj [0] [M1.n, M1.n] M1 M2 ∧
  OP (fad 1 t2) fun t7 =>
  OP (ld 1 false t7 M2) fun t8 =>
  R F.sour_New #[t8, x1] M2 fun t10 M3 =>
  TDx [0, 1, 0, 4, 0, 31, 63, 127, 255] [M1.n, M1.n, M2.n, M2.n, M2.n, M2.n] 5 M2 M3 ∧
  OP (bldS #[(.slice none 0 0), (.slice none 0 0), (.slice none 0 0), (.slice none 0 0), (.bool false), (.pointer none), (.bool false), (.slice none 0 0), (.slice none 0 0), (.slice none 0 0), (.bool false), (.int .i64 0)] [(0, 5), (5, 1), (6, 1), (7, 1), (8, 1), (9, 1), (10, 1), (11, 1)] [(0, t6), (1, t10)]) fun t11 =>
  OP (boxv t11) fun c_1 =>
  LT (.pointer (some ⟨M3.n, 0, none⟩)) (M3.push (some (.inl (c_1, Ty.need_Ask, true)))) fun t12 M4 =>
  NTs [t12] ∧ Q t12 M4
theorem T_need_New {x0 x1 : Value} {M : Store} {Q : Value → Store → Prop} (h : S_need_New x0 x1 M Q) : R F.need_New #[x0, x1] M Q := by
  refine runs_of (c := bodyOf Try.f53) Try.func53 rfl (by kernel_rfl) (by kernel_rfl) ?_
  unfold At
  exact rule (B := 1000) (N := 13) (ct := .no)
    [⟨1, fun a M => kfin Try.prog Try.f53.results.toList Q 1 a M, fun a M => kfin Try.prog Try.f53.results.toList Q 1 a M⟩]
    [] [1] (by kernel_rfl) (by kernel_rfl) (by kernel_rfl) (by kernel_rfl) (by kernel_rfl)
    ⟨fun _ _ _ h => h,
    trivial⟩
    (cast (by kernel_rfl) h)
def S_fettlelaw16_made (x0 : Value) (M : Store) (Q : Value → Store → Prop) : Prop :=
  OP (binS .eql x0 (.string ⟨#[97]⟩)) fun t4 =>
  BR t4 (
  NTs [(.bool true)] ∧ Q (.bool true) M
  ) (
  OP (binS .eql x0 (.string ⟨#[98]⟩)) fun t7 =>
  BR t7 (
  NTs [(.bool true)] ∧ Q (.bool true) M
  ) (
  OP (binS .eql x0 (.string ⟨#[99]⟩)) fun t11 =>
  NTs [t11] ∧ Q t11 M
  )
  )
theorem T_fettlelaw16_made {x0 : Value} {M : Store} {Q : Value → Store → Prop} (h : S_fettlelaw16_made x0 M Q) : R F.fettlelaw16_made #[x0] M Q := by
  refine runs_of (c := bodyOf Try.f54) Try.func54 rfl (by kernel_rfl) (by kernel_rfl) ?_
  unfold At
  exact rule (B := 1000) (N := 13) (ct := .no)
    [⟨1, fun a M => kfin Try.prog Try.f54.results.toList Q 1 a M, fun a M => kfin Try.prog Try.f54.results.toList Q 1 a M⟩]
    [] [1] (by kernel_rfl) (by kernel_rfl) (by kernel_rfl) (by kernel_rfl) (by kernel_rfl)
    ⟨fun _ _ _ h => h,
    trivial⟩
    (cast (by kernel_rfl) h)
def S_need_Ask_Step (x0 x1 : Value) (M : Store) (Q : Value → Store → Prop) : Prop :=
  OP (nilc x0) fun t7 =>
  OP (fad 10 t7) fun t8 =>
  OP (ld 1 false t8 M) fun t9 =>
  BR t9 (
  OP (nilc x0) fun t11 =>
  OP (fad 11 t11) fun t12 =>
  OP (ld 1 false t12 M) fun t13 =>
  NTs [t13] ∧ Q t13 M
  ) (
  OP (nilc x0) fun t16 =>
  OP (fad 0 t16) fun t17 =>
  OP (fad 3 t17) fun t18 =>
  OP (ld 1 false t18 M) fun t19 =>
  OP (lenV t19) fun t20 =>
  OP (binI .eql t20 (.int .i64 0)) fun t21 =>
  BR t21 (
  R F.need_Ask_end #[x0, (.int .i64 1)] M fun t23 M1 =>
  NTs [t23] ∧ Q t23 M1
  ) (
  OP (nilc x0) fun t26 =>
  OP (fad 6 t26) fun t27 =>
  OP (ld 1 false t27 M) fun t28 =>
  OP (aun .not t28) fun t29 =>
  BR t29 (
  R F.need_Ask_inputs #[x0, x1] M fun t32 M2 =>
  NTs [t32] ∧ Q t32 M2
  ) (
  R F.need_Ask_output #[x0, x1] M fun t35 M3 =>
  NTs [t35] ∧ Q t35 M3
  )
  )
  )
theorem T_need_Ask_Step {x0 x1 : Value} {M : Store} {Q : Value → Store → Prop} (h : S_need_Ask_Step x0 x1 M Q) : R F.need_Ask_Step #[x0, x1] M Q := by
  refine runs_of (c := bodyOf Try.f55) Try.func55 rfl (by kernel_rfl) (by kernel_rfl) ?_
  unfold At
  exact rule (B := 1000) (N := 36) (ct := .no)
    [⟨1, fun a M => kfin Try.prog Try.f55.results.toList Q 1 a M, fun a M => kfin Try.prog Try.f55.results.toList Q 1 a M⟩]
    [] [1] (by kernel_rfl) (by kernel_rfl) (by kernel_rfl) (by kernel_rfl) (by kernel_rfl)
    ⟨fun _ _ _ h => h,
    trivial⟩
    (cast (by kernel_rfl) h)
def S_need_Ask_Prints (x0 : Value) (M : Store) (Q : Value → Store → Prop) : Prop :=
  R F.need_Ask_tells #[x0] M fun t4 M1 =>
  OP (aun .not t4) fun t5 =>
  BR t5 (
  NTs [(.slice none 0 0)] ∧ Q (.slice none 0 0) M1
  ) (
  OP (nilc x0) fun t7 =>
  OP (fad 7 t7) fun t8 =>
  OP (ld 1 false t8 M1) fun t9 =>
  R F.need_still #[t9] M1 fun t10 M2 =>
  NTs [t10] ∧ Q t10 M2
  )
theorem T_need_Ask_Prints {x0 : Value} {M : Store} {Q : Value → Store → Prop} (h : S_need_Ask_Prints x0 M Q) : R F.need_Ask_Prints #[x0] M Q := by
  refine runs_of (c := bodyOf Try.f56) Try.func56 rfl (by kernel_rfl) (by kernel_rfl) ?_
  unfold At
  exact rule (B := 1000) (N := 11) (ct := .no)
    [⟨1, fun a M => kfin Try.prog Try.f56.results.toList Q 1 a M, fun a M => kfin Try.prog Try.f56.results.toList Q 1 a M⟩]
    [] [1] (by kernel_rfl) (by kernel_rfl) (by kernel_rfl) (by kernel_rfl) (by kernel_rfl)
    ⟨fun _ _ _ h => h,
    trivial⟩
    (cast (by kernel_rfl) h)
def S_need_Ask_Values (x0 : Value) (M : Store) (Q : Value → Store → Prop) : Prop :=
  R F.need_Ask_tells #[x0] M fun t4 M1 =>
  OP (aun .not t4) fun t5 =>
  BR t5 (
  NTs [(.slice none 0 0)] ∧ Q (.slice none 0 0) M1
  ) (
  OP (nilc x0) fun t7 =>
  OP (fad 8 t7) fun t8 =>
  OP (ld 1 false t8 M1) fun t9 =>
  R F.need_still #[t9] M1 fun t10 M2 =>
  NTs [t10] ∧ Q t10 M2
  )
theorem T_need_Ask_Values {x0 : Value} {M : Store} {Q : Value → Store → Prop} (h : S_need_Ask_Values x0 M Q) : R F.need_Ask_Values #[x0] M Q := by
  refine runs_of (c := bodyOf Try.f57) Try.func57 rfl (by kernel_rfl) (by kernel_rfl) ?_
  unfold At
  exact rule (B := 1000) (N := 11) (ct := .no)
    [⟨1, fun a M => kfin Try.prog Try.f57.results.toList Q 1 a M, fun a M => kfin Try.prog Try.f57.results.toList Q 1 a M⟩]
    [] [1] (by kernel_rfl) (by kernel_rfl) (by kernel_rfl) (by kernel_rfl) (by kernel_rfl)
    ⟨fun _ _ _ h => h,
    trivial⟩
    (cast (by kernel_rfl) h)
def P_fettlelaw16_ask_1 (x0 x1 x5 x6 : Value) (M : Store) (Q : Value → Store → Prop) : Prop :=
  ∀ f : Nat → Value, f 0 = x0 → f 1 = x1 → f 5 = x5 → f 6 = x6 → At Try.prog Ex none Try.f58 [1, 1, 0, 1, 0] ⟨⟨37, f⟩, []⟩ M Q
def P_fettlelaw16_ask_2 (x1 x5 : Value) (M : Store) (Q : Value → Store → Prop) : Prop :=
  ∀ f : Nat → Value, f 1 = x1 → f 5 = x5 → At Try.prog Ex none Try.f58 [1, 1, 1] ⟨⟨37, f⟩, []⟩ M Q
def S_fettlelaw16_ask (x0 x1 : Value) (M : Store) (Q : Value → Store → Prop) : Prop :=
  P_fettlelaw16_ask_1 x0 x1 (.int .i64 0) (.int .i64 0) M Q
theorem T_fettlelaw16_ask {x0 x1 : Value} {M : Store} {Q : Value → Store → Prop} (h : S_fettlelaw16_ask x0 x1 M Q) : R F.fettlelaw16_ask #[x0, x1] M Q := by
  refine runs_of (c := bodyOf Try.f58) Try.func58 rfl (by kernel_rfl) (by kernel_rfl) ?_
  unfold At
  exact rule (B := 1000) (N := 37) (ct := (.two .no (.two .no (.two (.two .no (.two (.here 1000) .no)) (.here 1001)))))
    [⟨1002, fun a M => dfr a.defers (P_fettlelaw16_ask_1 (a.get 0) (a.get 1) (a.get 5) (a.get 6) M Q), fun a M => At Try.prog Ex none Try.f58 [1, 1, 0, 1, 0] a M Q⟩,
    ⟨1003, fun _ _ => False, fun a M => At Try.prog Ex none Try.f58 [1, 1, 1] a M Q⟩]
    [1000, 1001] [] (by kernel_rfl) (by kernel_rfl) (by kernel_rfl) (by kernel_rfl) (by kernel_rfl)
    ⟨fun a M hn h => by obtain ⟨⟨n, f⟩, ds⟩ := a; have hn : n = 37 := hn; subst hn; obtain ⟨hd, h⟩ := dfr_iff h; have hd : ds = [] := hd; subst hd; exact h f rfl rfl rfl rfl,
    fun _ _ _ h => h.elim,
    trivial⟩
    (cast (by kernel_rfl) h)
def S_fettlelaw16_ask_1 (x0 x1 x5 x6 : Value) (M : Store) (Q : Value → Store → Prop) : Prop :=
  OP (binI .lss x6 (.int .i64 100)) fun t8 =>
  BR t8 (
  OP (binI .eql x5 (.int .i64 0)) fun t11 =>
  BR t11 (
  R F.need_Ask_Step #[x1, x0] M fun t17 M1 =>
  OP (binI .add x6 (.int .i64 1)) fun t14 =>
  P_fettlelaw16_ask_1 x0 x1 t17 t14 M1 Q
  ) (
  P_fettlelaw16_ask_2 x1 x5 M Q
  )
  ) (
  P_fettlelaw16_ask_2 x1 x5 M Q
  )
theorem T_fettlelaw16_ask_1 {x0 x1 x5 x6 : Value} {M : Store} {Q : Value → Store → Prop} (h : S_fettlelaw16_ask_1 x0 x1 x5 x6 M Q) : P_fettlelaw16_ask_1 x0 x1 x5 x6 M Q := by
  intro f h0 h1 h5 h6; subst h0; subst h1; subst h5; subst h6
  unfold At
  refine cast (by kernel_rfl) (CW.loop (P := Try.prog) (E := Ex) (rd := none) (x := sub (bodyOf Try.f58) [1, 1, 0, 1, 0, 0]) (a := ⟨⟨37, f⟩, []⟩) (M := M) (K := kcont Try.prog Ex none (bodyOf Try.f58) [1, 1, 0, 1, 0] (kfin Try.prog Try.f58.results.toList Q)) ?_)
  exact rule (B := 1000) (N := 37) (ct := .no)
    [⟨0, fun a M => dfr a.defers (P_fettlelaw16_ask_1 (a.get 0) (a.get 1) (a.get 5) (a.get 6) M Q), fun a M => At Try.prog Ex none Try.f58 [1, 1, 0, 1, 0] a M Q⟩,
    ⟨2, fun a M => dfr a.defers (P_fettlelaw16_ask_2 (a.get 1) (a.get 5) M Q), fun a M => At Try.prog Ex none Try.f58 [1, 1, 1] a M Q⟩]
    [] [0, 2] (by kernel_rfl) (by kernel_rfl) (by kernel_rfl) (by kernel_rfl) (by kernel_rfl)
    ⟨fun a M hn h => by obtain ⟨⟨n, f⟩, ds⟩ := a; have hn : n = 37 := hn; subst hn; obtain ⟨hd, h⟩ := dfr_iff h; have hd : ds = [] := hd; subst hd; exact h f rfl rfl rfl rfl,
    fun a M hn h => by obtain ⟨⟨n, f⟩, ds⟩ := a; have hn : n = 37 := hn; subst hn; obtain ⟨hd, h⟩ := dfr_iff h; have hd : ds = [] := hd; subst hd; exact h f rfl rfl,
    trivial⟩
    (cast (by kernel_rfl) h)
def S_fettlelaw16_ask_2 (x1 x5 : Value) (M : Store) (Q : Value → Store → Prop) : Prop :=
  OP (binI .eql x5 (.int .i64 2)) fun t19 =>
  BR t19 (
  R F.need_Ask_Prints #[x1] M fun t26 M1 =>
  OP (lenV t26) fun t27 =>
  OP (binI .neq t27 (.int .i64 2)) fun t28 =>
  BR3 t28 (
  NTs [(.int .i64 (-1))] ∧ Q (.int .i64 (-1)) M1
  ) (
  R F.need_Ask_Old #[x1] M1 fun t31 M2 =>
  OP (lenV t31) fun t32 =>
  OP (binI .neq t32 (.int .i64 2)) fun t33 =>
  BR t33 (
  NTs [(.int .i64 (-1))] ∧ Q (.int .i64 (-1)) M2
  ) (
  NTs [x5] ∧ Q x5 M2
  )
  ) (
  BR t28 (
  NTs [(.int .i64 (-1))] ∧ Q (.int .i64 (-1)) M1
  ) (
  BR undef (
  NTs [(.int .i64 (-1))] ∧ Q (.int .i64 (-1)) M1
  ) (
  NTs [x5] ∧ Q x5 M1
  )
  )
  )
  ) (
  OP (binI .eql x5 (.int .i64 1)) fun t22 =>
  BR t22 (
  R F.need_Ask_Prints #[x1] M fun t26_1 M3 =>
  OP (lenV t26_1) fun t27_1 =>
  OP (binI .neq t27_1 (.int .i64 2)) fun t28_1 =>
  BR3 t28_1 (
  NTs [(.int .i64 (-1))] ∧ Q (.int .i64 (-1)) M3
  ) (
  R F.need_Ask_Old #[x1] M3 fun t31_1 M4 =>
  OP (lenV t31_1) fun t32_1 =>
  OP (binI .neq t32_1 (.int .i64 2)) fun t33_1 =>
  BR t33_1 (
  NTs [(.int .i64 (-1))] ∧ Q (.int .i64 (-1)) M4
  ) (
  NTs [x5] ∧ Q x5 M4
  )
  ) (
  BR t28_1 (
  NTs [(.int .i64 (-1))] ∧ Q (.int .i64 (-1)) M3
  ) (
  BR undef (
  NTs [(.int .i64 (-1))] ∧ Q (.int .i64 (-1)) M3
  ) (
  NTs [x5] ∧ Q x5 M3
  )
  )
  )
  ) (
  NTs [x5] ∧ Q x5 M
  )
  )
theorem T_fettlelaw16_ask_2 {x1 x5 : Value} {M : Store} {Q : Value → Store → Prop} (h : S_fettlelaw16_ask_2 x1 x5 M Q) : P_fettlelaw16_ask_2 x1 x5 M Q := by
  intro f h1 h5; subst h1; subst h5
  unfold At
  exact rule (B := 1000) (N := 37) (ct := .no)
    [⟨1, fun a M => kfin Try.prog Try.f58.results.toList Q 1 a M, fun a M => kfin Try.prog Try.f58.results.toList Q 1 a M⟩]
    [] [1] (by kernel_rfl) (by kernel_rfl) (by kernel_rfl) (by kernel_rfl) (by kernel_rfl)
    ⟨fun _ _ _ h => h,
    trivial⟩
    (cast (by kernel_rfl) h)
def S_need_Ask_Old (x0 : Value) (M : Store) (Q : Value → Store → Prop) : Prop :=
  R F.need_Ask_tells #[x0] M fun t4 M1 =>
  OP (aun .not t4) fun t5 =>
  BR t5 (
  NTs [(.slice none 0 0)] ∧ Q (.slice none 0 0) M1
  ) (
  OP (nilc x0) fun t7 =>
  OP (fad 9 t7) fun t8 =>
  OP (ld 1 false t8 M1) fun t9 =>
  R F.slices_Clone_sl_bool_bool #[t9] M1 fun t10 M2 =>
  NTs [t10] ∧ Q t10 M2
  )
theorem T_need_Ask_Old {x0 : Value} {M : Store} {Q : Value → Store → Prop} (h : S_need_Ask_Old x0 M Q) : R F.need_Ask_Old #[x0] M Q := by
  refine runs_of (c := bodyOf Try.f59) Try.func59 rfl (by kernel_rfl) (by kernel_rfl) ?_
  unfold At
  exact rule (B := 1000) (N := 11) (ct := .no)
    [⟨1, fun a M => kfin Try.prog Try.f59.results.toList Q 1 a M, fun a M => kfin Try.prog Try.f59.results.toList Q 1 a M⟩]
    [] [1] (by kernel_rfl) (by kernel_rfl) (by kernel_rfl) (by kernel_rfl) (by kernel_rfl)
    ⟨fun _ _ _ h => h,
    trivial⟩
    (cast (by kernel_rfl) h)
def P_need_Still_1 (x2 x3 x19 x20 x21 : Value) (M : Store) (Q : Value → Store → Prop) : Prop :=
  ∀ f : Nat → Value, f 2 = x2 → f 3 = x3 → f 19 = x19 → f 20 = x20 → f 21 = x21 → At Try.prog Ex none Try.f96 [1, 1, 0, 1, 0] ⟨⟨34, f⟩, []⟩ M Q
def P_need_Still_2 (x2 x3 x19 x20 x21 : Value) (M : Store) (Q : Value → Store → Prop) : Prop :=
  ∀ f : Nat → Value, f 2 = x2 → f 3 = x3 → f 19 = x19 → f 20 = x20 → f 21 = x21 → At Try.prog Ex none Try.f96 [1, 1, 0, 1, 0, 0, 1, 1] ⟨⟨34, f⟩, []⟩ M Q
def P_need_Still_3 (x2 x3 : Value) (M : Store) (Q : Value → Store → Prop) : Prop :=
  ∀ f : Nat → Value, f 2 = x2 → f 3 = x3 → At Try.prog Ex none Try.f96 [1, 1, 1] ⟨⟨34, f⟩, []⟩ M Q
def S_need_Still (x0 : Value) (M : Store) (Q : Value → Store → Prop) : Prop :=
  OP (boxv x0) fun c =>
  LT (.pointer (some ⟨M.n, 0, none⟩)) (M.push (some (.inl (c, Ty.api_Rule, true)))) fun t1 M1 =>
  LT (.pointer (some ⟨M1.n, 0, none⟩)) (M1.push (some (.inl ([(.slice none 0 0), (.slice none 0 0), (.slice none 0 0), (.slice none 0 0), (.bool false)], Ty.api_Rule, true)))) fun t2 M2 =>
  OP (fad 0 t1) fun t6 =>
  OP (ld 1 false t6 M2) fun t7 =>
  R F.slices_Clone_sl_string_string #[t7] M2 fun t8 M3 =>
  TDj [0, 1] [M2.n, M2.n, M2.n] M2 M3 ∧
  OP (fad 1 t1) fun t9 =>
  OP (ld 1 false t9 M3) fun t10 =>
  R F.slices_Clone_sl_string_string #[t10] M3 fun t11 M4 =>
  TDj [0, 1, 2, 3, 4] [M2.n, M2.n, M2.n, M3.n, M3.n, M3.n] M3 M4 ∧
  OP (fad 2 t1) fun t12 =>
  OP (ld 1 false t12 M4) fun t13 =>
  R F.slices_Clone_sl_string_string #[t13] M4 fun t14 M5 =>
  TDj [0, 1, 2, 3, 4, 5, 6, 7] [M2.n, M2.n, M2.n, M3.n, M3.n, M3.n, M4.n, M4.n, M4.n] M4 M5 ∧
  OP (fad 4 t1) fun t15 =>
  OP (ld 1 false t15 M5) fun t16 =>
  OP (bldS #[(.slice none 0 0), (.slice none 0 0), (.slice none 0 0), (.slice none 0 0), (.bool false)] [(0, 1), (1, 1), (2, 1), (3, 1), (4, 1)] [(0, t8), (1, t11), (2, t14), (4, t16)]) fun t17 =>
  LT (.pointer (some ⟨M5.n, 0, none⟩)) (M5.push (some (.inl ([(.slice none 0 0), (.slice none 0 0), (.slice none 0 0), (.slice none 0 0), (.bool false)], Ty.api_Rule, true)))) fun t3 M6 =>
  OP (st 5 t3 t17 M6) fun M7 =>
  TDx [0, 1, 3, 0, 8, 31, 0, 64, 255, 0, 512, 2047, 0, 8191] [M2.n, M2.n, M2.n, M3.n, M3.n, M3.n, M4.n, M4.n, M4.n, M5.n, M5.n, M5.n, M5.n, M6.n] 13 M6 M7 ∧
  OP (fad 3 t1) fun t18 =>
  OP (ld 1 false t18 M7) fun t19 =>
  OP (lenV t19) fun t20 =>
  P_need_Still_1 t2 t3 t19 t20 (.int .i64 0) M7 Q
theorem T_need_Still {x0 : Value} {M : Store} {Q : Value → Store → Prop} (h : S_need_Still x0 M Q) : R F.need_Still #[x0] M Q := by
  refine runs_of (c := bodyOf Try.f96) Try.func96 rfl (by kernel_rfl) (by kernel_rfl) ?_
  unfold At
  exact rule (B := 1000) (N := 34) (ct := (.two .no (.two .no (.two (.two .no (.two (.here 1000) .no)) (.here 1001)))))
    [⟨1002, fun a M => dfr a.defers (P_need_Still_1 (a.get 2) (a.get 3) (a.get 19) (a.get 20) (a.get 21) M Q), fun a M => At Try.prog Ex none Try.f96 [1, 1, 0, 1, 0] a M Q⟩,
    ⟨1003, fun _ _ => False, fun a M => At Try.prog Ex none Try.f96 [1, 1, 1] a M Q⟩]
    [1000, 1001] [] (by kernel_rfl) (by kernel_rfl) (by kernel_rfl) (by kernel_rfl) (by kernel_rfl)
    ⟨fun a M hn h => by obtain ⟨⟨n, f⟩, ds⟩ := a; have hn : n = 34 := hn; subst hn; obtain ⟨hd, h⟩ := dfr_iff h; have hd : ds = [] := hd; subst hd; exact h f rfl rfl rfl rfl rfl,
    fun _ _ _ h => h.elim,
    trivial⟩
    (cast (by kernel_rfl) h)
def S_need_Still_1 (x2 x3 x19 x20 x21 : Value) (M : Store) (Q : Value → Store → Prop) : Prop :=
  OP (binI .lss x21 x20) fun t22 =>
  BR t22 (
  P_need_Still_2 x2 x3 x19 x20 x21 M Q
  ) (
  P_need_Still_3 x2 x3 M Q
  )
theorem T_need_Still_1 {x2 x3 x19 x20 x21 : Value} {M : Store} {Q : Value → Store → Prop} (h : S_need_Still_1 x2 x3 x19 x20 x21 M Q) : P_need_Still_1 x2 x3 x19 x20 x21 M Q := by
  intro f h2 h3 h19 h20 h21; subst h2; subst h3; subst h19; subst h20; subst h21
  unfold At
  refine cast (by kernel_rfl) (CW.loop (P := Try.prog) (E := Ex) (rd := none) (x := sub (bodyOf Try.f96) [1, 1, 0, 1, 0, 0]) (a := ⟨⟨34, f⟩, []⟩) (M := M) (K := kcont Try.prog Ex none (bodyOf Try.f96) [1, 1, 0, 1, 0] (kfin Try.prog Try.f96.results.toList Q)) ?_)
  exact rule (B := 1000) (N := 34) (ct := (.two .no (.two .no (.here 1000))))
    [⟨1002, fun a M => dfr a.defers (P_need_Still_2 (a.get 2) (a.get 3) (a.get 19) (a.get 20) (a.get 21) M Q), fun a M => At Try.prog Ex none Try.f96 [1, 1, 0, 1, 0, 0, 1, 1] a M Q⟩,
    ⟨2, fun a M => dfr a.defers (P_need_Still_3 (a.get 2) (a.get 3) M Q), fun a M => At Try.prog Ex none Try.f96 [1, 1, 1] a M Q⟩]
    [1000] [2] (by kernel_rfl) (by kernel_rfl) (by kernel_rfl) (by kernel_rfl) (by kernel_rfl)
    ⟨fun a M hn h => by obtain ⟨⟨n, f⟩, ds⟩ := a; have hn : n = 34 := hn; subst hn; obtain ⟨hd, h⟩ := dfr_iff h; have hd : ds = [] := hd; subst hd; exact h f rfl rfl rfl rfl rfl,
    fun a M hn h => by obtain ⟨⟨n, f⟩, ds⟩ := a; have hn : n = 34 := hn; subst hn; obtain ⟨hd, h⟩ := dfr_iff h; have hd : ds = [] := hd; subst hd; exact h f rfl rfl,
    trivial⟩
    (cast (by kernel_rfl) h)
def S_need_Still_2 (x2 x3 x19 x20 x21 : Value) (M : Store) (Q : Value → Store → Prop) : Prop :=
  OP (ixA 1 x19 x21) fun t23 =>
  OP (ld 1 false t23 M) fun t24 =>
  OP (fad 3 x3) fun t25 =>
  OP (ld 1 false t25 M) fun t26 =>
  R F.slices_Clone_sl_api_Do_api_Do #[t24] M fun t28 M1 =>
  TDj [2] [M.n, M.n, M.n, M.n] M M1 ∧
  OP (bldL (.slice none 0 0) 1 1 [(0, t28)]) fun c =>
  LT (.slice (some ⟨M1.n, 0, none⟩) 1 1) (M1.push (some (.inl (c, Ty.sl_api_Do, true)))) fun t29 M2 =>
  OP2 (appV 1 Ty.sl_api_Do t26 t29 M2) fun t30 M3 =>
  TDx [0, 1, 0, 4, 12, 31, 63, 127] [M.n, M.n, M.n, M.n, M1.n, M2.n] 5 M2 M3 ∧
  OP (fad 3 x3) fun t31 =>
  OP (st 1 t31 t30 M3) fun M4 =>
  TDx [0, 1, 0, 4, 12, 31, 63, 127] [M.n, M.n, M.n, M.n, M1.n, M2.n, M3.n, M3.n] 7 M3 M4 ∧
  OP (binI .add x21 (.int .i64 1)) fun t32 =>
  P_need_Still_1 x2 x3 x19 x20 t32 M4 Q
theorem T_need_Still_2 {x2 x3 x19 x20 x21 : Value} {M : Store} {Q : Value → Store → Prop} (h : S_need_Still_2 x2 x3 x19 x20 x21 M Q) : P_need_Still_2 x2 x3 x19 x20 x21 M Q := by
  intro f h2 h3 h19 h20 h21; subst h2; subst h3; subst h19; subst h20; subst h21
  unfold At
  exact rule (B := 1000) (N := 34) (ct := .no)
    [⟨0, fun a M => dfr a.defers (P_need_Still_1 (a.get 2) (a.get 3) (a.get 19) (a.get 20) (a.get 21) M Q), fun a M => At Try.prog Ex none Try.f96 [1, 1, 0, 1, 0] a M Q⟩]
    [] [0] (by kernel_rfl) (by kernel_rfl) (by kernel_rfl) (by kernel_rfl) (by kernel_rfl)
    ⟨fun a M hn h => by obtain ⟨⟨n, f⟩, ds⟩ := a; have hn : n = 34 := hn; subst hn; obtain ⟨hd, h⟩ := dfr_iff h; have hd : ds = [] := hd; subst hd; exact h f rfl rfl rfl rfl rfl,
    trivial⟩
    (cast (by kernel_rfl) h)
def S_need_Still_3 (x2 x3 : Value) (M : Store) (Q : Value → Store → Prop) : Prop :=
  OP (ld 5 true x3 M) fun t33 =>
  OP (st 5 x2 t33 M) fun M1 =>
  OP (ld 5 true x2 M1) fun r2 =>
  NTs [r2] ∧ Q r2 M1
theorem T_need_Still_3 {x2 x3 : Value} {M : Store} {Q : Value → Store → Prop} (h : S_need_Still_3 x2 x3 M Q) : P_need_Still_3 x2 x3 M Q := by
  intro f h2 h3; subst h2; subst h3
  unfold At
  exact rule (B := 1000) (N := 34) (ct := .no)
    [⟨1, fun a M => kfin Try.prog Try.f96.results.toList Q 1 a M, fun a M => kfin Try.prog Try.f96.results.toList Q 1 a M⟩]
    [] [1] (by kernel_rfl) (by kernel_rfl) (by kernel_rfl) (by kernel_rfl) (by kernel_rfl)
    ⟨fun _ _ _ h => h,
    trivial⟩
    (cast (by kernel_rfl) h)
def S_need_Ask_end (x0 x1 : Value) (M : Store) (Q : Value → Store → Prop) : Prop :=
  OP (nilc x0) fun t8 =>
  OP (fad 10 t8) fun t9 =>
  OP (st 1 t9 (.bool true) M) fun M1 =>
  OP (nilc x0) fun t10 =>
  OP (fad 11 t10) fun t11 =>
  OP (st 1 t11 x1 M1) fun M2 =>
  NTs [x1] ∧ Q x1 M2
theorem T_need_Ask_end {x0 x1 : Value} {M : Store} {Q : Value → Store → Prop} (h : S_need_Ask_end x0 x1 M Q) : R F.need_Ask_end #[x0, x1] M Q := by
  refine runs_of (c := bodyOf Try.f97) Try.func97 rfl (by kernel_rfl) (by kernel_rfl) ?_
  unfold At
  exact rule (B := 1000) (N := 13) (ct := .no)
    [⟨1, fun a M => kfin Try.prog Try.f97.results.toList Q 1 a M, fun a M => kfin Try.prog Try.f97.results.toList Q 1 a M⟩]
    [] [1] (by kernel_rfl) (by kernel_rfl) (by kernel_rfl) (by kernel_rfl) (by kernel_rfl)
    ⟨fun _ _ _ h => h,
    trivial⟩
    (cast (by kernel_rfl) h)
def P_need_Ask_inputs_1 (x0 x42 x43 : Value) (M : Store) (Q : Value → Store → Prop) : Prop :=
  ∀ f : Nat → Value, f 0 = x0 → f 42 = x42 → f 43 = x43 → At Try.prog Ex none Try.f98 [1, 1, 1, 1, 0, 1, 0] ⟨⟨80, f⟩, []⟩ M Q
def P_need_Ask_inputs_2 (x0 x42 x43 : Value) (M : Store) (Q : Value → Store → Prop) : Prop :=
  ∀ f : Nat → Value, f 0 = x0 → f 42 = x42 → f 43 = x43 → At Try.prog Ex none Try.f98 [1, 1, 1, 1, 0, 1, 0, 0, 1, 1] ⟨⟨80, f⟩, []⟩ M Q
def P_need_Ask_inputs_3 (x0 : Value) (M : Store) (Q : Value → Store → Prop) : Prop :=
  ∀ f : Nat → Value, f 0 = x0 → At Try.prog Ex none Try.f98 [1, 1, 1, 1, 1] ⟨⟨80, f⟩, []⟩ M Q
def P_need_Ask_inputs_4 (x0 x6 x42 x43 : Value) (M : Store) (Q : Value → Store → Prop) : Prop :=
  ∀ f : Nat → Value, f 0 = x0 → f 6 = x6 → f 42 = x42 → f 43 = x43 → At Try.prog Ex none Try.f98 [1, 1, 1, 1, 0, 1, 0, 0, 1, 1, 0, 0, 1, 1, 1] ⟨⟨80, f⟩, []⟩ M Q
def P_need_Ask_inputs_5 (x0 x42 x43 : Value) (M : Store) (Q : Value → Store → Prop) : Prop :=
  ∀ f : Nat → Value, f 0 = x0 → f 42 = x42 → f 43 = x43 → At Try.prog Ex none Try.f98 [1, 1, 1, 1, 0, 1, 0, 0, 1, 1, 1] ⟨⟨80, f⟩, []⟩ M Q
def S_need_Ask_inputs (x0 x1 : Value) (M : Store) (Q : Value → Store → Prop) : Prop :=
  OP (nilc x0) fun t8 =>
  OP (fad 5 t8) fun t9 =>
  OP (ld 1 false t9 M) fun t10 =>
  R F.sour_Read_Step #[t10, x1] M fun t12 M1 =>
  OP (binI .eql t12 (.int .i64 0)) fun t14 =>
  BR t14 (
  NTs [(.int .i64 0)] ∧ Q (.int .i64 0) M1
  ) (
  OP (binI .eql t12 (.int .i64 2)) fun t16 =>
  BR t16 (
  R F.need_Ask_end #[x0, (.int .i64 3)] M1 fun t18 M2 =>
  NTs [t18] ∧ Q t18 M2
  ) (
  OP (binI .eql t12 (.int .i64 3)) fun t20 =>
  BR t20 (
  R F.need_Ask_end #[x0, (.int .i64 4)] M1 fun t22 M3 =>
  NTs [t22] ∧ Q t22 M3
  ) (
  OP (nilc x0) fun t26 =>
  OP (fad 5 t26) fun t27 =>
  OP (ld 1 false t27 M1) fun t28 =>
  R F.sour_Read_Values #[t28] M1 fun t29 M4 =>
  OP (tup t29 0) fun t30 =>
  OP (tup t29 1) fun t31 =>
  OP (nilc x0) fun t32 =>
  OP (fad 8 t32) fun t33 =>
  OP (st 1 t33 t30 M4) fun M5 =>
  OP (nilc x0) fun t35 =>
  OP (fad 6 t35) fun t36 =>
  OP (st 1 t36 (.bool true) M5) fun M6 =>
  OP (nilc x0) fun t38 =>
  OP (fad 0 t38) fun t39 =>
  OP (fad 0 t39) fun t40 =>
  OP (ld 1 false t40 M6) fun t41 =>
  OP (lenV t41) fun t42 =>
  P_need_Ask_inputs_1 x0 t42 (.int .i64 0) M6 Q
  )
  )
  )
theorem T_need_Ask_inputs {x0 x1 : Value} {M : Store} {Q : Value → Store → Prop} (h : S_need_Ask_inputs x0 x1 M Q) : R F.need_Ask_inputs #[x0, x1] M Q := by
  refine runs_of (c := bodyOf Try.f98) Try.func98 rfl (by kernel_rfl) (by kernel_rfl) ?_
  unfold At
  exact rule (B := 1000) (N := 80) (ct := (.two .no (.two .no (.two .no (.two .no (.two (.two .no (.two (.here 1000) .no)) (.here 1001)))))))
    [⟨1002, fun a M => dfr a.defers (P_need_Ask_inputs_1 (a.get 0) (a.get 42) (a.get 43) M Q), fun a M => At Try.prog Ex none Try.f98 [1, 1, 1, 1, 0, 1, 0] a M Q⟩,
    ⟨1003, fun _ _ => False, fun a M => At Try.prog Ex none Try.f98 [1, 1, 1, 1, 1] a M Q⟩,
    ⟨1, fun a M => kfin Try.prog Try.f98.results.toList Q 1 a M, fun a M => kfin Try.prog Try.f98.results.toList Q 1 a M⟩]
    [1000, 1001] [1] (by kernel_rfl) (by kernel_rfl) (by kernel_rfl) (by kernel_rfl) (by kernel_rfl)
    ⟨fun a M hn h => by obtain ⟨⟨n, f⟩, ds⟩ := a; have hn : n = 80 := hn; subst hn; obtain ⟨hd, h⟩ := dfr_iff h; have hd : ds = [] := hd; subst hd; exact h f rfl rfl rfl,
    fun _ _ _ h => h.elim,
    fun _ _ _ h => h,
    trivial⟩
    (cast (by kernel_rfl) h)
def S_need_Ask_inputs_1 (x0 x42 x43 : Value) (M : Store) (Q : Value → Store → Prop) : Prop :=
  OP (binI .lss x43 x42) fun t44 =>
  BR t44 (
  P_need_Ask_inputs_2 x0 x42 x43 M Q
  ) (
  P_need_Ask_inputs_3 x0 M Q
  )
theorem T_need_Ask_inputs_1 {x0 x42 x43 : Value} {M : Store} {Q : Value → Store → Prop} (h : S_need_Ask_inputs_1 x0 x42 x43 M Q) : P_need_Ask_inputs_1 x0 x42 x43 M Q := by
  intro f h0 h42 h43; subst h0; subst h42; subst h43
  unfold At
  refine cast (by kernel_rfl) (CW.loop (P := Try.prog) (E := Ex) (rd := none) (x := sub (bodyOf Try.f98) [1, 1, 1, 1, 0, 1, 0, 0]) (a := ⟨⟨80, f⟩, []⟩) (M := M) (K := kcont Try.prog Ex none (bodyOf Try.f98) [1, 1, 1, 1, 0, 1, 0] (kfin Try.prog Try.f98.results.toList Q)) ?_)
  exact rule (B := 1000) (N := 80) (ct := (.two .no (.two .no (.here 1000))))
    [⟨1002, fun a M => dfr a.defers (P_need_Ask_inputs_2 (a.get 0) (a.get 42) (a.get 43) M Q), fun a M => At Try.prog Ex none Try.f98 [1, 1, 1, 1, 0, 1, 0, 0, 1, 1] a M Q⟩,
    ⟨3, fun a M => dfr a.defers (P_need_Ask_inputs_3 (a.get 0) M Q), fun a M => At Try.prog Ex none Try.f98 [1, 1, 1, 1, 1] a M Q⟩]
    [1000] [3] (by kernel_rfl) (by kernel_rfl) (by kernel_rfl) (by kernel_rfl) (by kernel_rfl)
    ⟨fun a M hn h => by obtain ⟨⟨n, f⟩, ds⟩ := a; have hn : n = 80 := hn; subst hn; obtain ⟨hd, h⟩ := dfr_iff h; have hd : ds = [] := hd; subst hd; exact h f rfl rfl rfl,
    fun a M hn h => by obtain ⟨⟨n, f⟩, ds⟩ := a; have hn : n = 80 := hn; subst hn; obtain ⟨hd, h⟩ := dfr_iff h; have hd : ds = [] := hd; subst hd; exact h f rfl,
    trivial⟩
    (cast (by kernel_rfl) h)
def S_need_Ask_inputs_2 (x0 x42 x43 : Value) (M : Store) (Q : Value → Store → Prop) : Prop :=
  OP (nilc x0) fun t48 =>
  OP (fad 0 t48) fun t49 =>
  OP (fad 3 t49) fun t50 =>
  OP (ld 1 false t50 M) fun t51 =>
  OP (lenV t51) fun t52 =>
  OP (binI .lss x43 t52) fun t53 =>
  BR t53 (
  OP (nilc x0) fun t55 =>
  OP (fad 0 t55) fun t56 =>
  OP (fad 3 t56) fun t57 =>
  OP (ld 1 false t57 M) fun t58 =>
  OP (ixA 1 t58 x43) fun t60 =>
  OP (ld 1 false t60 M) fun t61 =>
  P_need_Ask_inputs_4 x0 t61 x42 x43 M Q
  ) (
  P_need_Ask_inputs_4 x0 (.slice none 0 0) x42 x43 M Q
  )
theorem T_need_Ask_inputs_2 {x0 x42 x43 : Value} {M : Store} {Q : Value → Store → Prop} (h : S_need_Ask_inputs_2 x0 x42 x43 M Q) : P_need_Ask_inputs_2 x0 x42 x43 M Q := by
  intro f h0 h42 h43; subst h0; subst h42; subst h43
  unfold At
  exact rule (B := 1000) (N := 80) (ct := (.two (.two (.two .no (.two .no (.two .no (.here 1000)))) .no) (.here 1001)))
    [⟨1002, fun a M => dfr a.defers (P_need_Ask_inputs_4 (a.get 0) (a.get 6) (a.get 42) (a.get 43) M Q), fun a M => At Try.prog Ex none Try.f98 [1, 1, 1, 1, 0, 1, 0, 0, 1, 1, 0, 0, 1, 1, 1] a M Q⟩,
    ⟨1003, fun _ _ => False, fun a M => At Try.prog Ex none Try.f98 [1, 1, 1, 1, 0, 1, 0, 0, 1, 1, 1] a M Q⟩]
    [1000, 1001] [] (by kernel_rfl) (by kernel_rfl) (by kernel_rfl) (by kernel_rfl) (by kernel_rfl)
    ⟨fun a M hn h => by obtain ⟨⟨n, f⟩, ds⟩ := a; have hn : n = 80 := hn; subst hn; obtain ⟨hd, h⟩ := dfr_iff h; have hd : ds = [] := hd; subst hd; exact h f rfl rfl rfl rfl,
    fun _ _ _ h => h.elim,
    trivial⟩
    (cast (by kernel_rfl) h)
def S_need_Ask_inputs_3 (x0 : Value) (M : Store) (Q : Value → Store → Prop) : Prop :=
  R F.need_Ask_settled #[x0] M fun t79 M1 =>
  NTs [t79] ∧ Q t79 M1
theorem T_need_Ask_inputs_3 {x0 : Value} {M : Store} {Q : Value → Store → Prop} (h : S_need_Ask_inputs_3 x0 M Q) : P_need_Ask_inputs_3 x0 M Q := by
  intro f h0; subst h0
  unfold At
  exact rule (B := 1000) (N := 80) (ct := .no)
    [⟨1, fun a M => kfin Try.prog Try.f98.results.toList Q 1 a M, fun a M => kfin Try.prog Try.f98.results.toList Q 1 a M⟩]
    [] [1] (by kernel_rfl) (by kernel_rfl) (by kernel_rfl) (by kernel_rfl) (by kernel_rfl)
    ⟨fun _ _ _ h => h,
    trivial⟩
    (cast (by kernel_rfl) h)
def S_need_Ask_inputs_4 (x0 x6 x42 x43 : Value) (M : Store) (Q : Value → Store → Prop) : Prop :=
  OP (nilc x0) fun t64 =>
  OP (fad 7 t64) fun t65 =>
  OP (ld 1 false t65 M) fun t66 =>
  OP (nilc x0) fun t69 =>
  OP (fad 8 t69) fun t70 =>
  OP (ld 1 false t70 M) fun t71 =>
  R F.prnt_Print #[x6, t71] M fun t72 M1 =>
  TDj [5, 6, 7, 8, 9] [M.n, M.n, M.n, M.n, M.n, M.n, M.n, M.n, M.n, M.n, M.n] M M1 ∧
  OP (bldL (.slice none 0 0) 1 1 [(0, t72)]) fun c =>
  LT (.slice (some ⟨M1.n, 0, none⟩) 1 1) (M1.push (some (.inl (c, Ty.sl_uint8, true)))) fun t73 M2 =>
  OP2 (appV 1 Ty.sl_uint8 t66 t73 M2) fun t74 M3 =>
  TDx [0, 0, 2, 6, 14, 0, 0, 64, 192, 448, 992, 2016, 4094, 8191, 16383, 32767] [M.n, M.n, M.n, M.n, M.n, M.n, M.n, M.n, M.n, M.n, M.n, M1.n, M2.n] 12 M2 M3 ∧
  OP (nilc x0) fun t75 =>
  OP (fad 7 t75) fun t76 =>
  OP (st 1 t76 t74 M3) fun M4 =>
  TDx [0, 0, 2, 6, 14, 0, 0, 64, 192, 448, 992, 2016, 4094, 8191, 16383, 32767] [M.n, M.n, M.n, M.n, M.n, M.n, M.n, M.n, M.n, M.n, M.n, M1.n, M2.n, M3.n, M3.n, M3.n] 15 M3 M4 ∧
  P_need_Ask_inputs_5 x0 x42 x43 M4 Q
theorem T_need_Ask_inputs_4 {x0 x6 x42 x43 : Value} {M : Store} {Q : Value → Store → Prop} (h : S_need_Ask_inputs_4 x0 x6 x42 x43 M Q) : P_need_Ask_inputs_4 x0 x6 x42 x43 M Q := by
  intro f h0 h6 h42 h43; subst h0; subst h6; subst h42; subst h43
  unfold At
  exact rule (B := 1000) (N := 80) (ct := .no)
    [⟨0, fun a M => dfr a.defers (P_need_Ask_inputs_5 (a.get 0) (a.get 42) (a.get 43) M Q), fun a M => At Try.prog Ex none Try.f98 [1, 1, 1, 1, 0, 1, 0, 0, 1, 1, 1] a M Q⟩]
    [] [0] (by kernel_rfl) (by kernel_rfl) (by kernel_rfl) (by kernel_rfl) (by kernel_rfl)
    ⟨fun a M hn h => by obtain ⟨⟨n, f⟩, ds⟩ := a; have hn : n = 80 := hn; subst hn; obtain ⟨hd, h⟩ := dfr_iff h; have hd : ds = [] := hd; subst hd; exact h f rfl rfl rfl,
    trivial⟩
    (cast (by kernel_rfl) h)
def S_need_Ask_inputs_5 (x0 x42 x43 : Value) (M : Store) (Q : Value → Store → Prop) : Prop :=
  OP (binI .add x43 (.int .i64 1)) fun t77 =>
  P_need_Ask_inputs_1 x0 x42 t77 M Q
theorem T_need_Ask_inputs_5 {x0 x42 x43 : Value} {M : Store} {Q : Value → Store → Prop} (h : S_need_Ask_inputs_5 x0 x42 x43 M Q) : P_need_Ask_inputs_5 x0 x42 x43 M Q := by
  intro f h0 h42 h43; subst h0; subst h42; subst h43
  unfold At
  exact rule (B := 1000) (N := 80) (ct := .no)
    [⟨0, fun a M => dfr a.defers (P_need_Ask_inputs_1 (a.get 0) (a.get 42) (a.get 43) M Q), fun a M => At Try.prog Ex none Try.f98 [1, 1, 1, 1, 0, 1, 0] a M Q⟩]
    [] [0] (by kernel_rfl) (by kernel_rfl) (by kernel_rfl) (by kernel_rfl) (by kernel_rfl)
    ⟨fun a M hn h => by obtain ⟨⟨n, f⟩, ds⟩ := a; have hn : n = 80 := hn; subst hn; obtain ⟨hd, h⟩ := dfr_iff h; have hd : ds = [] := hd; subst hd; exact h f rfl rfl rfl,
    trivial⟩
    (cast (by kernel_rfl) h)
def S_need_Ask_output (x0 x1 : Value) (M : Store) (Q : Value → Store → Prop) : Prop :=
  OP (nilc x0) fun t13 =>
  OP (fad 9 t13) fun t14 =>
  OP (ld 1 false t14 M) fun t15 =>
  OP (lenV t15) fun t16 =>
  OP (nilc x0) fun t20 =>
  OP (fad 0 t20) fun t21 =>
  OP (fad 0 t21) fun t22 =>
  OP (ld 1 false t22 M) fun t23 =>
  OP (ixA 1 t23 t16) fun t25 =>
  OP (ld 1 false t25 M) fun t26 =>
  R F.simf_FS_Read #[x1, t26] M fun t27 M1 =>
  OP (tup t27 0) fun t28 =>
  OP (tup t27 1) fun t29 =>
  OP (tup t27 2) fun t30 =>
  R F.arti_Open #[t28] M1 fun t33 M2 =>
  OP (tup t33 0) fun t34 =>
  OP (tup t33 1) fun t35 =>
  OP (tup t33 2) fun t36 =>
  OP (nilc x0) fun t39 =>
  OP (fad 9 t39) fun t40 =>
  OP (ld 1 false t40 M2) fun t41 =>
  OP (binI .neq t30 (.int .i64 0)) fun t43 =>
  BR t43 (
  OP (bldL (.bool false) 1 1 [(0, (.bool true))]) fun c =>
  LT (.slice (some ⟨M2.n, 0, none⟩) 1 1) (M2.push (some (.inl (c, Ty.bool, true)))) fun t60 M3 =>
  OP2 (appV 1 Ty.bool t41 t60 M3) fun t61 M4 =>
  TDx [0, 0, 2, 6, 14, 0, 32, 96, 224, 480, 992, 2016, 4064, 4064, 12256, 28640, 61408, 4064, 258016, 520160, 1048544, 2097120, 4194272, 8388576, 16777214, 33554431, 67108863, 134217727] [M2.n, M2.n, M2.n, M2.n, M2.n, M2.n, M2.n, M2.n, M2.n, M2.n, M2.n, M2.n, M2.n, M2.n, M2.n, M2.n, M2.n, M2.n, M2.n, M2.n, M2.n, M2.n, M2.n, M2.n, M3.n] 24 M3 M4 ∧
  OP (nilc x0) fun t62 =>
  OP (fad 9 t62) fun t63 =>
  OP (st 1 t63 t61 M4) fun M5 =>
  TDx [0, 0, 2, 6, 14, 0, 32, 96, 224, 480, 992, 2016, 4064, 4064, 12256, 28640, 61408, 4064, 258016, 520160, 1048544, 2097120, 4194272, 8388576, 16777214, 33554431, 67108863, 134217727] [M2.n, M2.n, M2.n, M2.n, M2.n, M2.n, M2.n, M2.n, M2.n, M2.n, M2.n, M2.n, M2.n, M2.n, M2.n, M2.n, M2.n, M2.n, M2.n, M2.n, M2.n, M2.n, M2.n, M2.n, M3.n, M4.n, M4.n, M4.n] 27 M4 M5 ∧
  R F.need_Ask_settled #[x0] M5 fun t65 M6 =>
  NTs [t65] ∧ Q t65 M6
  ) (
  OP (aun .not t36) fun t46 =>
  BR t46 (
  OP (bldL (.bool false) 1 1 [(0, (.bool true))]) fun c_1 =>
  LT (.slice (some ⟨M2.n, 0, none⟩) 1 1) (M2.push (some (.inl (c_1, Ty.bool, true)))) fun t60_1 M7 =>
  OP2 (appV 1 Ty.bool t41 t60_1 M7) fun t61_1 M8 =>
  TDx [0, 0, 2, 6, 14, 0, 32, 96, 224, 480, 992, 2016, 4064, 4064, 12256, 28640, 61408, 4064, 258016, 520160, 1048544, 2097120, 4194272, 8388576, 16777214, 33554431, 67108863, 134217727] [M2.n, M2.n, M2.n, M2.n, M2.n, M2.n, M2.n, M2.n, M2.n, M2.n, M2.n, M2.n, M2.n, M2.n, M2.n, M2.n, M2.n, M2.n, M2.n, M2.n, M2.n, M2.n, M2.n, M2.n, M7.n] 24 M7 M8 ∧
  OP (nilc x0) fun t62_1 =>
  OP (fad 9 t62_1) fun t63_1 =>
  OP (st 1 t63_1 t61_1 M8) fun M9 =>
  TDx [0, 0, 2, 6, 14, 0, 32, 96, 224, 480, 992, 2016, 4064, 4064, 12256, 28640, 61408, 4064, 258016, 520160, 1048544, 2097120, 4194272, 8388576, 16777214, 33554431, 67108863, 134217727] [M2.n, M2.n, M2.n, M2.n, M2.n, M2.n, M2.n, M2.n, M2.n, M2.n, M2.n, M2.n, M2.n, M2.n, M2.n, M2.n, M2.n, M2.n, M2.n, M2.n, M2.n, M2.n, M2.n, M2.n, M7.n, M8.n, M8.n, M8.n] 27 M8 M9 ∧
  R F.need_Ask_settled #[x0] M9 fun t65_1 M10 =>
  NTs [t65_1] ∧ Q t65_1 M10
  ) (
  OP (nilc x0) fun t51 =>
  OP (fad 7 t51) fun t52 =>
  OP (ld 1 false t52 M2) fun t53 =>
  OP (ixA 1 t53 t16) fun t55 =>
  OP (ld 1 false t55 M2) fun t56 =>
  R F.bytes_Equal #[t34, t56] M2 fun t57 M11 =>
  TDj [5, 6, 7, 8, 9, 10, 11, 12, 13, 14, 15, 16, 17, 18, 19] [M2.n, M2.n, M2.n, M2.n, M2.n, M2.n, M2.n, M2.n, M2.n, M2.n, M2.n, M2.n, M2.n, M2.n, M2.n, M2.n, M2.n, M2.n, M2.n, M2.n, M2.n] M2 M11 ∧
  OP (aun .not t57) fun t58 =>
  OP (bldL (.bool false) 1 1 [(0, t58)]) fun c_2 =>
  LT (.slice (some ⟨M11.n, 0, none⟩) 1 1) (M11.push (some (.inl (c_2, Ty.bool, true)))) fun t60_2 M12 =>
  OP2 (appV 1 Ty.bool t41 t60_2 M12) fun t61_2 M13 =>
  TDx [0, 0, 2, 6, 14, 0, 32, 96, 224, 480, 992, 2016, 4064, 4064, 12256, 28640, 61408, 4064, 258016, 520160, 1048544, 2097120, 4194272, 8388576, 16777214, 33554431, 67108863, 134217727] [M2.n, M2.n, M2.n, M2.n, M2.n, M2.n, M2.n, M2.n, M2.n, M2.n, M2.n, M2.n, M2.n, M2.n, M2.n, M2.n, M2.n, M2.n, M2.n, M2.n, M2.n, M11.n, M11.n, M11.n, M12.n] 24 M12 M13 ∧
  OP (nilc x0) fun t62_2 =>
  OP (fad 9 t62_2) fun t63_2 =>
  OP (st 1 t63_2 t61_2 M13) fun M14 =>
  TDx [0, 0, 2, 6, 14, 0, 32, 96, 224, 480, 992, 2016, 4064, 4064, 12256, 28640, 61408, 4064, 258016, 520160, 1048544, 2097120, 4194272, 8388576, 16777214, 33554431, 67108863, 134217727] [M2.n, M2.n, M2.n, M2.n, M2.n, M2.n, M2.n, M2.n, M2.n, M2.n, M2.n, M2.n, M2.n, M2.n, M2.n, M2.n, M2.n, M2.n, M2.n, M2.n, M2.n, M11.n, M11.n, M11.n, M12.n, M13.n, M13.n, M13.n] 27 M13 M14 ∧
  R F.need_Ask_settled #[x0] M14 fun t65_2 M15 =>
  NTs [t65_2] ∧ Q t65_2 M15
  )
  )
theorem T_need_Ask_output {x0 x1 : Value} {M : Store} {Q : Value → Store → Prop} (h : S_need_Ask_output x0 x1 M Q) : R F.need_Ask_output #[x0, x1] M Q := by
  refine runs_of (c := bodyOf Try.f99) Try.func99 rfl (by kernel_rfl) (by kernel_rfl) ?_
  unfold At
  exact rule (B := 1000) (N := 66) (ct := .no)
    [⟨1, fun a M => kfin Try.prog Try.f99.results.toList Q 1 a M, fun a M => kfin Try.prog Try.f99.results.toList Q 1 a M⟩]
    [] [1] (by kernel_rfl) (by kernel_rfl) (by kernel_rfl) (by kernel_rfl) (by kernel_rfl)
    ⟨fun _ _ _ h => h,
    trivial⟩
    (cast (by kernel_rfl) h)
def S_need_Ask_tells (x0 : Value) (M : Store) (Q : Value → Store → Prop) : Prop :=
  OP (nilc x0) fun t4 =>
  OP (fad 10 t4) fun t5 =>
  OP (ld 1 false t5 M) fun t6 =>
  BR t6 (
  OP (nilc x0) fun t9 =>
  OP (fad 11 t9) fun t10 =>
  OP (ld 1 false t10 M) fun t11 =>
  OP (binI .eql t11 (.int .i64 1)) fun t12 =>
  BR3 t12 (
  NTs [(.bool true)] ∧ Q (.bool true) M
  ) (
  OP (nilc x0) fun t15 =>
  OP (fad 11 t15) fun t16 =>
  OP (ld 1 false t16 M) fun t17 =>
  OP (binI .eql t17 (.int .i64 2)) fun t18 =>
  NTs [t18] ∧ Q t18 M
  ) (
  BR t12 (
  NTs [(.bool true)] ∧ Q (.bool true) M
  ) (
  NTs [undef] ∧ Q undef M
  )
  )
  ) (
  NTs [(.bool false)] ∧ Q (.bool false) M
  )
theorem T_need_Ask_tells {x0 : Value} {M : Store} {Q : Value → Store → Prop} (h : S_need_Ask_tells x0 M Q) : R F.need_Ask_tells #[x0] M Q := by
  refine runs_of (c := bodyOf Try.f100) Try.func100 rfl (by kernel_rfl) (by kernel_rfl) ?_
  unfold At
  exact rule (B := 1000) (N := 21) (ct := .no)
    [⟨1, fun a M => kfin Try.prog Try.f100.results.toList Q 1 a M, fun a M => kfin Try.prog Try.f100.results.toList Q 1 a M⟩]
    [] [1] (by kernel_rfl) (by kernel_rfl) (by kernel_rfl) (by kernel_rfl) (by kernel_rfl)
    ⟨fun _ _ _ h => h,
    trivial⟩
    (cast (by kernel_rfl) h)
def P_need_still_1 (x3 x6 x7 x8 : Value) (M : Store) (Q : Value → Store → Prop) : Prop :=
  ∀ f : Nat → Value, f 3 = x3 → f 6 = x6 → f 7 = x7 → f 8 = x8 → At Try.prog Ex none Try.f101 [1, 1, 0, 1, 0] ⟨⟨20, f⟩, []⟩ M Q
def P_need_still_2 (x3 : Value) (M : Store) (Q : Value → Store → Prop) : Prop :=
  ∀ f : Nat → Value, f 3 = x3 → At Try.prog Ex none Try.f101 [1, 1, 1] ⟨⟨20, f⟩, []⟩ M Q
def S_need_still (x0 : Value) (M : Store) (Q : Value → Store → Prop) : Prop :=
  OP (lenV x0) fun t7 =>
  P_need_still_1 (.slice none 0 0) x0 t7 (.int .i64 0) M Q
theorem T_need_still {x0 : Value} {M : Store} {Q : Value → Store → Prop} (h : S_need_still x0 M Q) : R F.need_still #[x0] M Q := by
  refine runs_of (c := bodyOf Try.f101) Try.func101 rfl (by kernel_rfl) (by kernel_rfl) ?_
  unfold At
  exact rule (B := 1000) (N := 20) (ct := (.two .no (.two .no (.two (.two .no (.two (.here 1000) .no)) (.here 1001)))))
    [⟨1002, fun a M => dfr a.defers (P_need_still_1 (a.get 3) (a.get 6) (a.get 7) (a.get 8) M Q), fun a M => At Try.prog Ex none Try.f101 [1, 1, 0, 1, 0] a M Q⟩,
    ⟨1003, fun _ _ => False, fun a M => At Try.prog Ex none Try.f101 [1, 1, 1] a M Q⟩]
    [1000, 1001] [] (by kernel_rfl) (by kernel_rfl) (by kernel_rfl) (by kernel_rfl) (by kernel_rfl)
    ⟨fun a M hn h => by obtain ⟨⟨n, f⟩, ds⟩ := a; have hn : n = 20 := hn; subst hn; obtain ⟨hd, h⟩ := dfr_iff h; have hd : ds = [] := hd; subst hd; exact h f rfl rfl rfl rfl,
    fun _ _ _ h => h.elim,
    trivial⟩
    (cast (by kernel_rfl) h)
def S_need_still_1 (x3 x6 x7 x8 : Value) (M : Store) (Q : Value → Store → Prop) : Prop :=
  OP (binI .lss x8 x7) fun t9 =>
  BR t9 (
  OP (ixA 1 x6 x8) fun t10 =>
  OP (ld 1 false t10 M) fun t11 =>
  R F.slices_Clone_sl_byte_byte #[t11] M fun t14 M1 =>
  OP (bldL (.slice none 0 0) 1 1 [(0, t14)]) fun c =>
  LT (.slice (some ⟨M1.n, 0, none⟩) 1 1) (M1.push (some (.inl (c, Ty.sl_uint8, true)))) fun t15 M2 =>
  OP2 (appV 1 Ty.sl_uint8 x3 t15 M2) fun t16 M3 =>
  OP (binI .add x8 (.int .i64 1)) fun t17 =>
  P_need_still_1 t16 x6 x7 t17 M3 Q
  ) (
  P_need_still_2 x3 M Q
  )
theorem T_need_still_1 {x3 x6 x7 x8 : Value} {M : Store} {Q : Value → Store → Prop} (h : S_need_still_1 x3 x6 x7 x8 M Q) : P_need_still_1 x3 x6 x7 x8 M Q := by
  intro f h3 h6 h7 h8; subst h3; subst h6; subst h7; subst h8
  unfold At
  refine cast (by kernel_rfl) (CW.loop (P := Try.prog) (E := Ex) (rd := none) (x := sub (bodyOf Try.f101) [1, 1, 0, 1, 0, 0]) (a := ⟨⟨20, f⟩, []⟩) (M := M) (K := kcont Try.prog Ex none (bodyOf Try.f101) [1, 1, 0, 1, 0] (kfin Try.prog Try.f101.results.toList Q)) ?_)
  exact rule (B := 1000) (N := 20) (ct := .no)
    [⟨0, fun a M => dfr a.defers (P_need_still_1 (a.get 3) (a.get 6) (a.get 7) (a.get 8) M Q), fun a M => At Try.prog Ex none Try.f101 [1, 1, 0, 1, 0] a M Q⟩,
    ⟨2, fun a M => dfr a.defers (P_need_still_2 (a.get 3) M Q), fun a M => At Try.prog Ex none Try.f101 [1, 1, 1] a M Q⟩]
    [] [0, 2] (by kernel_rfl) (by kernel_rfl) (by kernel_rfl) (by kernel_rfl) (by kernel_rfl)
    ⟨fun a M hn h => by obtain ⟨⟨n, f⟩, ds⟩ := a; have hn : n = 20 := hn; subst hn; obtain ⟨hd, h⟩ := dfr_iff h; have hd : ds = [] := hd; subst hd; exact h f rfl rfl rfl rfl,
    fun a M hn h => by obtain ⟨⟨n, f⟩, ds⟩ := a; have hn : n = 20 := hn; subst hn; obtain ⟨hd, h⟩ := dfr_iff h; have hd : ds = [] := hd; subst hd; exact h f rfl,
    trivial⟩
    (cast (by kernel_rfl) h)
def S_need_still_2 (x3 : Value) (M : Store) (Q : Value → Store → Prop) : Prop :=
  R F.slices_Clip_sl_sl_byte_sl_byte #[x3] M fun t19 M1 =>
  NTs [t19] ∧ Q t19 M1
theorem T_need_still_2 {x3 : Value} {M : Store} {Q : Value → Store → Prop} (h : S_need_still_2 x3 M Q) : P_need_still_2 x3 M Q := by
  intro f h3; subst h3
  unfold At
  exact rule (B := 1000) (N := 20) (ct := .no)
    [⟨1, fun a M => kfin Try.prog Try.f101.results.toList Q 1 a M, fun a M => kfin Try.prog Try.f101.results.toList Q 1 a M⟩]
    [] [1] (by kernel_rfl) (by kernel_rfl) (by kernel_rfl) (by kernel_rfl) (by kernel_rfl)
    ⟨fun _ _ _ h => h,
    trivial⟩
    (cast (by kernel_rfl) h)
def S_slices_Clone_sl_bool_bool (x0 : Value) (M : Store) (Q : Value → Store → Prop) : Prop :=
  OP (abin Try.prog true .eql Ty.sl_bool x0 (.slice none 0 0)) fun t4 =>
  BR t4 (
  NTs [(.slice none 0 0)] ∧ Q (.slice none 0 0) M
  ) (
  OP (bldL (.bool false) 1 0 []) fun c =>
  LT (.slice (some ⟨M.n, 0, none⟩) 0 0) (M.push (some (.inl (c, Ty.bool, true)))) fun t5 M1 =>
  OP2 (appV 1 Ty.bool t5 x0 M1) fun t7 M2 =>
  NTs [t7] ∧ Q t7 M2
  )
theorem T_slices_Clone_sl_bool_bool {x0 : Value} {M : Store} {Q : Value → Store → Prop} (h : S_slices_Clone_sl_bool_bool x0 M Q) : R F.slices_Clone_sl_bool_bool #[x0] M Q := by
  refine runs_of (c := bodyOf Try.f102) Try.func102 rfl (by kernel_rfl) (by kernel_rfl) ?_
  unfold At
  exact rule (B := 1000) (N := 8) (ct := .no)
    [⟨1, fun a M => kfin Try.prog Try.f102.results.toList Q 1 a M, fun a M => kfin Try.prog Try.f102.results.toList Q 1 a M⟩]
    [] [1] (by kernel_rfl) (by kernel_rfl) (by kernel_rfl) (by kernel_rfl) (by kernel_rfl)
    ⟨fun _ _ _ h => h,
    trivial⟩
    (cast (by kernel_rfl) h)
def S_slices_Clone_sl_api_Do_api_Do (x0 : Value) (M : Store) (Q : Value → Store → Prop) : Prop :=
  OP (abin Try.prog true .eql Ty.sl_api_Do x0 (.slice none 0 0)) fun t4 =>
  BR t4 (
  NTs [(.slice none 0 0)] ∧ Q (.slice none 0 0) M
  ) (
  OP (bldL (.agg #[(.int .i64 0), (.int .i64 0), (.string ⟨#[]⟩)]) 3 0 []) fun c =>
  LT (.slice (some ⟨M.n, 0, none⟩) 0 0) (M.push (some (.inl (c, Ty.api_Do, true)))) fun t5 M1 =>
  OP2 (appV 3 Ty.api_Do t5 x0 M1) fun t7 M2 =>
  NTs [t7] ∧ Q t7 M2
  )
theorem T_slices_Clone_sl_api_Do_api_Do {x0 : Value} {M : Store} {Q : Value → Store → Prop} (h : S_slices_Clone_sl_api_Do_api_Do x0 M Q) : R F.slices_Clone_sl_api_Do_api_Do #[x0] M Q := by
  refine runs_of (c := bodyOf Try.f114) Try.func114 rfl (by kernel_rfl) (by kernel_rfl) ?_
  unfold At
  exact rule (B := 1000) (N := 8) (ct := .no)
    [⟨1, fun a M => kfin Try.prog Try.f114.results.toList Q 1 a M, fun a M => kfin Try.prog Try.f114.results.toList Q 1 a M⟩]
    [] [1] (by kernel_rfl) (by kernel_rfl) (by kernel_rfl) (by kernel_rfl) (by kernel_rfl)
    ⟨fun _ _ _ h => h,
    trivial⟩
    (cast (by kernel_rfl) h)
def S_need_Ask_settled (x0 : Value) (M : Store) (Q : Value → Store → Prop) : Prop :=
  OP (nilc x0) fun t5 =>
  OP (fad 9 t5) fun t6 =>
  OP (ld 1 false t6 M) fun t7 =>
  OP (lenV t7) fun t8 =>
  OP (nilc x0) fun t10 =>
  OP (fad 0 t10) fun t11 =>
  OP (fad 0 t11) fun t12 =>
  OP (ld 1 false t12 M) fun t13 =>
  OP (lenV t13) fun t14 =>
  OP (binI .lss t8 t14) fun t15 =>
  BR t15 (
  NTs [(.int .i64 0)] ∧ Q (.int .i64 0) M
  ) (
  OP (nilc x0) fun t18 =>
  OP (fad 9 t18) fun t19 =>
  OP (ld 1 false t19 M) fun t20 =>
  R F.slices_Contains_sl_bool_bool #[t20, (.bool true)] M fun t21 M1 =>
  BR t21 (
  R F.need_Ask_end #[x0, (.int .i64 2)] M1 fun t23 M2 =>
  NTs [t23] ∧ Q t23 M2
  ) (
  R F.need_Ask_end #[x0, (.int .i64 1)] M1 fun t25 M3 =>
  NTs [t25] ∧ Q t25 M3
  )
  )
theorem T_need_Ask_settled {x0 : Value} {M : Store} {Q : Value → Store → Prop} (h : S_need_Ask_settled x0 M Q) : R F.need_Ask_settled #[x0] M Q := by
  refine runs_of (c := bodyOf Try.f115) Try.func115 rfl (by kernel_rfl) (by kernel_rfl) ?_
  unfold At
  exact rule (B := 1000) (N := 26) (ct := .no)
    [⟨1, fun a M => kfin Try.prog Try.f115.results.toList Q 1 a M, fun a M => kfin Try.prog Try.f115.results.toList Q 1 a M⟩]
    [] [1] (by kernel_rfl) (by kernel_rfl) (by kernel_rfl) (by kernel_rfl) (by kernel_rfl)
    ⟨fun _ _ _ h => h,
    trivial⟩
    (cast (by kernel_rfl) h)
def S_slices_Contains_sl_bool_bool (x0 x1 : Value) (M : Store) (Q : Value → Store → Prop) : Prop :=
  R F.slices_Index_sl_bool_bool #[x0, x1] M fun t7 M1 =>
  OP (binI .geq t7 (.int .i64 0)) fun t8 =>
  NTs [t8] ∧ Q t8 M1
theorem T_slices_Contains_sl_bool_bool {x0 x1 : Value} {M : Store} {Q : Value → Store → Prop} (h : S_slices_Contains_sl_bool_bool x0 x1 M Q) : R F.slices_Contains_sl_bool_bool #[x0, x1] M Q := by
  refine runs_of (c := bodyOf Try.f127) Try.func127 rfl (by kernel_rfl) (by kernel_rfl) ?_
  unfold At
  exact rule (B := 1000) (N := 9) (ct := .no)
    [⟨1, fun a M => kfin Try.prog Try.f127.results.toList Q 1 a M, fun a M => kfin Try.prog Try.f127.results.toList Q 1 a M⟩]
    [] [1] (by kernel_rfl) (by kernel_rfl) (by kernel_rfl) (by kernel_rfl) (by kernel_rfl)
    ⟨fun _ _ _ h => h,
    trivial⟩
    (cast (by kernel_rfl) h)
def P_slices_Index_sl_bool_bool_1 (x0 x1 x7 x8 : Value) (M : Store) (Q : Value → Store → Prop) : Prop :=
  ∀ f : Nat → Value, f 0 = x0 → f 1 = x1 → f 7 = x7 → f 8 = x8 → At Try.prog Ex none Try.f136 [1, 0, 1, 0] ⟨⟨19, f⟩, []⟩ M Q
def P_slices_Index_sl_bool_bool_2 (M : Store) (Q : Value → Store → Prop) : Prop :=
  ∀ f : Nat → Value, At Try.prog Ex none Try.f136 [1, 1] ⟨⟨19, f⟩, []⟩ M Q
def S_slices_Index_sl_bool_bool (x0 x1 : Value) (M : Store) (Q : Value → Store → Prop) : Prop :=
  OP (lenV x0) fun t7 =>
  P_slices_Index_sl_bool_bool_1 x0 x1 t7 (.int .i64 0) M Q
theorem T_slices_Index_sl_bool_bool {x0 x1 : Value} {M : Store} {Q : Value → Store → Prop} (h : S_slices_Index_sl_bool_bool x0 x1 M Q) : R F.slices_Index_sl_bool_bool #[x0, x1] M Q := by
  refine runs_of (c := bodyOf Try.f136) Try.func136 rfl (by kernel_rfl) (by kernel_rfl) ?_
  unfold At
  exact rule (B := 1000) (N := 19) (ct := (.two .no (.two (.two .no (.two (.here 1000) .no)) (.here 1001))))
    [⟨1002, fun a M => dfr a.defers (P_slices_Index_sl_bool_bool_1 (a.get 0) (a.get 1) (a.get 7) (a.get 8) M Q), fun a M => At Try.prog Ex none Try.f136 [1, 0, 1, 0] a M Q⟩,
    ⟨1003, fun _ _ => False, fun a M => At Try.prog Ex none Try.f136 [1, 1] a M Q⟩]
    [1000, 1001] [] (by kernel_rfl) (by kernel_rfl) (by kernel_rfl) (by kernel_rfl) (by kernel_rfl)
    ⟨fun a M hn h => by obtain ⟨⟨n, f⟩, ds⟩ := a; have hn : n = 19 := hn; subst hn; obtain ⟨hd, h⟩ := dfr_iff h; have hd : ds = [] := hd; subst hd; exact h f rfl rfl rfl rfl,
    fun _ _ _ h => h.elim,
    trivial⟩
    (cast (by kernel_rfl) h)
def S_slices_Index_sl_bool_bool_1 (x0 x1 x7 x8 : Value) (M : Store) (Q : Value → Store → Prop) : Prop :=
  OP (binI .lss x8 x7) fun t9 =>
  BR t9 (
  OP (ixA 1 x0 x8) fun t14 =>
  OP (ld 1 false t14 M) fun t15 =>
  OP (abin Try.prog false .eql Ty.bool x1 t15) fun t16 =>
  BR t16 (
  NTs [x8] ∧ Q x8 M
  ) (
  OP (binI .add x8 (.int .i64 1)) fun t18 =>
  P_slices_Index_sl_bool_bool_1 x0 x1 x7 t18 M Q
  )
  ) (
  P_slices_Index_sl_bool_bool_2 M Q
  )
theorem T_slices_Index_sl_bool_bool_1 {x0 x1 x7 x8 : Value} {M : Store} {Q : Value → Store → Prop} (h : S_slices_Index_sl_bool_bool_1 x0 x1 x7 x8 M Q) : P_slices_Index_sl_bool_bool_1 x0 x1 x7 x8 M Q := by
  intro f h0 h1 h7 h8; subst h0; subst h1; subst h7; subst h8
  unfold At
  refine cast (by kernel_rfl) (CW.loop (P := Try.prog) (E := Ex) (rd := none) (x := sub (bodyOf Try.f136) [1, 0, 1, 0, 0]) (a := ⟨⟨19, f⟩, []⟩) (M := M) (K := kcont Try.prog Ex none (bodyOf Try.f136) [1, 0, 1, 0] (kfin Try.prog Try.f136.results.toList Q)) ?_)
  exact rule (B := 1000) (N := 19) (ct := .no)
    [⟨0, fun a M => dfr a.defers (P_slices_Index_sl_bool_bool_1 (a.get 0) (a.get 1) (a.get 7) (a.get 8) M Q), fun a M => At Try.prog Ex none Try.f136 [1, 0, 1, 0] a M Q⟩,
    ⟨1, fun a M => kfin Try.prog Try.f136.results.toList Q 1 a M, fun a M => kfin Try.prog Try.f136.results.toList Q 1 a M⟩,
    ⟨2, fun a M => dfr a.defers (P_slices_Index_sl_bool_bool_2 M Q), fun a M => At Try.prog Ex none Try.f136 [1, 1] a M Q⟩]
    [] [0, 1, 2] (by kernel_rfl) (by kernel_rfl) (by kernel_rfl) (by kernel_rfl) (by kernel_rfl)
    ⟨fun a M hn h => by obtain ⟨⟨n, f⟩, ds⟩ := a; have hn : n = 19 := hn; subst hn; obtain ⟨hd, h⟩ := dfr_iff h; have hd : ds = [] := hd; subst hd; exact h f rfl rfl rfl rfl,
    fun _ _ _ h => h,
    fun a M hn h => by obtain ⟨⟨n, f⟩, ds⟩ := a; have hn : n = 19 := hn; subst hn; obtain ⟨hd, h⟩ := dfr_iff h; have hd : ds = [] := hd; subst hd; exact h f,
    trivial⟩
    (cast (by kernel_rfl) h)
def S_slices_Index_sl_bool_bool_2 (M : Store) (Q : Value → Store → Prop) : Prop :=
  NTs [(.int .i64 (-1))] ∧ Q (.int .i64 (-1)) M
theorem T_slices_Index_sl_bool_bool_2 {M : Store} {Q : Value → Store → Prop} (h : S_slices_Index_sl_bool_bool_2 M Q) : P_slices_Index_sl_bool_bool_2 M Q := by
  intro f 
  unfold At
  exact rule (B := 1000) (N := 19) (ct := .no)
    [⟨1, fun a M => kfin Try.prog Try.f136.results.toList Q 1 a M, fun a M => kfin Try.prog Try.f136.results.toList Q 1 a M⟩]
    [] [1] (by kernel_rfl) (by kernel_rfl) (by kernel_rfl) (by kernel_rfl) (by kernel_rfl)
    ⟨fun _ _ _ h => h,
    trivial⟩
    (cast (by kernel_rfl) h)
end Go.G
