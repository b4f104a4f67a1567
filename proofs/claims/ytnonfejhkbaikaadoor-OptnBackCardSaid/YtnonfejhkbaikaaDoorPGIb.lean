/-  -/
import Derived.Test.YtnonfejhkbaikaaDoorPGN
open Go.RowKit
namespace Go.G
open Go.Ab Go.Proofs
set_option linter.unusedVariables false
set_option maxRecDepth 100000
def S_fettlelaw21_OptnBack (x0 x1 : Value) (M : Store) (Q : Value → Store → Prop) : Prop :=
  R F.fettlelaw21_OptnBack_c1 #[x0] M fun t14 M1 =>
  R F.fettlelaw21_OptnBack_c1 #[x1] M1 fun t17 M2 =>
  LT (.pointer (some ⟨M2.n, 0, none⟩)) (M2.push (some (.inl ([(.bool false), (.bool false), (.bool false), (.slice none 0 0)], Ty.api_Options, true)))) fun t6 M3 =>
  LT (.pointer (some ⟨M3.n, 0, none⟩)) (M3.push (some (.inl ([(.bool false), (.bool false), (.bool false), (.slice none 0 0)], Ty.api_Options, true)))) fun t7 M4 =>
  OP (st 4 t6 t14 M4) fun M5 =>
  OP (st 4 t7 t17 M5) fun M6 =>
  OP (ld 4 true t6 M6) fun t18 =>
  R F.optn_Print #[t18] M6 fun t19 M7 =>
  TDj [0] [M6.n, M6.n] M6 M7 ∧
  OP (ld 4 true t7 M7) fun t20 =>
  R F.optn_Print #[t20] M7 fun t21 M8 =>
  TDx [0, 1, 0, 7, 15, 31] [M6.n, M6.n, M7.n, M7.n] 3 M7 M8 ∧
  R F.optn_Parse #[t19] M8 fun t24 M9 =>
  OP (tup t24 0) fun t25 =>
  OP (tup t24 1) fun t26 =>
  LT (.pointer (some ⟨M9.n, 0, none⟩)) (M9.push (some (.inl ([(.bool false), (.bool false), (.bool false), (.slice none 0 0)], Ty.api_Options, true)))) fun t10 M10 =>
  OP (st 4 t10 t25 M10) fun M11 =>
  BR t26 (
  OP (ld 4 true t10 M11) fun t29 =>
  OP (ld 4 true t6 M11) fun t30 =>
  R F.fettlelaw21_same #[t29, t30] M11 fun t31 M12 =>
  BR t31 (
  OP (binS .eql t19 t21) fun t36 =>
  OP (ld 4 true t6 M12) fun t37 =>
  OP (ld 4 true t7 M12) fun t38 =>
  R F.fettlelaw21_same #[t37, t38] M12 fun t39 M13 =>
  OP (abin Tryd.prog false .eql Ty.bool t36 t39) fun t40 =>
  BR t40 (
  R F.fettlelaw21_awake #[] M13 fun t43 M14 =>
  NTs [t43] ∧ Q t43 M14
  ) (
  NTs [(.bool false)] ∧ Q (.bool false) M13
  )
  ) (
  NTs [(.bool false)] ∧ Q (.bool false) M12
  )
  ) (
  NTs [(.bool false)] ∧ Q (.bool false) M11
  )
theorem T_fettlelaw21_OptnBack {x0 x1 : Value} {M : Store} {Q : Value → Store → Prop} (h : S_fettlelaw21_OptnBack x0 x1 M Q) : R F.fettlelaw21_OptnBack #[x0, x1] M Q := by
  refine runs_of (c := bodyOf Tryd.f3) Tryd.func3 rfl (by kernel_rfl) (by kernel_rfl) ?_
  unfold At
  exact rule (B := 1000) (N := 45) (ct := .no)
    [⟨1, fun a M => kfin Tryd.prog Tryd.f3.results.toList Q 1 a M, fun a M => kfin Tryd.prog Tryd.f3.results.toList Q 1 a M⟩]
    [] [1] (by kernel_rfl) (by kernel_rfl) (by kernel_rfl) (by kernel_rfl) (by kernel_rfl)
    ⟨fun _ _ _ h => h,
    trivial⟩
    (cast (by kernel_rfl) h)
def P_fettlelaw21_OptnBack_c1_1 (x0 x2 x3 x4 : Value) (M : Store) (Q : Value → Store → Prop) : Prop :=
  ∀ f : Nat → Value, f 0 = x0 → f 2 = x2 → f 3 = x3 → f 4 = x4 → At Tryd.prog Ex none Tryd.f6 [1, 1, 0, 1, 0] ⟨⟨41, f⟩, []⟩ M Q
def P_fettlelaw21_OptnBack_c1_2 (x0 x2 x3 x4 : Value) (M : Store) (Q : Value → Store → Prop) : Prop :=
  ∀ f : Nat → Value, f 0 = x0 → f 2 = x2 → f 3 = x3 → f 4 = x4 → At Tryd.prog Ex none Tryd.f6 [1, 1, 0, 1, 0, 0, 1] ⟨⟨41, f⟩, []⟩ M Q
def P_fettlelaw21_OptnBack_c1_3 (x2 x3 : Value) (M : Store) (Q : Value → Store → Prop) : Prop :=
  ∀ f : Nat → Value, f 2 = x2 → f 3 = x3 → At Tryd.prog Ex none Tryd.f6 [1, 1, 1] ⟨⟨41, f⟩, []⟩ M Q
def S_fettlelaw21_OptnBack_c1 (x0 : Value) (M : Store) (Q : Value → Store → Prop) : Prop :=
  LT (.pointer (some ⟨M.n, 0, none⟩)) (M.push (some (.inl ([(.bool false), (.bool false), (.bool false), (.slice none 0 0)], Ty.api_Options, true)))) fun t2 M1 =>
  OP (binI .and x0 (.int .i64 1)) fun t6 =>
  OP (binI .eql t6 (.int .i64 1)) fun t7 =>
  OP (binI .shr x0 (.int .u64 1)) fun t9 =>
  OP (binI .and t9 (.int .i64 1)) fun t10 =>
  OP (binI .eql t10 (.int .i64 1)) fun t11 =>
  OP (binI .shr x0 (.int .u64 2)) fun t13 =>
  OP (binI .and t13 (.int .i64 1)) fun t14 =>
  OP (binI .eql t14 (.int .i64 1)) fun t15 =>
  OP (bldS #[(.bool false), (.bool false), (.bool false), (.slice none 0 0)] [(0, 1), (1, 1), (2, 1), (3, 1)] [(0, t7), (1, t11), (2, t15)]) fun t16 =>
  LT (.pointer (some ⟨M1.n, 0, none⟩)) (M1.push (some (.inl ([(.bool false), (.bool false), (.bool false), (.slice none 0 0)], Ty.api_Options, true)))) fun t3 M2 =>
  OP (st 4 t3 t16 M2) fun M3 =>
  P_fettlelaw21_OptnBack_c1_1 x0 t2 t3 (.int .i64 0) M3 Q
theorem T_fettlelaw21_OptnBack_c1 {x0 : Value} {M : Store} {Q : Value → Store → Prop} (h : S_fettlelaw21_OptnBack_c1 x0 M Q) : R F.fettlelaw21_OptnBack_c1 #[x0] M Q := by
  refine runs_of (c := bodyOf Tryd.f6) Tryd.func6 rfl (by kernel_rfl) (by kernel_rfl) ?_
  unfold At
  exact rule (B := 1000) (N := 41) (ct := (.two .no (.two .no (.two (.two .no (.two (.here 1000) .no)) (.here 1001)))))
    [⟨1002, fun a M => dfr a.defers (P_fettlelaw21_OptnBack_c1_1 (a.get 0) (a.get 2) (a.get 3) (a.get 4) M Q), fun a M => At Tryd.prog Ex none Tryd.f6 [1, 1, 0, 1, 0] a M Q⟩,
    ⟨1003, fun _ _ => False, fun a M => At Tryd.prog Ex none Tryd.f6 [1, 1, 1] a M Q⟩]
    [1000, 1001] [] (by kernel_rfl) (by kernel_rfl) (by kernel_rfl) (by kernel_rfl) (by kernel_rfl)
    ⟨fun a M hn h => by obtain ⟨⟨n, f⟩, ds⟩ := a; have hn : n = 41 := hn; subst hn; obtain ⟨hd, h⟩ := dfr_iff h; have hd : ds = [] := hd; subst hd; exact h f rfl rfl rfl rfl,
    fun _ _ _ h => h.elim,
    trivial⟩
    (cast (by kernel_rfl) h)
def S_fettlelaw21_OptnBack_c1_1 (x0 x2 x3 x4 : Value) (M : Store) (Q : Value → Store → Prop) : Prop :=
  OP (binI .shr x0 (.int .u64 3)) fun t19 =>
  OP (binI .and t19 (.int .i64 255)) fun t20 =>
  OP (binI .rem t20 (.int .i64 9)) fun t21 =>
  OP (binI .lss x4 t21) fun t22 =>
  BR t22 (
  P_fettlelaw21_OptnBack_c1_2 x0 x2 x3 x4 M Q
  ) (
  P_fettlelaw21_OptnBack_c1_3 x2 x3 M Q
  )
theorem T_fettlelaw21_OptnBack_c1_1 {x0 x2 x3 x4 : Value} {M : Store} {Q : Value → Store → Prop} (h : S_fettlelaw21_OptnBack_c1_1 x0 x2 x3 x4 M Q) : P_fettlelaw21_OptnBack_c1_1 x0 x2 x3 x4 M Q := by
  intro f h0 h2 h3 h4; subst h0; subst h2; subst h3; subst h4
  unfold At
  refine cast (by kernel_rfl) (CW.loop (P := Tryd.prog) (E := Ex) (rd := none) (x := sub (bodyOf Tryd.f6) [1, 1, 0, 1, 0, 0]) (a := ⟨⟨41, f⟩, []⟩) (M := M) (K := kcont Tryd.prog Ex none (bodyOf Tryd.f6) [1, 1, 0, 1, 0] (kfin Tryd.prog Tryd.f6.results.toList Q)) ?_)
  exact rule (B := 1000) (N := 41) (ct := (.two .no (.here 1000)))
    [⟨1002, fun a M => dfr a.defers (P_fettlelaw21_OptnBack_c1_2 (a.get 0) (a.get 2) (a.get 3) (a.get 4) M Q), fun a M => At Tryd.prog Ex none Tryd.f6 [1, 1, 0, 1, 0, 0, 1] a M Q⟩,
    ⟨2, fun a M => dfr a.defers (P_fettlelaw21_OptnBack_c1_3 (a.get 2) (a.get 3) M Q), fun a M => At Tryd.prog Ex none Tryd.f6 [1, 1, 1] a M Q⟩]
    [1000] [2] (by kernel_rfl) (by kernel_rfl) (by kernel_rfl) (by kernel_rfl) (by kernel_rfl)
    ⟨fun a M hn h => by obtain ⟨⟨n, f⟩, ds⟩ := a; have hn : n = 41 := hn; subst hn; obtain ⟨hd, h⟩ := dfr_iff h; have hd : ds = [] := hd; subst hd; exact h f rfl rfl rfl rfl,
    fun a M hn h => by obtain ⟨⟨n, f⟩, ds⟩ := a; have hn : n = 41 := hn; subst hn; obtain ⟨hd, h⟩ := dfr_iff h; have hd : ds = [] := hd; subst hd; exact h f rfl rfl,
    trivial⟩
    (cast (by kernel_rfl) h)
def S_fettlelaw21_OptnBack_c1_2 (x0 x2 x3 x4 : Value) (M : Store) (Q : Value → Store → Prop) : Prop :=
  OP (fad 3 x3) fun t25 =>
  OP (ld 1 false t25 M) fun t26 =>
  OP (bldL (.string ⟨#[]⟩) 1 4 [(0, (.string ⟨#[97]⟩)), (1, (.string ⟨#[98, 46, 111]⟩)), (2, (.string ⟨#[116, 111]⟩)), (3, (.string ⟨#[100, 114, 121]⟩))]) fun c =>
  LT (.slice (some ⟨M.n, 0, none⟩) 4 4) (M.push (some (.inl (c, Ty.string, true)))) fun t27 M1 =>
  OP (binI .mul (.int .i64 2) x4) fun t30 =>
  OP (binI .add (.int .i64 8) t30) fun t31 =>
  OP (cvI .u64 t31) fun t32 =>
  OP (binI .shr x0 t32) fun t33 =>
  OP (binI .and t33 (.int .i64 3)) fun t34 =>
  OP (ixA 1 t27 t34) fun t35 =>
  OP (ld 1 false t35 M1) fun t36 =>
  OP (bldL (.string ⟨#[]⟩) 1 1 [(0, t36)]) fun c_1 =>
  LT (.slice (some ⟨M1.n, 0, none⟩) 1 1) (M1.push (some (.inl (c_1, Ty.string, true)))) fun t37 M2 =>
  OP2 (appV 1 Ty.string t26 t37 M2) fun t38 M3 =>
  TDx [0, 1, 0, 0, 0, 16, 48, 112, 248, 504, 1020, 2044, 4092, 8191, 16383, 32767] [M.n, M.n, M.n, M1.n, M1.n, M1.n, M1.n, M1.n, M1.n, M1.n, M1.n, M1.n, M1.n, M2.n] 13 M2 M3 ∧
  OP (fad 3 x3) fun t39 =>
  OP (st 1 t39 t38 M3) fun M4 =>
  TDx [0, 1, 0, 0, 0, 16, 48, 112, 248, 504, 1020, 2044, 4092, 8191, 16383, 32767] [M.n, M.n, M.n, M1.n, M1.n, M1.n, M1.n, M1.n, M1.n, M1.n, M1.n, M1.n, M1.n, M2.n, M3.n, M3.n] 15 M3 M4 ∧
  OP (binI .add x4 (.int .i64 1)) fun t24 =>
  P_fettlelaw21_OptnBack_c1_1 x0 x2 x3 t24 M4 Q
theorem T_fettlelaw21_OptnBack_c1_2 {x0 x2 x3 x4 : Value} {M : Store} {Q : Value → Store → Prop} (h : S_fettlelaw21_OptnBack_c1_2 x0 x2 x3 x4 M Q) : P_fettlelaw21_OptnBack_c1_2 x0 x2 x3 x4 M Q := by
  intro f h0 h2 h3 h4; subst h0; subst h2; subst h3; subst h4
  unfold At
  exact rule (B := 1000) (N := 41) (ct := .no)
    [⟨0, fun a M => dfr a.defers (P_fettlelaw21_OptnBack_c1_1 (a.get 0) (a.get 2) (a.get 3) (a.get 4) M Q), fun a M => At Tryd.prog Ex none Tryd.f6 [1, 1, 0, 1, 0] a M Q⟩]
    [] [0] (by kernel_rfl) (by kernel_rfl) (by kernel_rfl) (by kernel_rfl) (by kernel_rfl)
    ⟨fun a M hn h => by obtain ⟨⟨n, f⟩, ds⟩ := a; have hn : n = 41 := hn; subst hn; obtain ⟨hd, h⟩ := dfr_iff h; have hd : ds = [] := hd; subst hd; exact h f rfl rfl rfl rfl,
    trivial⟩
    (cast (by kernel_rfl) h)
def S_fettlelaw21_OptnBack_c1_3 (x2 x3 : Value) (M : Store) (Q : Value → Store → Prop) : Prop :=
  OP (ld 4 true x3 M) fun t40 =>
  OP (st 4 x2 t40 M) fun M1 =>
  OP (ld 4 true x2 M1) fun r2 =>
  NTs [r2] ∧ Q r2 M1
theorem T_fettlelaw21_OptnBack_c1_3 {x2 x3 : Value} {M : Store} {Q : Value → Store → Prop} (h : S_fettlelaw21_OptnBack_c1_3 x2 x3 M Q) : P_fettlelaw21_OptnBack_c1_3 x2 x3 M Q := by
  intro f h2 h3; subst h2; subst h3
  unfold At
  exact rule (B := 1000) (N := 41) (ct := .no)
    [⟨1, fun a M => kfin Tryd.prog Tryd.f6.results.toList Q 1 a M, fun a M => kfin Tryd.prog Tryd.f6.results.toList Q 1 a M⟩]
    [] [1] (by kernel_rfl) (by kernel_rfl) (by kernel_rfl) (by kernel_rfl) (by kernel_rfl)
    ⟨fun _ _ _ h => h,
    trivial⟩
    (cast (by kernel_rfl) h)
end Go.G
