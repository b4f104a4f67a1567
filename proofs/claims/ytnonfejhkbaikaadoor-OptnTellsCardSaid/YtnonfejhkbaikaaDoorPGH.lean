/-  -/
import Derived.Test.YtnonfejhkbaikaaDoorPGN
open Go.RowKit
namespace Go.G
open Go.Ab Go.Proofs
set_option linter.unusedVariables false
set_option maxRecDepth 100000
def P_optn_Print_1 (x1 x3 : Value) (M : Store) (Q : Value → Store → Prop) : Prop :=
  ∀ f : Nat → Value, f 1 = x1 → f 3 = x3 → At Tryd.prog Ex none Tryd.f7 [1, 1, 1, 1] ⟨⟨40, f⟩, []⟩ M Q
def P_optn_Print_2 (x1 x3 : Value) (M : Store) (Q : Value → Store → Prop) : Prop :=
  ∀ f : Nat → Value, f 1 = x1 → f 3 = x3 → At Tryd.prog Ex none Tryd.f7 [1, 1, 1, 1, 1] ⟨⟨40, f⟩, []⟩ M Q
def P_optn_Print_3 (x1 x3 : Value) (M : Store) (Q : Value → Store → Prop) : Prop :=
  ∀ f : Nat → Value, f 1 = x1 → f 3 = x3 → At Tryd.prog Ex none Tryd.f7 [1, 1, 1, 1, 1, 1] ⟨⟨40, f⟩, []⟩ M Q
def S_optn_Print (x0 : Value) (M : Store) (Q : Value → Store → Prop) : Prop :=
  OP (boxv x0) fun c =>
  LT (.pointer (some ⟨M.n, 0, none⟩)) (M.push (some (.inl (c, Ty.api_Options, true)))) fun t1 M1 =>
  OP (fad 3 t1) fun t4 =>
  OP (ld 1 false t4 M1) fun t5 =>
  OP (lenV t5) fun t6 =>
  OP (binI .gtr t6 (.int .i64 8)) fun t7 =>
  BR t7 (
  NTs [(.string ⟨#[]⟩)] ∧ Q (.string ⟨#[]⟩) M1
  ) (
  OP (fad 3 t1) fun t9 =>
  OP (ld 1 false t9 M1) fun t10 =>
  R F.slices_ContainsFunc_sl_string_string #[t10, (.func (.func F.optn_Print_c1) #[] #[])] M1 fun t11 M2 =>
  BR t11 (
  NTs [(.string ⟨#[]⟩)] ∧ Q (.string ⟨#[]⟩) M2
  ) (
  OP (fad 0 t1) fun t13 =>
  OP (ld 1 false t13 M2) fun t14 =>
  BR t14 (
  OP (bldL (.string ⟨#[]⟩) 1 1 [(0, (.string ⟨#[100, 114, 121]⟩))]) fun c_1 =>
  LT (.slice (some ⟨M2.n, 0, none⟩) 1 1) (M2.push (some (.inl (c_1, Ty.string, true)))) fun t16 M3 =>
  OP2 (appV 1 Ty.string (.slice none 0 0) t16 M3) fun t17 M4 =>
  P_optn_Print_1 t1 t17 M4 Q
  ) (
  P_optn_Print_1 t1 (.slice none 0 0) M2 Q
  )
  )
  )
theorem T_optn_Print {x0 : Value} {M : Store} {Q : Value → Store → Prop} (h : S_optn_Print x0 M Q) : R F.optn_Print #[x0] M Q := by
  refine runs_of (c := bodyOf Tryd.f7) Tryd.func7 rfl (by kernel_rfl) (by kernel_rfl) ?_
  unfold At
  exact rule (B := 1000) (N := 40) (ct := (.two .no (.two .no (.two .no (.two .no (.here 1000))))))
    [⟨1002, fun a M => dfr a.defers (P_optn_Print_1 (a.get 1) (a.get 3) M Q), fun a M => At Tryd.prog Ex none Tryd.f7 [1, 1, 1, 1] a M Q⟩,
    ⟨1, fun a M => kfin Tryd.prog Tryd.f7.results.toList Q 1 a M, fun a M => kfin Tryd.prog Tryd.f7.results.toList Q 1 a M⟩]
    [1000] [1] (by kernel_rfl) (by kernel_rfl) (by kernel_rfl) (by kernel_rfl) (by kernel_rfl)
    ⟨fun a M hn h => by obtain ⟨⟨n, f⟩, ds⟩ := a; have hn : n = 40 := hn; subst hn; obtain ⟨hd, h⟩ := dfr_iff h; have hd : ds = [] := hd; subst hd; exact h f rfl rfl,
    fun _ _ _ h => h,
    trivial⟩
    (cast (by kernel_rfl) h)
def S_optn_Print_1 (x1 x3 : Value) (M : Store) (Q : Value → Store → Prop) : Prop :=
  OP (fad 1 x1) fun t18 =>
  OP (ld 1 false t18 M) fun t19 =>
  BR t19 (
  OP (bldL (.string ⟨#[]⟩) 1 1 [(0, (.string ⟨#[102, 97, 115, 116]⟩))]) fun c =>
  LT (.slice (some ⟨M.n, 0, none⟩) 1 1) (M.push (some (.inl (c, Ty.string, true)))) fun t21 M1 =>
  OP2 (appV 1 Ty.string x3 t21 M1) fun t22 M2 =>
  P_optn_Print_2 x1 t22 M2 Q
  ) (
  P_optn_Print_2 x1 x3 M Q
  )
theorem T_optn_Print_1 {x1 x3 : Value} {M : Store} {Q : Value → Store → Prop} (h : S_optn_Print_1 x1 x3 M Q) : P_optn_Print_1 x1 x3 M Q := by
  intro f h1 h3; subst h1; subst h3
  unfold At
  exact rule (B := 1000) (N := 40) (ct := (.two .no (.here 1000)))
    [⟨1002, fun a M => dfr a.defers (P_optn_Print_2 (a.get 1) (a.get 3) M Q), fun a M => At Tryd.prog Ex none Tryd.f7 [1, 1, 1, 1, 1] a M Q⟩]
    [1000] [] (by kernel_rfl) (by kernel_rfl) (by kernel_rfl) (by kernel_rfl) (by kernel_rfl)
    ⟨fun a M hn h => by obtain ⟨⟨n, f⟩, ds⟩ := a; have hn : n = 40 := hn; subst hn; obtain ⟨hd, h⟩ := dfr_iff h; have hd : ds = [] := hd; subst hd; exact h f rfl rfl,
    trivial⟩
    (cast (by kernel_rfl) h)
def S_optn_Print_2 (x1 x3 : Value) (M : Store) (Q : Value → Store → Prop) : Prop :=
  OP (fad 2 x1) fun t23 =>
  OP (ld 1 false t23 M) fun t24 =>
  BR t24 (
  OP (bldL (.string ⟨#[]⟩) 1 1 [(0, (.string ⟨#[99, 108, 101, 97, 110]⟩))]) fun c =>
  LT (.slice (some ⟨M.n, 0, none⟩) 1 1) (M.push (some (.inl (c, Ty.string, true)))) fun t26 M1 =>
  OP2 (appV 1 Ty.string x3 t26 M1) fun t27 M2 =>
  P_optn_Print_3 x1 t27 M2 Q
  ) (
  P_optn_Print_3 x1 x3 M Q
  )
theorem T_optn_Print_2 {x1 x3 : Value} {M : Store} {Q : Value → Store → Prop} (h : S_optn_Print_2 x1 x3 M Q) : P_optn_Print_2 x1 x3 M Q := by
  intro f h1 h3; subst h1; subst h3
  unfold At
  exact rule (B := 1000) (N := 40) (ct := (.two .no (.here 1000)))
    [⟨1002, fun a M => dfr a.defers (P_optn_Print_3 (a.get 1) (a.get 3) M Q), fun a M => At Tryd.prog Ex none Tryd.f7 [1, 1, 1, 1, 1, 1] a M Q⟩]
    [1000] [] (by kernel_rfl) (by kernel_rfl) (by kernel_rfl) (by kernel_rfl) (by kernel_rfl)
    ⟨fun a M hn h => by obtain ⟨⟨n, f⟩, ds⟩ := a; have hn : n = 40 := hn; subst hn; obtain ⟨hd, h⟩ := dfr_iff h; have hd : ds = [] := hd; subst hd; exact h f rfl rfl,
    trivial⟩
    (cast (by kernel_rfl) h)
def S_optn_Print_3 (x1 x3 : Value) (M : Store) (Q : Value → Store → Prop) : Prop :=
  OP (fad 3 x1) fun t28 =>
  OP (ld 1 false t28 M) fun t29 =>
  OP (lenV t29) fun t30 =>
  OP (binI .gtr t30 (.int .i64 0)) fun t31 =>
  BR t31 (
  OP (bldL (.string ⟨#[]⟩) 1 1 [(0, (.string ⟨#[116, 111]⟩))]) fun c =>
  LT (.slice (some ⟨M.n, 0, none⟩) 1 1) (M.push (some (.inl (c, Ty.string, true)))) fun t33 M1 =>
  OP2 (appV 1 Ty.string x3 t33 M1) fun t34 M2 =>
  TDx [0, 0, 3, 0, 8, 31, 63] [M.n, M.n, M1.n] 2 M1 M2 ∧
  OP (fad 3 x1) fun t35 =>
  OP (ld 1 false t35 M2) fun t36 =>
  Dj (tdiff M1 M2) (idsV t35) ∧
  OP2 (appV 1 Ty.string t34 t36 M2) fun t37 M3 =>
  TDx [0, 0, 3, 0, 8, 31, 63] [M.n, M.n, M1.n, M2.n, M2.n, M2.n] 5 M2 M3 ∧
  R F.strings_Join #[t37, (.string ⟨#[32]⟩)] M3 fun t39 M4 =>
  NTs [t39] ∧ Q t39 M4
  ) (
  R F.strings_Join #[x3, (.string ⟨#[32]⟩)] M fun t39_1 M5 =>
  NTs [t39_1] ∧ Q t39_1 M5
  )
theorem T_optn_Print_3 {x1 x3 : Value} {M : Store} {Q : Value → Store → Prop} (h : S_optn_Print_3 x1 x3 M Q) : P_optn_Print_3 x1 x3 M Q := by
  intro f h1 h3; subst h1; subst h3
  unfold At
  exact rule (B := 1000) (N := 40) (ct := .no)
    [⟨1, fun a M => kfin Tryd.prog Tryd.f7.results.toList Q 1 a M, fun a M => kfin Tryd.prog Tryd.f7.results.toList Q 1 a M⟩]
    [] [1] (by kernel_rfl) (by kernel_rfl) (by kernel_rfl) (by kernel_rfl) (by kernel_rfl)
    ⟨fun _ _ _ h => h,
    trivial⟩
    (cast (by kernel_rfl) h)
def P_optn_Parse_1 (x0 x2 x4 x5 : Value) (M : Store) (Q : Value → Store → Prop) : Prop :=
  ∀ f : Nat → Value, f 0 = x0 → f 2 = x2 → f 4 = x4 → f 5 = x5 → At Tryd.prog Ex none Tryd.f8 [1, 1, 1, 1] ⟨⟨44, f⟩, []⟩ M Q
def P_optn_Parse_2 (x0 x2 x4 x5 x12 x13 x14 : Value) (M : Store) (Q : Value → Store → Prop) : Prop :=
  ∀ f : Nat → Value, f 0 = x0 → f 2 = x2 → f 4 = x4 → f 5 = x5 → f 12 = x12 → f 13 = x13 → f 14 = x14 → At Tryd.prog Ex none Tryd.f8 [1, 1, 1, 1, 0, 1, 0] ⟨⟨44, f⟩, []⟩ M Q
def P_optn_Parse_3 (x0 x2 x4 x5 x12 x13 x14 : Value) (M : Store) (Q : Value → Store → Prop) : Prop :=
  ∀ f : Nat → Value, f 0 = x0 → f 2 = x2 → f 4 = x4 → f 5 = x5 → f 12 = x12 → f 13 = x13 → f 14 = x14 → At Tryd.prog Ex none Tryd.f8 [1, 1, 1, 1, 0, 1, 0, 0, 1, 1] ⟨⟨44, f⟩, []⟩ M Q
def P_optn_Parse_4 (x0 x2 x4 : Value) (M : Store) (Q : Value → Store → Prop) : Prop :=
  ∀ f : Nat → Value, f 0 = x0 → f 2 = x2 → f 4 = x4 → At Tryd.prog Ex none Tryd.f8 [1, 1, 1, 1, 1] ⟨⟨44, f⟩, []⟩ M Q
def P_optn_Parse_5 (x0 x2 x4 x5 x7 x12 x13 x14 : Value) (M : Store) (Q : Value → Store → Prop) : Prop :=
  ∀ f : Nat → Value, f 0 = x0 → f 2 = x2 → f 4 = x4 → f 5 = x5 → f 7 = x7 → f 12 = x12 → f 13 = x13 → f 14 = x14 → At Tryd.prog Ex none Tryd.f8 [1, 1, 1, 1, 0, 1, 0, 0, 1, 1, 0, 0, 1, 1] ⟨⟨44, f⟩, []⟩ M Q
def P_optn_Parse_6 (x0 x2 x4 x5 x12 x13 x14 : Value) (M : Store) (Q : Value → Store → Prop) : Prop :=
  ∀ f : Nat → Value, f 0 = x0 → f 2 = x2 → f 4 = x4 → f 5 = x5 → f 12 = x12 → f 13 = x13 → f 14 = x14 → At Tryd.prog Ex none Tryd.f8 [1, 1, 1, 1, 0, 1, 0, 0, 1, 1, 1] ⟨⟨44, f⟩, []⟩ M Q
def S_optn_Parse (x0 : Value) (M : Store) (Q : Value → Store → Prop) : Prop :=
  LT (.pointer (some ⟨M.n, 0, none⟩)) (M.push (some (.inl ([(.bool false), (.bool false), (.bool false), (.slice none 0 0)], Ty.api_Options, true)))) fun t2 M1 =>
  LT (.pointer (some ⟨M1.n, 0, none⟩)) (M1.push (some (.inl ([(.bool false), (.bool false), (.bool false), (.slice none 0 0)], Ty.api_Options, true)))) fun t4 M2 =>
  R F.strings_Split #[x0, (.string ⟨#[32]⟩)] M2 fun t9 M3 =>
  OP (binS .eql x0 (.string ⟨#[]⟩)) fun t11 =>
  BR t11 (
  P_optn_Parse_1 x0 t2 t4 (.slice none 0 0) M3 Q
  ) (
  P_optn_Parse_1 x0 t2 t4 t9 M3 Q
  )
theorem T_optn_Parse {x0 : Value} {M : Store} {Q : Value → Store → Prop} (h : S_optn_Parse x0 M Q) : R F.optn_Parse #[x0] M Q := by
  refine runs_of (c := bodyOf Tryd.f8) Tryd.func8 rfl (by kernel_rfl) (by kernel_rfl) ?_
  unfold At
  exact rule (B := 1000) (N := 44) (ct := (.two .no (.two .no (.two .no (.two .no (.here 1000))))))
    [⟨1002, fun a M => dfr a.defers (P_optn_Parse_1 (a.get 0) (a.get 2) (a.get 4) (a.get 5) M Q), fun a M => At Tryd.prog Ex none Tryd.f8 [1, 1, 1, 1] a M Q⟩]
    [1000] [] (by kernel_rfl) (by kernel_rfl) (by kernel_rfl) (by kernel_rfl) (by kernel_rfl)
    ⟨fun a M hn h => by obtain ⟨⟨n, f⟩, ds⟩ := a; have hn : n = 44 := hn; subst hn; obtain ⟨hd, h⟩ := dfr_iff h; have hd : ds = [] := hd; subst hd; exact h f rfl rfl rfl rfl,
    trivial⟩
    (cast (by kernel_rfl) h)
def S_optn_Parse_1 (x0 x2 x4 x5 : Value) (M : Store) (Q : Value → Store → Prop) : Prop :=
  OP (lenV x5) fun t13 =>
  P_optn_Parse_2 x0 x2 x4 x5 x5 t13 (.int .i64 0) M Q
theorem T_optn_Parse_1 {x0 x2 x4 x5 : Value} {M : Store} {Q : Value → Store → Prop} (h : S_optn_Parse_1 x0 x2 x4 x5 M Q) : P_optn_Parse_1 x0 x2 x4 x5 M Q := by
  intro f h0 h2 h4 h5; subst h0; subst h2; subst h4; subst h5
  unfold At
  exact rule (B := 1000) (N := 44) (ct := (.two (.two .no (.two (.here 1000) .no)) (.here 1001)))
    [⟨1002, fun a M => dfr a.defers (P_optn_Parse_2 (a.get 0) (a.get 2) (a.get 4) (a.get 5) (a.get 12) (a.get 13) (a.get 14) M Q), fun a M => At Tryd.prog Ex none Tryd.f8 [1, 1, 1, 1, 0, 1, 0] a M Q⟩,
    ⟨1003, fun _ _ => False, fun a M => At Tryd.prog Ex none Tryd.f8 [1, 1, 1, 1, 1] a M Q⟩]
    [1000, 1001] [] (by kernel_rfl) (by kernel_rfl) (by kernel_rfl) (by kernel_rfl) (by kernel_rfl)
    ⟨fun a M hn h => by obtain ⟨⟨n, f⟩, ds⟩ := a; have hn : n = 44 := hn; subst hn; obtain ⟨hd, h⟩ := dfr_iff h; have hd : ds = [] := hd; subst hd; exact h f rfl rfl rfl rfl rfl rfl rfl,
    fun _ _ _ h => h.elim,
    trivial⟩
    (cast (by kernel_rfl) h)
def S_optn_Parse_2 (x0 x2 x4 x5 x12 x13 x14 : Value) (M : Store) (Q : Value → Store → Prop) : Prop :=
  OP (binI .lss x14 x13) fun t15 =>
  BR t15 (
  P_optn_Parse_3 x0 x2 x4 x5 x12 x13 x14 M Q
  ) (
  P_optn_Parse_4 x0 x2 x4 M Q
  )
theorem T_optn_Parse_2 {x0 x2 x4 x5 x12 x13 x14 : Value} {M : Store} {Q : Value → Store → Prop} (h : S_optn_Parse_2 x0 x2 x4 x5 x12 x13 x14 M Q) : P_optn_Parse_2 x0 x2 x4 x5 x12 x13 x14 M Q := by
  intro f h0 h2 h4 h5 h12 h13 h14; subst h0; subst h2; subst h4; subst h5; subst h12; subst h13; subst h14
  unfold At
  refine cast (by kernel_rfl) (CW.loop (P := Tryd.prog) (E := Ex) (rd := none) (x := sub (bodyOf Tryd.f8) [1, 1, 1, 1, 0, 1, 0, 0]) (a := ⟨⟨44, f⟩, []⟩) (M := M) (K := kcont Tryd.prog Ex none (bodyOf Tryd.f8) [1, 1, 1, 1, 0, 1, 0] (kfin Tryd.prog Tryd.f8.results.toList Q)) ?_)
  exact rule (B := 1000) (N := 44) (ct := (.two .no (.two .no (.here 1000))))
    [⟨1002, fun a M => dfr a.defers (P_optn_Parse_3 (a.get 0) (a.get 2) (a.get 4) (a.get 5) (a.get 12) (a.get 13) (a.get 14) M Q), fun a M => At Tryd.prog Ex none Tryd.f8 [1, 1, 1, 1, 0, 1, 0, 0, 1, 1] a M Q⟩,
    ⟨2, fun a M => dfr a.defers (P_optn_Parse_4 (a.get 0) (a.get 2) (a.get 4) M Q), fun a M => At Tryd.prog Ex none Tryd.f8 [1, 1, 1, 1, 1] a M Q⟩]
    [1000] [2] (by kernel_rfl) (by kernel_rfl) (by kernel_rfl) (by kernel_rfl) (by kernel_rfl)
    ⟨fun a M hn h => by obtain ⟨⟨n, f⟩, ds⟩ := a; have hn : n = 44 := hn; subst hn; obtain ⟨hd, h⟩ := dfr_iff h; have hd : ds = [] := hd; subst hd; exact h f rfl rfl rfl rfl rfl rfl rfl,
    fun a M hn h => by obtain ⟨⟨n, f⟩, ds⟩ := a; have hn : n = 44 := hn; subst hn; obtain ⟨hd, h⟩ := dfr_iff h; have hd : ds = [] := hd; subst hd; exact h f rfl rfl rfl,
    trivial⟩
    (cast (by kernel_rfl) h)
def S_optn_Parse_3 (x0 x2 x4 x5 x12 x13 x14 : Value) (M : Store) (Q : Value → Store → Prop) : Prop :=
  OP (ixA 1 x12 x14) fun t17 =>
  OP (ld 1 false t17 M) fun t18 =>
  OP (binS .eql t18 (.string ⟨#[116, 111]⟩)) fun t20 =>
  BR t20 (
  OP (binI .add x14 (.int .i64 1)) fun t23 =>
  OP (slV 1 Ty.string x5 (some t23) none M) fun t24 =>
  R F.slices_Clone_sl_string_string #[t24] M fun t25 M1 =>
  OP (fad 3 x4) fun t26 =>
  OP (st 1 t26 t25 M1) fun M2 =>
  P_optn_Parse_4 x0 x2 x4 M2 Q
  ) (
  P_optn_Parse_5 x0 x2 x4 x5 t18 x12 x13 x14 M Q
  )
theorem T_optn_Parse_3 {x0 x2 x4 x5 x12 x13 x14 : Value} {M : Store} {Q : Value → Store → Prop} (h : S_optn_Parse_3 x0 x2 x4 x5 x12 x13 x14 M Q) : P_optn_Parse_3 x0 x2 x4 x5 x12 x13 x14 M Q := by
  intro f h0 h2 h4 h5 h12 h13 h14; subst h0; subst h2; subst h4; subst h5; subst h12; subst h13; subst h14
  unfold At
  exact rule (B := 1000) (N := 44) (ct := (.two (.two (.two .no (.two .no (.here 1000))) .no) (.here 1001)))
    [⟨1002, fun a M => dfr a.defers (P_optn_Parse_5 (a.get 0) (a.get 2) (a.get 4) (a.get 5) (a.get 7) (a.get 12) (a.get 13) (a.get 14) M Q), fun a M => At Tryd.prog Ex none Tryd.f8 [1, 1, 1, 1, 0, 1, 0, 0, 1, 1, 0, 0, 1, 1] a M Q⟩,
    ⟨1003, fun _ _ => False, fun a M => At Tryd.prog Ex none Tryd.f8 [1, 1, 1, 1, 0, 1, 0, 0, 1, 1, 1] a M Q⟩,
    ⟨2, fun a M => dfr a.defers (P_optn_Parse_4 (a.get 0) (a.get 2) (a.get 4) M Q), fun a M => At Tryd.prog Ex none Tryd.f8 [1, 1, 1, 1, 1] a M Q⟩]
    [1000, 1001] [2] (by kernel_rfl) (by kernel_rfl) (by kernel_rfl) (by kernel_rfl) (by kernel_rfl)
    ⟨fun a M hn h => by obtain ⟨⟨n, f⟩, ds⟩ := a; have hn : n = 44 := hn; subst hn; obtain ⟨hd, h⟩ := dfr_iff h; have hd : ds = [] := hd; subst hd; exact h f rfl rfl rfl rfl rfl rfl rfl rfl,
    fun _ _ _ h => h.elim,
    fun a M hn h => by obtain ⟨⟨n, f⟩, ds⟩ := a; have hn : n = 44 := hn; subst hn; obtain ⟨hd, h⟩ := dfr_iff h; have hd : ds = [] := hd; subst hd; exact h f rfl rfl rfl,
    trivial⟩
    (cast (by kernel_rfl) h)
def S_optn_Parse_4 (x0 x2 x4 : Value) (M : Store) (Q : Value → Store → Prop) : Prop :=
  OP (ld 4 true x4 M) fun t38 =>
  R F.optn_Print #[t38] M fun t39 M1 =>
  OP (binS .neq t39 x0) fun t41 =>
  BR t41 (
  OP (bldS #[(.bool false), (.bool false), (.bool false), (.slice none 0 0)] [(0, 1), (1, 1), (2, 1), (3, 1)] []) fun t42 =>
  OP (st 4 x2 t42 M1) fun M2 =>
  OP (ld 4 true x2 M2) fun r2 =>
  NTs [r2, (.bool false)] ∧ Q (.tuple #[r2, (.bool false)]) M2
  ) (
  OP (ld 4 true x4 M1) fun t43 =>
  OP (st 4 x2 t43 M1) fun M3 =>
  OP (ld 4 true x2 M3) fun r2_1 =>
  NTs [r2_1, (.bool true)] ∧ Q (.tuple #[r2_1, (.bool true)]) M3
  )
theorem T_optn_Parse_4 {x0 x2 x4 : Value} {M : Store} {Q : Value → Store → Prop} (h : S_optn_Parse_4 x0 x2 x4 M Q) : P_optn_Parse_4 x0 x2 x4 M Q := by
  intro f h0 h2 h4; subst h0; subst h2; subst h4
  unfold At
  exact rule (B := 1000) (N := 44) (ct := .no)
    [⟨1, fun a M => kfin Tryd.prog Tryd.f8.results.toList Q 1 a M, fun a M => kfin Tryd.prog Tryd.f8.results.toList Q 1 a M⟩]
    [] [1] (by kernel_rfl) (by kernel_rfl) (by kernel_rfl) (by kernel_rfl) (by kernel_rfl)
    ⟨fun _ _ _ h => h,
    trivial⟩
    (cast (by kernel_rfl) h)
def S_optn_Parse_5 (x0 x2 x4 x5 x7 x12 x13 x14 : Value) (M : Store) (Q : Value → Store → Prop) : Prop :=
  OP (binS .eql x7 (.string ⟨#[100, 114, 121]⟩)) fun t29 =>
  BR t29 (
  OP (fad 0 x4) fun t30 =>
  OP (st 1 t30 (.bool true) M) fun M1 =>
  P_optn_Parse_6 x0 x2 x4 x5 x12 x13 x14 M1 Q
  ) (
  OP (binS .eql x7 (.string ⟨#[102, 97, 115, 116]⟩)) fun t32 =>
  BR t32 (
  OP (fad 1 x4) fun t33 =>
  OP (st 1 t33 (.bool true) M) fun M2 =>
  P_optn_Parse_6 x0 x2 x4 x5 x12 x13 x14 M2 Q
  ) (
  OP (binS .eql x7 (.string ⟨#[99, 108, 101, 97, 110]⟩)) fun t35 =>
  BR t35 (
  OP (fad 2 x4) fun t36 =>
  OP (st 1 t36 (.bool true) M) fun M3 =>
  P_optn_Parse_6 x0 x2 x4 x5 x12 x13 x14 M3 Q
  ) (
  P_optn_Parse_6 x0 x2 x4 x5 x12 x13 x14 M Q
  )
  )
  )
theorem T_optn_Parse_5 {x0 x2 x4 x5 x7 x12 x13 x14 : Value} {M : Store} {Q : Value → Store → Prop} (h : S_optn_Parse_5 x0 x2 x4 x5 x7 x12 x13 x14 M Q) : P_optn_Parse_5 x0 x2 x4 x5 x7 x12 x13 x14 M Q := by
  intro f h0 h2 h4 h5 h7 h12 h13 h14; subst h0; subst h2; subst h4; subst h5; subst h7; subst h12; subst h13; subst h14
  unfold At
  exact rule (B := 1000) (N := 44) (ct := .no)
    [⟨0, fun a M => dfr a.defers (P_optn_Parse_6 (a.get 0) (a.get 2) (a.get 4) (a.get 5) (a.get 12) (a.get 13) (a.get 14) M Q), fun a M => At Tryd.prog Ex none Tryd.f8 [1, 1, 1, 1, 0, 1, 0, 0, 1, 1, 1] a M Q⟩]
    [] [0] (by kernel_rfl) (by kernel_rfl) (by kernel_rfl) (by kernel_rfl) (by kernel_rfl)
    ⟨fun a M hn h => by obtain ⟨⟨n, f⟩, ds⟩ := a; have hn : n = 44 := hn; subst hn; obtain ⟨hd, h⟩ := dfr_iff h; have hd : ds = [] := hd; subst hd; exact h f rfl rfl rfl rfl rfl rfl rfl,
    trivial⟩
    (cast (by kernel_rfl) h)
def S_optn_Parse_6 (x0 x2 x4 x5 x12 x13 x14 : Value) (M : Store) (Q : Value → Store → Prop) : Prop :=
  OP (binI .add x14 (.int .i64 1)) fun t37 =>
  P_optn_Parse_2 x0 x2 x4 x5 x12 x13 t37 M Q
theorem T_optn_Parse_6 {x0 x2 x4 x5 x12 x13 x14 : Value} {M : Store} {Q : Value → Store → Prop} (h : S_optn_Parse_6 x0 x2 x4 x5 x12 x13 x14 M Q) : P_optn_Parse_6 x0 x2 x4 x5 x12 x13 x14 M Q := by
  intro f h0 h2 h4 h5 h12 h13 h14; subst h0; subst h2; subst h4; subst h5; subst h12; subst h13; subst h14
  unfold At
  exact rule (B := 1000) (N := 44) (ct := .no)
    [⟨0, fun a M => dfr a.defers (P_optn_Parse_2 (a.get 0) (a.get 2) (a.get 4) (a.get 5) (a.get 12) (a.get 13) (a.get 14) M Q), fun a M => At Tryd.prog Ex none Tryd.f8 [1, 1, 1, 1, 0, 1, 0] a M Q⟩]
    [] [0] (by kernel_rfl) (by kernel_rfl) (by kernel_rfl) (by kernel_rfl) (by kernel_rfl)
    ⟨fun a M hn h => by obtain ⟨⟨n, f⟩, ds⟩ := a; have hn : n = 44 := hn; subst hn; obtain ⟨hd, h⟩ := dfr_iff h; have hd : ds = [] := hd; subst hd; exact h f rfl rfl rfl rfl rfl rfl rfl,
    trivial⟩
    (cast (by kernel_rfl) h)
def S_fettlelaw21_same (x0 x1 : Value) (M : Store) (Q : Value → Store → Prop) : Prop :=
  OP (boxv x0) fun c =>
  LT (.pointer (some ⟨M.n, 0, none⟩)) (M.push (some (.inl (c, Ty.api_Options, true)))) fun t2 M1 =>
  OP (boxv x1) fun c_1 =>
  LT (.pointer (some ⟨M1.n, 0, none⟩)) (M1.push (some (.inl (c_1, Ty.api_Options, true)))) fun t3 M2 =>
  OP (fad 0 t2) fun t5 =>
  OP (ld 1 false t5 M2) fun t6 =>
  OP (fad 0 t3) fun t7 =>
  OP (ld 1 false t7 M2) fun t8 =>
  OP (abin Tryd.prog false .eql Ty.bool t6 t8) fun t9 =>
  BR t9 (
  OP (fad 1 t2) fun t11 =>
  OP (ld 1 false t11 M2) fun t12 =>
  OP (fad 1 t3) fun t13 =>
  OP (ld 1 false t13 M2) fun t14 =>
  OP (abin Tryd.prog false .eql Ty.bool t12 t14) fun t15 =>
  BR t15 (
  OP (fad 2 t2) fun t18 =>
  OP (ld 1 false t18 M2) fun t19 =>
  OP (fad 2 t3) fun t20 =>
  OP (ld 1 false t20 M2) fun t21 =>
  OP (abin Tryd.prog false .eql Ty.bool t19 t21) fun t22 =>
  BR t22 (
  OP (fad 3 t2) fun t25 =>
  OP (ld 1 false t25 M2) fun t26 =>
  OP (fad 3 t3) fun t27 =>
  OP (ld 1 false t27 M2) fun t28 =>
  R F.fettleref1_SameTexts #[t26, t28] M2 fun t29 M3 =>
  NTs [t29] ∧ Q t29 M3
  ) (
  NTs [(.bool false)] ∧ Q (.bool false) M2
  )
  ) (
  NTs [(.bool false)] ∧ Q (.bool false) M2
  )
  ) (
  NTs [(.bool false)] ∧ Q (.bool false) M2
  )
theorem T_fettlelaw21_same {x0 x1 : Value} {M : Store} {Q : Value → Store → Prop} (h : S_fettlelaw21_same x0 x1 M Q) : R F.fettlelaw21_same #[x0, x1] M Q := by
  refine runs_of (c := bodyOf Tryd.f9) Tryd.func9 rfl (by kernel_rfl) (by kernel_rfl) ?_
  unfold At
  exact rule (B := 1000) (N := 31) (ct := .no)
    [⟨1, fun a M => kfin Tryd.prog Tryd.f9.results.toList Q 1 a M, fun a M => kfin Tryd.prog Tryd.f9.results.toList Q 1 a M⟩]
    [] [1] (by kernel_rfl) (by kernel_rfl) (by kernel_rfl) (by kernel_rfl) (by kernel_rfl)
    ⟨fun _ _ _ h => h,
    trivial⟩
    (cast (by kernel_rfl) h)
def P_fettleref10_Options_1 (x1 x3 : Value) (M : Store) (Q : Value → Store → Prop) : Prop :=
  ∀ f : Nat → Value, f 1 = x1 → f 3 = x3 → At Tryd.prog Ex none Tryd.f11 [1, 1, 1] ⟨⟨55, f⟩, []⟩ M Q
def P_fettleref10_Options_2 (x1 x3 : Value) (M : Store) (Q : Value → Store → Prop) : Prop :=
  ∀ f : Nat → Value, f 1 = x1 → f 3 = x3 → At Tryd.prog Ex none Tryd.f11 [1, 1, 1, 1] ⟨⟨55, f⟩, []⟩ M Q
def P_fettleref10_Options_3 (x1 x3 : Value) (M : Store) (Q : Value → Store → Prop) : Prop :=
  ∀ f : Nat → Value, f 1 = x1 → f 3 = x3 → At Tryd.prog Ex none Tryd.f11 [1, 1, 1, 1, 1] ⟨⟨55, f⟩, []⟩ M Q
def P_fettleref10_Options_4 (x1 x3 : Value) (M : Store) (Q : Value → Store → Prop) : Prop :=
  ∀ f : Nat → Value, f 1 = x1 → f 3 = x3 → At Tryd.prog Ex none Tryd.f11 [1, 1, 1, 1, 1, 1] ⟨⟨55, f⟩, []⟩ M Q
def P_fettleref10_Options_5 (x1 x3 x4 : Value) (M : Store) (Q : Value → Store → Prop) : Prop :=
  ∀ f : Nat → Value, f 1 = x1 → f 3 = x3 → f 4 = x4 → At Tryd.prog Ex none Tryd.f11 [1, 1, 1, 1, 1, 1, 0, 1, 0] ⟨⟨55, f⟩, []⟩ M Q
def P_fettleref10_Options_6 (x1 x3 x4 : Value) (M : Store) (Q : Value → Store → Prop) : Prop :=
  ∀ f : Nat → Value, f 1 = x1 → f 3 = x3 → f 4 = x4 → At Tryd.prog Ex none Tryd.f11 [1, 1, 1, 1, 1, 1, 0, 1, 0, 0, 1] ⟨⟨55, f⟩, []⟩ M Q
def P_fettleref10_Options_7 (x1 x3 : Value) (M : Store) (Q : Value → Store → Prop) : Prop :=
  ∀ f : Nat → Value, f 1 = x1 → f 3 = x3 → At Tryd.prog Ex none Tryd.f11 [1, 1, 1, 1, 1, 1, 1] ⟨⟨55, f⟩, []⟩ M Q
def S_fettleref10_Options (x0 : Value) (M : Store) (Q : Value → Store → Prop) : Prop :=
  OP (boxv x0) fun c =>
  LT (.pointer (some ⟨M.n, 0, none⟩)) (M.push (some (.inl (c, Ty.api_Options, true)))) fun t1 M1 =>
  OP (fad 0 t1) fun t5 =>
  OP (ld 1 false t5 M1) fun t6 =>
  BR t6 (
  OP (binS .add (.string ⟨#[]⟩) (.string ⟨#[32, 100, 114, 121]⟩)) fun t8 =>
  P_fettleref10_Options_1 t1 t8 M1 Q
  ) (
  P_fettleref10_Options_1 t1 (.string ⟨#[]⟩) M1 Q
  )
theorem T_fettleref10_Options {x0 : Value} {M : Store} {Q : Value → Store → Prop} (h : S_fettleref10_Options x0 M Q) : R F.fettleref10_Options #[x0] M Q := by
  refine runs_of (c := bodyOf Tryd.f11) Tryd.func11 rfl (by kernel_rfl) (by kernel_rfl) ?_
  unfold At
  exact rule (B := 1000) (N := 55) (ct := (.two .no (.two .no (.two .no (.here 1000)))))
    [⟨1002, fun a M => dfr a.defers (P_fettleref10_Options_1 (a.get 1) (a.get 3) M Q), fun a M => At Tryd.prog Ex none Tryd.f11 [1, 1, 1] a M Q⟩]
    [1000] [] (by kernel_rfl) (by kernel_rfl) (by kernel_rfl) (by kernel_rfl) (by kernel_rfl)
    ⟨fun a M hn h => by obtain ⟨⟨n, f⟩, ds⟩ := a; have hn : n = 55 := hn; subst hn; obtain ⟨hd, h⟩ := dfr_iff h; have hd : ds = [] := hd; subst hd; exact h f rfl rfl,
    trivial⟩
    (cast (by kernel_rfl) h)
def S_fettleref10_Options_1 (x1 x3 : Value) (M : Store) (Q : Value → Store → Prop) : Prop :=
  OP (fad 1 x1) fun t9 =>
  OP (ld 1 false t9 M) fun t10 =>
  BR t10 (
  OP (binS .add x3 (.string ⟨#[32, 102, 97, 115, 116]⟩)) fun t12 =>
  P_fettleref10_Options_2 x1 t12 M Q
  ) (
  P_fettleref10_Options_2 x1 x3 M Q
  )
theorem T_fettleref10_Options_1 {x1 x3 : Value} {M : Store} {Q : Value → Store → Prop} (h : S_fettleref10_Options_1 x1 x3 M Q) : P_fettleref10_Options_1 x1 x3 M Q := by
  intro f h1 h3; subst h1; subst h3
  unfold At
  exact rule (B := 1000) (N := 55) (ct := (.two .no (.here 1000)))
    [⟨1002, fun a M => dfr a.defers (P_fettleref10_Options_2 (a.get 1) (a.get 3) M Q), fun a M => At Tryd.prog Ex none Tryd.f11 [1, 1, 1, 1] a M Q⟩]
    [1000] [] (by kernel_rfl) (by kernel_rfl) (by kernel_rfl) (by kernel_rfl) (by kernel_rfl)
    ⟨fun a M hn h => by obtain ⟨⟨n, f⟩, ds⟩ := a; have hn : n = 55 := hn; subst hn; obtain ⟨hd, h⟩ := dfr_iff h; have hd : ds = [] := hd; subst hd; exact h f rfl rfl,
    trivial⟩
    (cast (by kernel_rfl) h)
def S_fettleref10_Options_2 (x1 x3 : Value) (M : Store) (Q : Value → Store → Prop) : Prop :=
  OP (fad 2 x1) fun t13 =>
  OP (ld 1 false t13 M) fun t14 =>
  BR t14 (
  OP (binS .add x3 (.string ⟨#[32, 99, 108, 101, 97, 110]⟩)) fun t16 =>
  P_fettleref10_Options_3 x1 t16 M Q
  ) (
  P_fettleref10_Options_3 x1 x3 M Q
  )
theorem T_fettleref10_Options_2 {x1 x3 : Value} {M : Store} {Q : Value → Store → Prop} (h : S_fettleref10_Options_2 x1 x3 M Q) : P_fettleref10_Options_2 x1 x3 M Q := by
  intro f h1 h3; subst h1; subst h3
  unfold At
  exact rule (B := 1000) (N := 55) (ct := (.two .no (.here 1000)))
    [⟨1002, fun a M => dfr a.defers (P_fettleref10_Options_3 (a.get 1) (a.get 3) M Q), fun a M => At Tryd.prog Ex none Tryd.f11 [1, 1, 1, 1, 1] a M Q⟩]
    [1000] [] (by kernel_rfl) (by kernel_rfl) (by kernel_rfl) (by kernel_rfl) (by kernel_rfl)
    ⟨fun a M hn h => by obtain ⟨⟨n, f⟩, ds⟩ := a; have hn : n = 55 := hn; subst hn; obtain ⟨hd, h⟩ := dfr_iff h; have hd : ds = [] := hd; subst hd; exact h f rfl rfl,
    trivial⟩
    (cast (by kernel_rfl) h)
def S_fettleref10_Options_3 (x1 x3 : Value) (M : Store) (Q : Value → Store → Prop) : Prop :=
  OP (fad 3 x1) fun t17 =>
  OP (ld 1 false t17 M) fun t18 =>
  OP (lenV t18) fun t19 =>
  OP (binI .gtr t19 (.int .i64 0)) fun t20 =>
  BR t20 (
  OP (binS .add x3 (.string ⟨#[32, 116, 111]⟩)) fun t22 =>
  P_fettleref10_Options_4 x1 t22 M Q
  ) (
  P_fettleref10_Options_4 x1 x3 M Q
  )
theorem T_fettleref10_Options_3 {x1 x3 : Value} {M : Store} {Q : Value → Store → Prop} (h : S_fettleref10_Options_3 x1 x3 M Q) : P_fettleref10_Options_3 x1 x3 M Q := by
  intro f h1 h3; subst h1; subst h3
  unfold At
  exact rule (B := 1000) (N := 55) (ct := (.two .no (.here 1000)))
    [⟨1002, fun a M => dfr a.defers (P_fettleref10_Options_4 (a.get 1) (a.get 3) M Q), fun a M => At Tryd.prog Ex none Tryd.f11 [1, 1, 1, 1, 1, 1] a M Q⟩]
    [1000] [] (by kernel_rfl) (by kernel_rfl) (by kernel_rfl) (by kernel_rfl) (by kernel_rfl)
    ⟨fun a M hn h => by obtain ⟨⟨n, f⟩, ds⟩ := a; have hn : n = 55 := hn; subst hn; obtain ⟨hd, h⟩ := dfr_iff h; have hd : ds = [] := hd; subst hd; exact h f rfl rfl,
    trivial⟩
    (cast (by kernel_rfl) h)
def S_fettleref10_Options_4 (x1 x3 : Value) (M : Store) (Q : Value → Store → Prop) : Prop :=
  P_fettleref10_Options_5 x1 x3 (.int .i64 0) M Q
theorem T_fettleref10_Options_4 {x1 x3 : Value} {M : Store} {Q : Value → Store → Prop} (h : S_fettleref10_Options_4 x1 x3 M Q) : P_fettleref10_Options_4 x1 x3 M Q := by
  intro f h1 h3; subst h1; subst h3
  unfold At
  exact rule (B := 1000) (N := 55) (ct := (.two (.two .no (.two (.here 1000) .no)) (.here 1001)))
    [⟨1002, fun a M => dfr a.defers (P_fettleref10_Options_5 (a.get 1) (a.get 3) (a.get 4) M Q), fun a M => At Tryd.prog Ex none Tryd.f11 [1, 1, 1, 1, 1, 1, 0, 1, 0] a M Q⟩,
    ⟨1003, fun _ _ => False, fun a M => At Tryd.prog Ex none Tryd.f11 [1, 1, 1, 1, 1, 1, 1] a M Q⟩]
    [1000, 1001] [] (by kernel_rfl) (by kernel_rfl) (by kernel_rfl) (by kernel_rfl) (by kernel_rfl)
    ⟨fun a M hn h => by obtain ⟨⟨n, f⟩, ds⟩ := a; have hn : n = 55 := hn; subst hn; obtain ⟨hd, h⟩ := dfr_iff h; have hd : ds = [] := hd; subst hd; exact h f rfl rfl rfl,
    fun _ _ _ h => h.elim,
    trivial⟩
    (cast (by kernel_rfl) h)
def S_fettleref10_Options_5 (x1 x3 x4 : Value) (M : Store) (Q : Value → Store → Prop) : Prop :=
  OP (fad 3 x1) fun t24 =>
  OP (ld 1 false t24 M) fun t25 =>
  OP (lenV t25) fun t26 =>
  OP (binI .lss x4 t26) fun t27 =>
  BR t27 (
  P_fettleref10_Options_6 x1 x3 x4 M Q
  ) (
  P_fettleref10_Options_7 x1 x3 M Q
  )
theorem T_fettleref10_Options_5 {x1 x3 x4 : Value} {M : Store} {Q : Value → Store → Prop} (h : S_fettleref10_Options_5 x1 x3 x4 M Q) : P_fettleref10_Options_5 x1 x3 x4 M Q := by
  intro f h1 h3 h4; subst h1; subst h3; subst h4
  unfold At
  refine cast (by kernel_rfl) (CW.loop (P := Tryd.prog) (E := Ex) (rd := none) (x := sub (bodyOf Tryd.f11) [1, 1, 1, 1, 1, 1, 0, 1, 0, 0]) (a := ⟨⟨55, f⟩, []⟩) (M := M) (K := kcont Tryd.prog Ex none (bodyOf Tryd.f11) [1, 1, 1, 1, 1, 1, 0, 1, 0] (kfin Tryd.prog Tryd.f11.results.toList Q)) ?_)
  exact rule (B := 1000) (N := 55) (ct := (.two .no (.here 1000)))
    [⟨1002, fun a M => dfr a.defers (P_fettleref10_Options_6 (a.get 1) (a.get 3) (a.get 4) M Q), fun a M => At Tryd.prog Ex none Tryd.f11 [1, 1, 1, 1, 1, 1, 0, 1, 0, 0, 1] a M Q⟩,
    ⟨2, fun a M => dfr a.defers (P_fettleref10_Options_7 (a.get 1) (a.get 3) M Q), fun a M => At Tryd.prog Ex none Tryd.f11 [1, 1, 1, 1, 1, 1, 1] a M Q⟩]
    [1000] [2] (by kernel_rfl) (by kernel_rfl) (by kernel_rfl) (by kernel_rfl) (by kernel_rfl)
    ⟨fun a M hn h => by obtain ⟨⟨n, f⟩, ds⟩ := a; have hn : n = 55 := hn; subst hn; obtain ⟨hd, h⟩ := dfr_iff h; have hd : ds = [] := hd; subst hd; exact h f rfl rfl rfl,
    fun a M hn h => by obtain ⟨⟨n, f⟩, ds⟩ := a; have hn : n = 55 := hn; subst hn; obtain ⟨hd, h⟩ := dfr_iff h; have hd : ds = [] := hd; subst hd; exact h f rfl rfl,
    trivial⟩
    (cast (by kernel_rfl) h)
def S_fettleref10_Options_6 (x1 x3 x4 : Value) (M : Store) (Q : Value → Store → Prop) : Prop :=
  OP (fad 3 x1) fun t30 =>
  OP (ld 1 false t30 M) fun t31 =>
  OP (ixA 1 t31 x4) fun t33 =>
  OP (ld 1 false t33 M) fun t34 =>
  R F.fettleref4_Ok #[t34] M fun t35 M1 =>
  OP (aun .not t35) fun t36 =>
  BR t36 (
  NTs [(.string ⟨#[]⟩)] ∧ Q (.string ⟨#[]⟩) M1
  ) (
  OP (binS .add x3 (.string ⟨#[32]⟩)) fun t38 =>
  OP (fad 3 x1) fun t39 =>
  OP (ld 1 false t39 M1) fun t40 =>
  OP (ixA 1 t40 x4) fun t42 =>
  OP (ld 1 false t42 M1) fun t43 =>
  OP (binS .add t38 t43) fun t44 =>
  OP (binI .add x4 (.int .i64 1)) fun t29 =>
  P_fettleref10_Options_5 x1 t44 t29 M1 Q
  )
theorem T_fettleref10_Options_6 {x1 x3 x4 : Value} {M : Store} {Q : Value → Store → Prop} (h : S_fettleref10_Options_6 x1 x3 x4 M Q) : P_fettleref10_Options_6 x1 x3 x4 M Q := by
  intro f h1 h3 h4; subst h1; subst h3; subst h4
  unfold At
  exact rule (B := 1000) (N := 55) (ct := .no)
    [⟨0, fun a M => dfr a.defers (P_fettleref10_Options_5 (a.get 1) (a.get 3) (a.get 4) M Q), fun a M => At Tryd.prog Ex none Tryd.f11 [1, 1, 1, 1, 1, 1, 0, 1, 0] a M Q⟩,
    ⟨1, fun a M => kfin Tryd.prog Tryd.f11.results.toList Q 1 a M, fun a M => kfin Tryd.prog Tryd.f11.results.toList Q 1 a M⟩]
    [] [0, 1] (by kernel_rfl) (by kernel_rfl) (by kernel_rfl) (by kernel_rfl) (by kernel_rfl)
    ⟨fun a M hn h => by obtain ⟨⟨n, f⟩, ds⟩ := a; have hn : n = 55 := hn; subst hn; obtain ⟨hd, h⟩ := dfr_iff h; have hd : ds = [] := hd; subst hd; exact h f rfl rfl rfl,
    fun _ _ _ h => h,
    trivial⟩
    (cast (by kernel_rfl) h)
def S_fettleref10_Options_7 (x1 x3 : Value) (M : Store) (Q : Value → Store → Prop) : Prop :=
  OP (fad 3 x1) fun t45 =>
  OP (ld 1 false t45 M) fun t46 =>
  OP (lenV t46) fun t47 =>
  OP (binI .gtr t47 (.int .i64 8)) fun t48 =>
  BR t48 (
  NTs [(.string ⟨#[]⟩)] ∧ Q (.string ⟨#[]⟩) M
  ) (
  OP (binS .eql x3 (.string ⟨#[]⟩)) fun t51 =>
  BR t51 (
  NTs [(.string ⟨#[]⟩)] ∧ Q (.string ⟨#[]⟩) M
  ) (
  OP (slS x3 (some (.int .i64 1)) none) fun t54 =>
  NTs [t54] ∧ Q t54 M
  )
  )
theorem T_fettleref10_Options_7 {x1 x3 : Value} {M : Store} {Q : Value → Store → Prop} (h : S_fettleref10_Options_7 x1 x3 M Q) : P_fettleref10_Options_7 x1 x3 M Q := by
  intro f h1 h3; subst h1; subst h3
  unfold At
  exact rule (B := 1000) (N := 55) (ct := .no)
    [⟨1, fun a M => kfin Tryd.prog Tryd.f11.results.toList Q 1 a M, fun a M => kfin Tryd.prog Tryd.f11.results.toList Q 1 a M⟩]
    [] [1] (by kernel_rfl) (by kernel_rfl) (by kernel_rfl) (by kernel_rfl) (by kernel_rfl)
    ⟨fun _ _ _ h => h,
    trivial⟩
    (cast (by kernel_rfl) h)
def S_slices_ContainsFunc_sl_string_string (x0 x1 : Value) (M : Store) (Q : Value → Store → Prop) : Prop :=
  R F.slices_IndexFunc_sl_string_string #[x0, x1] M fun t7 M1 =>
  OP (binI .geq t7 (.int .i64 0)) fun t8 =>
  NTs [t8] ∧ Q t8 M1
theorem T_slices_ContainsFunc_sl_string_string {x0 x1 : Value} {M : Store} {Q : Value → Store → Prop} (h : S_slices_ContainsFunc_sl_string_string x0 x1 M Q) : R F.slices_ContainsFunc_sl_string_string #[x0, x1] M Q := by
  refine runs_of (c := bodyOf Tryd.f19) Tryd.func19 rfl (by kernel_rfl) (by kernel_rfl) ?_
  unfold At
  exact rule (B := 1000) (N := 9) (ct := .no)
    [⟨1, fun a M => kfin Tryd.prog Tryd.f19.results.toList Q 1 a M, fun a M => kfin Tryd.prog Tryd.f19.results.toList Q 1 a M⟩]
    [] [1] (by kernel_rfl) (by kernel_rfl) (by kernel_rfl) (by kernel_rfl) (by kernel_rfl)
    ⟨fun _ _ _ h => h,
    trivial⟩
    (cast (by kernel_rfl) h)
def S_optn_Print_c1 (x0 : Value) (M : Store) (Q : Value → Store → Prop) : Prop :=
  R F.name_Ok #[x0] M fun t4 M1 =>
  OP (aun .not t4) fun t5 =>
  NTs [t5] ∧ Q t5 M1
theorem T_optn_Print_c1 {x0 : Value} {M : Store} {Q : Value → Store → Prop} (h : S_optn_Print_c1 x0 M Q) : R F.optn_Print_c1 #[x0] M Q := by
  refine runs_of (c := bodyOf Tryd.f20) Tryd.func20 rfl (by kernel_rfl) (by kernel_rfl) ?_
  unfold At
  exact rule (B := 1000) (N := 6) (ct := .no)
    [⟨1, fun a M => kfin Tryd.prog Tryd.f20.results.toList Q 1 a M, fun a M => kfin Tryd.prog Tryd.f20.results.toList Q 1 a M⟩]
    [] [1] (by kernel_rfl) (by kernel_rfl) (by kernel_rfl) (by kernel_rfl) (by kernel_rfl)
    ⟨fun _ _ _ h => h,
    trivial⟩
    (cast (by kernel_rfl) h)
def S_slices_Clone_sl_string_string (x0 : Value) (M : Store) (Q : Value → Store → Prop) : Prop :=
  OP (abin Tryd.prog true .eql Ty.sl_string x0 (.slice none 0 0)) fun t4 =>
  BR t4 (
  NTs [(.slice none 0 0)] ∧ Q (.slice none 0 0) M
  ) (
  OP (bldL (.string ⟨#[]⟩) 1 0 []) fun c =>
  LT (.slice (some ⟨M.n, 0, none⟩) 0 0) (M.push (some (.inl (c, Ty.string, true)))) fun t5 M1 =>
  OP2 (appV 1 Ty.string t5 x0 M1) fun t7 M2 =>
  NTs [t7] ∧ Q t7 M2
  )
theorem T_slices_Clone_sl_string_string {x0 : Value} {M : Store} {Q : Value → Store → Prop} (h : S_slices_Clone_sl_string_string x0 M Q) : R F.slices_Clone_sl_string_string #[x0] M Q := by
  refine runs_of (c := bodyOf Tryd.f24) Tryd.func24 rfl (by kernel_rfl) (by kernel_rfl) ?_
  unfold At
  exact rule (B := 1000) (N := 8) (ct := .no)
    [⟨1, fun a M => kfin Tryd.prog Tryd.f24.results.toList Q 1 a M, fun a M => kfin Tryd.prog Tryd.f24.results.toList Q 1 a M⟩]
    [] [1] (by kernel_rfl) (by kernel_rfl) (by kernel_rfl) (by kernel_rfl) (by kernel_rfl)
    ⟨fun _ _ _ h => h,
    trivial⟩
    (cast (by kernel_rfl) h)
def P_fettleref1_SameTexts_1 (x0 x1 x5 : Value) (M : Store) (Q : Value → Store → Prop) : Prop :=
  ∀ f : Nat → Value, f 0 = x0 → f 1 = x1 → f 5 = x5 → At Tryd.prog Ex none Tryd.f25 [1, 1, 0, 1, 0] ⟨⟨26, f⟩, []⟩ M Q
def P_fettleref1_SameTexts_2 (x0 x1 x5 : Value) (M : Store) (Q : Value → Store → Prop) : Prop :=
  ∀ f : Nat → Value, f 0 = x0 → f 1 = x1 → f 5 = x5 → At Tryd.prog Ex none Tryd.f25 [1, 1, 0, 1, 0, 0, 1] ⟨⟨26, f⟩, []⟩ M Q
def P_fettleref1_SameTexts_3 (M : Store) (Q : Value → Store → Prop) : Prop :=
  ∀ f : Nat → Value, At Tryd.prog Ex none Tryd.f25 [1, 1, 1] ⟨⟨26, f⟩, []⟩ M Q
def S_fettleref1_SameTexts (x0 x1 : Value) (M : Store) (Q : Value → Store → Prop) : Prop :=
  OP (lenV x0) fun t7 =>
  OP (lenV x1) fun t9 =>
  OP (binI .neq t7 t9) fun t10 =>
  BR t10 (
  NTs [(.bool false)] ∧ Q (.bool false) M
  ) (
  P_fettleref1_SameTexts_1 x0 x1 (.int .i64 0) M Q
  )
theorem T_fettleref1_SameTexts {x0 x1 : Value} {M : Store} {Q : Value → Store → Prop} (h : S_fettleref1_SameTexts x0 x1 M Q) : R F.fettleref1_SameTexts #[x0, x1] M Q := by
  refine runs_of (c := bodyOf Tryd.f25) Tryd.func25 rfl (by kernel_rfl) (by kernel_rfl) ?_
  unfold At
  exact rule (B := 1000) (N := 26) (ct := (.two .no (.two .no (.two (.two .no (.two (.here 1000) .no)) (.here 1001)))))
    [⟨1002, fun a M => dfr a.defers (P_fettleref1_SameTexts_1 (a.get 0) (a.get 1) (a.get 5) M Q), fun a M => At Tryd.prog Ex none Tryd.f25 [1, 1, 0, 1, 0] a M Q⟩,
    ⟨1003, fun _ _ => False, fun a M => At Tryd.prog Ex none Tryd.f25 [1, 1, 1] a M Q⟩,
    ⟨1, fun a M => kfin Tryd.prog Tryd.f25.results.toList Q 1 a M, fun a M => kfin Tryd.prog Tryd.f25.results.toList Q 1 a M⟩]
    [1000, 1001] [1] (by kernel_rfl) (by kernel_rfl) (by kernel_rfl) (by kernel_rfl) (by kernel_rfl)
    ⟨fun a M hn h => by obtain ⟨⟨n, f⟩, ds⟩ := a; have hn : n = 26 := hn; subst hn; obtain ⟨hd, h⟩ := dfr_iff h; have hd : ds = [] := hd; subst hd; exact h f rfl rfl rfl,
    fun _ _ _ h => h.elim,
    fun _ _ _ h => h,
    trivial⟩
    (cast (by kernel_rfl) h)
def S_fettleref1_SameTexts_1 (x0 x1 x5 : Value) (M : Store) (Q : Value → Store → Prop) : Prop :=
  OP (lenV x0) fun t13 =>
  OP (binI .lss x5 t13) fun t14 =>
  BR t14 (
  P_fettleref1_SameTexts_2 x0 x1 x5 M Q
  ) (
  P_fettleref1_SameTexts_3 M Q
  )
theorem T_fettleref1_SameTexts_1 {x0 x1 x5 : Value} {M : Store} {Q : Value → Store → Prop} (h : S_fettleref1_SameTexts_1 x0 x1 x5 M Q) : P_fettleref1_SameTexts_1 x0 x1 x5 M Q := by
  intro f h0 h1 h5; subst h0; subst h1; subst h5
  unfold At
  refine cast (by kernel_rfl) (CW.loop (P := Tryd.prog) (E := Ex) (rd := none) (x := sub (bodyOf Tryd.f25) [1, 1, 0, 1, 0, 0]) (a := ⟨⟨26, f⟩, []⟩) (M := M) (K := kcont Tryd.prog Ex none (bodyOf Tryd.f25) [1, 1, 0, 1, 0] (kfin Tryd.prog Tryd.f25.results.toList Q)) ?_)
  exact rule (B := 1000) (N := 26) (ct := (.two .no (.here 1000)))
    [⟨1002, fun a M => dfr a.defers (P_fettleref1_SameTexts_2 (a.get 0) (a.get 1) (a.get 5) M Q), fun a M => At Tryd.prog Ex none Tryd.f25 [1, 1, 0, 1, 0, 0, 1] a M Q⟩,
    ⟨2, fun a M => dfr a.defers (P_fettleref1_SameTexts_3 M Q), fun a M => At Tryd.prog Ex none Tryd.f25 [1, 1, 1] a M Q⟩]
    [1000] [2] (by kernel_rfl) (by kernel_rfl) (by kernel_rfl) (by kernel_rfl) (by kernel_rfl)
    ⟨fun a M hn h => by obtain ⟨⟨n, f⟩, ds⟩ := a; have hn : n = 26 := hn; subst hn; obtain ⟨hd, h⟩ := dfr_iff h; have hd : ds = [] := hd; subst hd; exact h f rfl rfl rfl,
    fun a M hn h => by obtain ⟨⟨n, f⟩, ds⟩ := a; have hn : n = 26 := hn; subst hn; obtain ⟨hd, h⟩ := dfr_iff h; have hd : ds = [] := hd; subst hd; exact h f,
    trivial⟩
    (cast (by kernel_rfl) h)
def S_fettleref1_SameTexts_2 (x0 x1 x5 : Value) (M : Store) (Q : Value → Store → Prop) : Prop :=
  OP (ixA 1 x0 x5) fun t19 =>
  OP (ld 1 false t19 M) fun t20 =>
  OP (ixA 1 x1 x5) fun t23 =>
  OP (ld 1 false t23 M) fun t24 =>
  OP (binS .neq t20 t24) fun t25 =>
  BR t25 (
  NTs [(.bool false)] ∧ Q (.bool false) M
  ) (
  OP (binI .add x5 (.int .i64 1)) fun t16 =>
  P_fettleref1_SameTexts_1 x0 x1 t16 M Q
  )
theorem T_fettleref1_SameTexts_2 {x0 x1 x5 : Value} {M : Store} {Q : Value → Store → Prop} (h : S_fettleref1_SameTexts_2 x0 x1 x5 M Q) : P_fettleref1_SameTexts_2 x0 x1 x5 M Q := by
  intro f h0 h1 h5; subst h0; subst h1; subst h5
  unfold At
  exact rule (B := 1000) (N := 26) (ct := .no)
    [⟨0, fun a M => dfr a.defers (P_fettleref1_SameTexts_1 (a.get 0) (a.get 1) (a.get 5) M Q), fun a M => At Tryd.prog Ex none Tryd.f25 [1, 1, 0, 1, 0] a M Q⟩,
    ⟨1, fun a M => kfin Tryd.prog Tryd.f25.results.toList Q 1 a M, fun a M => kfin Tryd.prog Tryd.f25.results.toList Q 1 a M⟩]
    [] [0, 1] (by kernel_rfl) (by kernel_rfl) (by kernel_rfl) (by kernel_rfl) (by kernel_rfl)
    ⟨fun a M hn h => by obtain ⟨⟨n, f⟩, ds⟩ := a; have hn : n = 26 := hn; subst hn; obtain ⟨hd, h⟩ := dfr_iff h; have hd : ds = [] := hd; subst hd; exact h f rfl rfl rfl,
    fun _ _ _ h => h,
    trivial⟩
    (cast (by kernel_rfl) h)
def S_fettleref1_SameTexts_3 (M : Store) (Q : Value → Store → Prop) : Prop :=
  NTs [(.bool true)] ∧ Q (.bool true) M
theorem T_fettleref1_SameTexts_3 {M : Store} {Q : Value → Store → Prop} (h : S_fettleref1_SameTexts_3 M Q) : P_fettleref1_SameTexts_3 M Q := by
  intro f 
  unfold At
  exact rule (B := 1000) (N := 26) (ct := .no)
    [⟨1, fun a M => kfin Tryd.prog Tryd.f25.results.toList Q 1 a M, fun a M => kfin Tryd.prog Tryd.f25.results.toList Q 1 a M⟩]
    [] [1] (by kernel_rfl) (by kernel_rfl) (by kernel_rfl) (by kernel_rfl) (by kernel_rfl)
    ⟨fun _ _ _ h => h,
    trivial⟩
    (cast (by kernel_rfl) h)
def P_slices_IndexFunc_sl_string_string_1 (x0 x1 x7 x8 : Value) (M : Store) (Q : Value → Store → Prop) : Prop :=
  ∀ f : Nat → Value, f 0 = x0 → f 1 = x1 → f 7 = x7 → f 8 = x8 → At Tryd.prog Ex none Tryd.f38 [1, 0, 1, 0] ⟨⟨19, f⟩, []⟩ M Q
def P_slices_IndexFunc_sl_string_string_2 (M : Store) (Q : Value → Store → Prop) : Prop :=
  ∀ f : Nat → Value, At Tryd.prog Ex none Tryd.f38 [1, 1] ⟨⟨19, f⟩, []⟩ M Q
def S_slices_IndexFunc_sl_string_string (x0 x1 : Value) (M : Store) (Q : Value → Store → Prop) : Prop :=
  OP (lenV x0) fun t7 =>
  P_slices_IndexFunc_sl_string_string_1 x0 x1 t7 (.int .i64 0) M Q
theorem T_slices_IndexFunc_sl_string_string {x0 x1 : Value} {M : Store} {Q : Value → Store → Prop} (h : S_slices_IndexFunc_sl_string_string x0 x1 M Q) : R F.slices_IndexFunc_sl_string_string #[x0, x1] M Q := by
  refine runs_of (c := bodyOf Tryd.f38) Tryd.func38 rfl (by kernel_rfl) (by kernel_rfl) ?_
  unfold At
  exact rule (B := 1000) (N := 19) (ct := (.two .no (.two (.two .no (.two (.here 1000) .no)) (.here 1001))))
    [⟨1002, fun a M => dfr a.defers (P_slices_IndexFunc_sl_string_string_1 (a.get 0) (a.get 1) (a.get 7) (a.get 8) M Q), fun a M => At Tryd.prog Ex none Tryd.f38 [1, 0, 1, 0] a M Q⟩,
    ⟨1003, fun _ _ => False, fun a M => At Tryd.prog Ex none Tryd.f38 [1, 1] a M Q⟩]
    [1000, 1001] [] (by kernel_rfl) (by kernel_rfl) (by kernel_rfl) (by kernel_rfl) (by kernel_rfl)
    ⟨fun a M hn h => by obtain ⟨⟨n, f⟩, ds⟩ := a; have hn : n = 19 := hn; subst hn; obtain ⟨hd, h⟩ := dfr_iff h; have hd : ds = [] := hd; subst hd; exact h f rfl rfl rfl rfl,
    fun _ _ _ h => h.elim,
    trivial⟩
    (cast (by kernel_rfl) h)
def S_slices_IndexFunc_sl_string_string_1 (x0 x1 x7 x8 : Value) (M : Store) (Q : Value → Store → Prop) : Prop :=
  OP (binI .lss x8 x7) fun t9 =>
  BR t9 (
  OP (ixA 1 x0 x8) fun t14 =>
  OP (ld 1 false t14 M) fun t15 =>
  KC x1 [t15] M fun t16 M1 =>
  BR t16 (
  NTs [x8] ∧ Q x8 M1
  ) (
  OP (binI .add x8 (.int .i64 1)) fun t18 =>
  P_slices_IndexFunc_sl_string_string_1 x0 x1 x7 t18 M1 Q
  )
  ) (
  P_slices_IndexFunc_sl_string_string_2 M Q
  )
theorem T_slices_IndexFunc_sl_string_string_1 {x0 x1 x7 x8 : Value} {M : Store} {Q : Value → Store → Prop} (h : S_slices_IndexFunc_sl_string_string_1 x0 x1 x7 x8 M Q) : P_slices_IndexFunc_sl_string_string_1 x0 x1 x7 x8 M Q := by
  intro f h0 h1 h7 h8; subst h0; subst h1; subst h7; subst h8
  unfold At
  refine cast (by kernel_rfl) (CW.loop (P := Tryd.prog) (E := Ex) (rd := none) (x := sub (bodyOf Tryd.f38) [1, 0, 1, 0, 0]) (a := ⟨⟨19, f⟩, []⟩) (M := M) (K := kcont Tryd.prog Ex none (bodyOf Tryd.f38) [1, 0, 1, 0] (kfin Tryd.prog Tryd.f38.results.toList Q)) ?_)
  exact rule (B := 1000) (N := 19) (ct := .no)
    [⟨0, fun a M => dfr a.defers (P_slices_IndexFunc_sl_string_string_1 (a.get 0) (a.get 1) (a.get 7) (a.get 8) M Q), fun a M => At Tryd.prog Ex none Tryd.f38 [1, 0, 1, 0] a M Q⟩,
    ⟨1, fun a M => kfin Tryd.prog Tryd.f38.results.toList Q 1 a M, fun a M => kfin Tryd.prog Tryd.f38.results.toList Q 1 a M⟩,
    ⟨2, fun a M => dfr a.defers (P_slices_IndexFunc_sl_string_string_2 M Q), fun a M => At Tryd.prog Ex none Tryd.f38 [1, 1] a M Q⟩]
    [] [0, 1, 2] (by kernel_rfl) (by kernel_rfl) (by kernel_rfl) (by kernel_rfl) (by kernel_rfl)
    ⟨fun a M hn h => by obtain ⟨⟨n, f⟩, ds⟩ := a; have hn : n = 19 := hn; subst hn; obtain ⟨hd, h⟩ := dfr_iff h; have hd : ds = [] := hd; subst hd; exact h f rfl rfl rfl rfl,
    fun _ _ _ h => h,
    fun a M hn h => by obtain ⟨⟨n, f⟩, ds⟩ := a; have hn : n = 19 := hn; subst hn; obtain ⟨hd, h⟩ := dfr_iff h; have hd : ds = [] := hd; subst hd; exact h f,
    trivial⟩
    (cast (by kernel_rfl) h)
def S_slices_IndexFunc_sl_string_string_2 (M : Store) (Q : Value → Store → Prop) : Prop :=
  NTs [(.int .i64 (-1))] ∧ Q (.int .i64 (-1)) M
theorem T_slices_IndexFunc_sl_string_string_2 {M : Store} {Q : Value → Store → Prop} (h : S_slices_IndexFunc_sl_string_string_2 M Q) : P_slices_IndexFunc_sl_string_string_2 M Q := by
  intro f 
  unfold At
  exact rule (B := 1000) (N := 19) (ct := .no)
    [⟨1, fun a M => kfin Tryd.prog Tryd.f38.results.toList Q 1 a M, fun a M => kfin Tryd.prog Tryd.f38.results.toList Q 1 a M⟩]
    [] [1] (by kernel_rfl) (by kernel_rfl) (by kernel_rfl) (by kernel_rfl) (by kernel_rfl)
    ⟨fun _ _ _ h => h,
    trivial⟩
    (cast (by kernel_rfl) h)
end Go.G
