/-  -/
import Derived.Test.YtnonfejhkbaikaaDoorPGN
open Go.RowKit
namespace Go.G
open Go.Ab Go.Proofs
set_option linter.unusedVariables false
set_option maxRecDepth 100000
def P_acts_Parse_1 (x0 x4 x5 : Value) (M : Store) (Q : Value → Store → Prop) : Prop :=
  ∀ f : Nat → Value, f 0 = x0 → f 4 = x4 → f 5 = x5 → At Tryd.prog Ex none Tryd.f14 [1, 1, 0, 1, 0] ⟨⟨46, f⟩, []⟩ M Q
def P_acts_Parse_2 (x0 x4 x5 : Value) (M : Store) (Q : Value → Store → Prop) : Prop :=
  ∀ f : Nat → Value, f 0 = x0 → f 4 = x4 → f 5 = x5 → At Tryd.prog Ex none Tryd.f14 [1, 1, 0, 1, 0, 0, 1] ⟨⟨46, f⟩, []⟩ M Q
def P_acts_Parse_3 (x4 : Value) (M : Store) (Q : Value → Store → Prop) : Prop :=
  ∀ f : Nat → Value, f 4 = x4 → At Tryd.prog Ex none Tryd.f14 [1, 1, 1] ⟨⟨46, f⟩, []⟩ M Q
def P_acts_Parse_4 (x0 x4 x5 x7 : Value) (M : Store) (Q : Value → Store → Prop) : Prop :=
  ∀ f : Nat → Value, f 0 = x0 → f 4 = x4 → f 5 = x5 → f 7 = x7 → At Tryd.prog Ex none Tryd.f14 [1, 1, 0, 1, 0, 0, 1, 0, 1, 1, 1] ⟨⟨46, f⟩, []⟩ M Q
def S_acts_Parse (x0 : Value) (M : Store) (Q : Value → Store → Prop) : Prop :=
  P_acts_Parse_1 x0 (.slice none 0 0) (.int .i64 0) M Q
theorem T_acts_Parse {x0 : Value} {M : Store} {Q : Value → Store → Prop} (h : S_acts_Parse x0 M Q) : R F.acts_Parse #[x0] M Q := by
  refine runs_of (c := bodyOf Tryd.f14) Tryd.func14 rfl (by kernel_rfl) (by kernel_rfl) ?_
  unfold At
  exact rule (B := 1000) (N := 46) (ct := (.two .no (.two .no (.two (.two .no (.two (.here 1000) .no)) (.here 1001)))))
    [⟨1002, fun a M => dfr a.defers (P_acts_Parse_1 (a.get 0) (a.get 4) (a.get 5) M Q), fun a M => At Tryd.prog Ex none Tryd.f14 [1, 1, 0, 1, 0] a M Q⟩,
    ⟨1003, fun _ _ => False, fun a M => At Tryd.prog Ex none Tryd.f14 [1, 1, 1] a M Q⟩]
    [1000, 1001] [] (by kernel_rfl) (by kernel_rfl) (by kernel_rfl) (by kernel_rfl) (by kernel_rfl)
    ⟨fun a M hn h => by obtain ⟨⟨n, f⟩, ds⟩ := a; have hn : n = 46 := hn; subst hn; obtain ⟨hd, h⟩ := dfr_iff h; have hd : ds = [] := hd; subst hd; exact h f rfl rfl rfl,
    fun _ _ _ h => h.elim,
    trivial⟩
    (cast (by kernel_rfl) h)
def S_acts_Parse_1 (x0 x4 x5 : Value) (M : Store) (Q : Value → Store → Prop) : Prop :=
  OP (lenV x0) fun t12 =>
  OP (binI .leq x5 t12) fun t13 =>
  BR t13 (
  P_acts_Parse_2 x0 x4 x5 M Q
  ) (
  P_acts_Parse_3 x4 M Q
  )
theorem T_acts_Parse_1 {x0 x4 x5 : Value} {M : Store} {Q : Value → Store → Prop} (h : S_acts_Parse_1 x0 x4 x5 M Q) : P_acts_Parse_1 x0 x4 x5 M Q := by
  intro f h0 h4 h5; subst h0; subst h4; subst h5
  unfold At
  refine cast (by kernel_rfl) (CW.loop (P := Tryd.prog) (E := Ex) (rd := none) (x := sub (bodyOf Tryd.f14) [1, 1, 0, 1, 0, 0]) (a := ⟨⟨46, f⟩, []⟩) (M := M) (K := kcont Tryd.prog Ex none (bodyOf Tryd.f14) [1, 1, 0, 1, 0] (kfin Tryd.prog Tryd.f14.results.toList Q)) ?_)
  exact rule (B := 1000) (N := 46) (ct := (.two .no (.here 1000)))
    [⟨1002, fun a M => dfr a.defers (P_acts_Parse_2 (a.get 0) (a.get 4) (a.get 5) M Q), fun a M => At Tryd.prog Ex none Tryd.f14 [1, 1, 0, 1, 0, 0, 1] a M Q⟩,
    ⟨2, fun a M => dfr a.defers (P_acts_Parse_3 (a.get 4) M Q), fun a M => At Tryd.prog Ex none Tryd.f14 [1, 1, 1] a M Q⟩]
    [1000] [2] (by kernel_rfl) (by kernel_rfl) (by kernel_rfl) (by kernel_rfl) (by kernel_rfl)
    ⟨fun a M hn h => by obtain ⟨⟨n, f⟩, ds⟩ := a; have hn : n = 46 := hn; subst hn; obtain ⟨hd, h⟩ := dfr_iff h; have hd : ds = [] := hd; subst hd; exact h f rfl rfl rfl,
    fun a M hn h => by obtain ⟨⟨n, f⟩, ds⟩ := a; have hn : n = 46 := hn; subst hn; obtain ⟨hd, h⟩ := dfr_iff h; have hd : ds = [] := hd; subst hd; exact h f rfl,
    trivial⟩
    (cast (by kernel_rfl) h)
def S_acts_Parse_2 (x0 x4 x5 : Value) (M : Store) (Q : Value → Store → Prop) : Prop :=
  OP (slV 4 Ty.api_Word x0 (some x5) none M) fun t16 =>
  R F.slices_IndexFunc_sl_api_Word_api_Word #[t16, (.func (.func F.acts_Parse_c1) #[] #[])] M fun t17 M1 =>
  OP (lenV x0) fun t19 =>
  OP (binI .geq t17 (.int .i64 0)) fun t21 =>
  BR t21 (
  OP (binI .add x5 t17) fun t24 =>
  P_acts_Parse_4 x0 x4 x5 t24 M1 Q
  ) (
  P_acts_Parse_4 x0 x4 x5 t19 M1 Q
  )
theorem T_acts_Parse_2 {x0 x4 x5 : Value} {M : Store} {Q : Value → Store → Prop} (h : S_acts_Parse_2 x0 x4 x5 M Q) : P_acts_Parse_2 x0 x4 x5 M Q := by
  intro f h0 h4 h5; subst h0; subst h4; subst h5
  unfold At
  exact rule (B := 1000) (N := 46) (ct := (.two (.two .no (.two .no (.two .no (.here 1000)))) .no))
    [⟨1002, fun a M => dfr a.defers (P_acts_Parse_4 (a.get 0) (a.get 4) (a.get 5) (a.get 7) M Q), fun a M => At Tryd.prog Ex none Tryd.f14 [1, 1, 0, 1, 0, 0, 1, 0, 1, 1, 1] a M Q⟩]
    [1000] [] (by kernel_rfl) (by kernel_rfl) (by kernel_rfl) (by kernel_rfl) (by kernel_rfl)
    ⟨fun a M hn h => by obtain ⟨⟨n, f⟩, ds⟩ := a; have hn : n = 46 := hn; subst hn; obtain ⟨hd, h⟩ := dfr_iff h; have hd : ds = [] := hd; subst hd; exact h f rfl rfl rfl rfl,
    trivial⟩
    (cast (by kernel_rfl) h)
def S_acts_Parse_3 (x4 : Value) (M : Store) (Q : Value → Store → Prop) : Prop :=
  R F.acts_Ok #[x4] M fun t42 M1 =>
  OP (aun .not t42) fun t43 =>
  BR t43 (
  NTs [(.slice none 0 0), (.bool false)] ∧ Q (.tuple #[(.slice none 0 0), (.bool false)]) M1
  ) (
  R F.slices_Clip_sl_api_Do_api_Do #[x4] M1 fun t45 M2 =>
  NTs [t45, (.bool true)] ∧ Q (.tuple #[t45, (.bool true)]) M2
  )
theorem T_acts_Parse_3 {x4 : Value} {M : Store} {Q : Value → Store → Prop} (h : S_acts_Parse_3 x4 M Q) : P_acts_Parse_3 x4 M Q := by
  intro f h4; subst h4
  unfold At
  exact rule (B := 1000) (N := 46) (ct := .no)
    [⟨1, fun a M => kfin Tryd.prog Tryd.f14.results.toList Q 1 a M, fun a M => kfin Tryd.prog Tryd.f14.results.toList Q 1 a M⟩]
    [] [1] (by kernel_rfl) (by kernel_rfl) (by kernel_rfl) (by kernel_rfl) (by kernel_rfl)
    ⟨fun _ _ _ h => h,
    trivial⟩
    (cast (by kernel_rfl) h)
def S_acts_Parse_4 (x0 x4 x5 x7 : Value) (M : Store) (Q : Value → Store → Prop) : Prop :=
  OP (slV 4 Ty.api_Word x0 (some x5) (some x7) M) fun t29 =>
  R F.acts_one #[t29] M fun t30 M1 =>
  OP (tup t30 0) fun t31 =>
  OP (tup t30 1) fun t32 =>
  LT (.pointer (some ⟨M1.n, 0, none⟩)) (M1.push (some (.inl ([(.int .i64 0), (.int .i64 0), (.string ⟨#[]⟩)], Ty.api_Do, true)))) fun t8 M2 =>
  OP (st 3 t8 t31 M2) fun M3 =>
  OP (aun .not t32) fun t34 =>
  BR t34 (
  NTs [(.slice none 0 0), (.bool false)] ∧ Q (.tuple #[(.slice none 0 0), (.bool false)]) M3
  ) (
  OP (ld 3 true t8 M3) fun t36 =>
  OP (bldL (.agg #[(.int .i64 0), (.int .i64 0), (.string ⟨#[]⟩)]) 3 1 [(0, t36)]) fun c =>
  LT (.slice (some ⟨M3.n, 0, none⟩) 1 1) (M3.push (some (.inl (c, Ty.api_Do, true)))) fun t37 M4 =>
  OP2 (appV 3 Ty.api_Do x4 t37 M4) fun t38 M5 =>
  OP (binI .add x7 (.int .i64 1)) fun t40 =>
  P_acts_Parse_1 x0 t38 t40 M5 Q
  )
theorem T_acts_Parse_4 {x0 x4 x5 x7 : Value} {M : Store} {Q : Value → Store → Prop} (h : S_acts_Parse_4 x0 x4 x5 x7 M Q) : P_acts_Parse_4 x0 x4 x5 x7 M Q := by
  intro f h0 h4 h5 h7; subst h0; subst h4; subst h5; subst h7
  unfold At
  exact rule (B := 1000) (N := 46) (ct := .no)
    [⟨0, fun a M => dfr a.defers (P_acts_Parse_1 (a.get 0) (a.get 4) (a.get 5) M Q), fun a M => At Tryd.prog Ex none Tryd.f14 [1, 1, 0, 1, 0] a M Q⟩,
    ⟨1, fun a M => kfin Tryd.prog Tryd.f14.results.toList Q 1 a M, fun a M => kfin Tryd.prog Tryd.f14.results.toList Q 1 a M⟩]
    [] [0, 1] (by kernel_rfl) (by kernel_rfl) (by kernel_rfl) (by kernel_rfl) (by kernel_rfl)
    ⟨fun a M hn h => by obtain ⟨⟨n, f⟩, ds⟩ := a; have hn : n = 46 := hn; subst hn; obtain ⟨hd, h⟩ := dfr_iff h; have hd : ds = [] := hd; subst hd; exact h f rfl rfl rfl,
    fun _ _ _ h => h,
    trivial⟩
    (cast (by kernel_rfl) h)
def P_fettleref4_ParseAct_1 (x0 x4 x5 x6 : Value) (M : Store) (Q : Value → Store → Prop) : Prop :=
  ∀ f : Nat → Value, f 0 = x0 → f 4 = x4 → f 5 = x5 → f 6 = x6 → At Tryd.prog Ex none Tryd.f15 [1, 1, 1, 0, 1, 0] ⟨⟨47, f⟩, []⟩ M Q
def P_fettleref4_ParseAct_2 (x0 x4 x5 x6 : Value) (M : Store) (Q : Value → Store → Prop) : Prop :=
  ∀ f : Nat → Value, f 0 = x0 → f 4 = x4 → f 5 = x5 → f 6 = x6 → At Tryd.prog Ex none Tryd.f15 [1, 1, 1, 0, 1, 0, 0, 1] ⟨⟨47, f⟩, []⟩ M Q
def P_fettleref4_ParseAct_3 (x4 : Value) (M : Store) (Q : Value → Store → Prop) : Prop :=
  ∀ f : Nat → Value, f 4 = x4 → At Tryd.prog Ex none Tryd.f15 [1, 1, 1, 1] ⟨⟨47, f⟩, []⟩ M Q
def P_fettleref4_ParseAct_4 (x0 x4 x5 x6 : Value) (M : Store) (Q : Value → Store → Prop) : Prop :=
  ∀ f : Nat → Value, f 0 = x0 → f 4 = x4 → f 5 = x5 → f 6 = x6 → At Tryd.prog Ex none Tryd.f15 [1, 1, 1, 0, 1, 0, 0, 1, 0, 0, 1] ⟨⟨47, f⟩, []⟩ M Q
def P_fettleref4_ParseAct_5 (x0 x4 x5 x6 : Value) (M : Store) (Q : Value → Store → Prop) : Prop :=
  ∀ f : Nat → Value, f 0 = x0 → f 4 = x4 → f 5 = x5 → f 6 = x6 → At Tryd.prog Ex none Tryd.f15 [1, 1, 1, 0, 1, 0, 0, 1, 1] ⟨⟨47, f⟩, []⟩ M Q
def S_fettleref4_ParseAct (x0 : Value) (M : Store) (Q : Value → Store → Prop) : Prop :=
  P_fettleref4_ParseAct_1 x0 (.slice none 0 0) (.int .i64 0) (.int .i64 0) M Q
theorem T_fettleref4_ParseAct {x0 : Value} {M : Store} {Q : Value → Store → Prop} (h : S_fettleref4_ParseAct x0 M Q) : R F.fettleref4_ParseAct #[x0] M Q := by
  refine runs_of (c := bodyOf Tryd.f15) Tryd.func15 rfl (by kernel_rfl) (by kernel_rfl) ?_
  unfold At
  exact rule (B := 1000) (N := 47) (ct := (.two .no (.two .no (.two .no (.two (.two .no (.two (.here 1000) .no)) (.here 1001))))))
    [⟨1002, fun a M => dfr a.defers (P_fettleref4_ParseAct_1 (a.get 0) (a.get 4) (a.get 5) (a.get 6) M Q), fun a M => At Tryd.prog Ex none Tryd.f15 [1, 1, 1, 0, 1, 0] a M Q⟩,
    ⟨1003, fun _ _ => False, fun a M => At Tryd.prog Ex none Tryd.f15 [1, 1, 1, 1] a M Q⟩]
    [1000, 1001] [] (by kernel_rfl) (by kernel_rfl) (by kernel_rfl) (by kernel_rfl) (by kernel_rfl)
    ⟨fun a M hn h => by obtain ⟨⟨n, f⟩, ds⟩ := a; have hn : n = 47 := hn; subst hn; obtain ⟨hd, h⟩ := dfr_iff h; have hd : ds = [] := hd; subst hd; exact h f rfl rfl rfl rfl,
    fun _ _ _ h => h.elim,
    trivial⟩
    (cast (by kernel_rfl) h)
def S_fettleref4_ParseAct_1 (x0 x4 x5 x6 : Value) (M : Store) (Q : Value → Store → Prop) : Prop :=
  OP (lenV x0) fun t11 =>
  OP (binI .leq x6 t11) fun t12 =>
  BR t12 (
  P_fettleref4_ParseAct_2 x0 x4 x5 x6 M Q
  ) (
  P_fettleref4_ParseAct_3 x4 M Q
  )
theorem T_fettleref4_ParseAct_1 {x0 x4 x5 x6 : Value} {M : Store} {Q : Value → Store → Prop} (h : S_fettleref4_ParseAct_1 x0 x4 x5 x6 M Q) : P_fettleref4_ParseAct_1 x0 x4 x5 x6 M Q := by
  intro f h0 h4 h5 h6; subst h0; subst h4; subst h5; subst h6
  unfold At
  refine cast (by kernel_rfl) (CW.loop (P := Tryd.prog) (E := Ex) (rd := none) (x := sub (bodyOf Tryd.f15) [1, 1, 1, 0, 1, 0, 0]) (a := ⟨⟨47, f⟩, []⟩) (M := M) (K := kcont Tryd.prog Ex none (bodyOf Tryd.f15) [1, 1, 1, 0, 1, 0] (kfin Tryd.prog Tryd.f15.results.toList Q)) ?_)
  exact rule (B := 1000) (N := 47) (ct := (.two .no (.here 1000)))
    [⟨1002, fun a M => dfr a.defers (P_fettleref4_ParseAct_2 (a.get 0) (a.get 4) (a.get 5) (a.get 6) M Q), fun a M => At Tryd.prog Ex none Tryd.f15 [1, 1, 1, 0, 1, 0, 0, 1] a M Q⟩,
    ⟨2, fun a M => dfr a.defers (P_fettleref4_ParseAct_3 (a.get 4) M Q), fun a M => At Tryd.prog Ex none Tryd.f15 [1, 1, 1, 1] a M Q⟩]
    [1000] [2] (by kernel_rfl) (by kernel_rfl) (by kernel_rfl) (by kernel_rfl) (by kernel_rfl)
    ⟨fun a M hn h => by obtain ⟨⟨n, f⟩, ds⟩ := a; have hn : n = 47 := hn; subst hn; obtain ⟨hd, h⟩ := dfr_iff h; have hd : ds = [] := hd; subst hd; exact h f rfl rfl rfl rfl,
    fun a M hn h => by obtain ⟨⟨n, f⟩, ds⟩ := a; have hn : n = 47 := hn; subst hn; obtain ⟨hd, h⟩ := dfr_iff h; have hd : ds = [] := hd; subst hd; exact h f rfl,
    trivial⟩
    (cast (by kernel_rfl) h)
def S_fettleref4_ParseAct_2 (x0 x4 x5 x6 : Value) (M : Store) (Q : Value → Store → Prop) : Prop :=
  OP (lenV x0) fun t17 =>
  OP (binI .lss x6 t17) fun t18 =>
  BR t18 (
  OP (ixA 4 x0 x6) fun t22 =>
  OP (ld 4 true t22 M) fun t23 =>
  R F.fettleref4_is #[t23, (.string ⟨#[59]⟩)] M fun t24 M1 =>
  OP (aun .not t24) fun t25 =>
  BR t25 (
  P_fettleref4_ParseAct_5 x0 x4 x5 x6 M1 Q
  ) (
  P_fettleref4_ParseAct_4 x0 x4 x5 x6 M1 Q
  )
  ) (
  P_fettleref4_ParseAct_4 x0 x4 x5 x6 M Q
  )
theorem T_fettleref4_ParseAct_2 {x0 x4 x5 x6 : Value} {M : Store} {Q : Value → Store → Prop} (h : S_fettleref4_ParseAct_2 x0 x4 x5 x6 M Q) : P_fettleref4_ParseAct_2 x0 x4 x5 x6 M Q := by
  intro f h0 h4 h5 h6; subst h0; subst h4; subst h5; subst h6
  unfold At
  exact rule (B := 1000) (N := 47) (ct := (.two (.two (.two .no (.here 1000)) .no) (.here 1001)))
    [⟨1002, fun a M => dfr a.defers (P_fettleref4_ParseAct_4 (a.get 0) (a.get 4) (a.get 5) (a.get 6) M Q), fun a M => At Tryd.prog Ex none Tryd.f15 [1, 1, 1, 0, 1, 0, 0, 1, 0, 0, 1] a M Q⟩,
    ⟨1003, fun a M => dfr a.defers (P_fettleref4_ParseAct_5 (a.get 0) (a.get 4) (a.get 5) (a.get 6) M Q), fun a M => At Tryd.prog Ex none Tryd.f15 [1, 1, 1, 0, 1, 0, 0, 1, 1] a M Q⟩]
    [1000, 1001] [] (by kernel_rfl) (by kernel_rfl) (by kernel_rfl) (by kernel_rfl) (by kernel_rfl)
    ⟨fun a M hn h => by obtain ⟨⟨n, f⟩, ds⟩ := a; have hn : n = 47 := hn; subst hn; obtain ⟨hd, h⟩ := dfr_iff h; have hd : ds = [] := hd; subst hd; exact h f rfl rfl rfl rfl,
    fun a M hn h => by obtain ⟨⟨n, f⟩, ds⟩ := a; have hn : n = 47 := hn; subst hn; obtain ⟨hd, h⟩ := dfr_iff h; have hd : ds = [] := hd; subst hd; exact h f rfl rfl rfl rfl,
    trivial⟩
    (cast (by kernel_rfl) h)
def S_fettleref4_ParseAct_3 (x4 : Value) (M : Store) (Q : Value → Store → Prop) : Prop :=
  R F.fettleref4_OkAct #[x4] M fun t44 M1 =>
  OP (aun .not t44) fun t45 =>
  BR t45 (
  NTs [(.slice none 0 0), (.bool false)] ∧ Q (.tuple #[(.slice none 0 0), (.bool false)]) M1
  ) (
  NTs [x4, (.bool true)] ∧ Q (.tuple #[x4, (.bool true)]) M1
  )
theorem T_fettleref4_ParseAct_3 {x4 : Value} {M : Store} {Q : Value → Store → Prop} (h : S_fettleref4_ParseAct_3 x4 M Q) : P_fettleref4_ParseAct_3 x4 M Q := by
  intro f h4; subst h4
  unfold At
  exact rule (B := 1000) (N := 47) (ct := .no)
    [⟨1, fun a M => kfin Tryd.prog Tryd.f15.results.toList Q 1 a M, fun a M => kfin Tryd.prog Tryd.f15.results.toList Q 1 a M⟩]
    [] [1] (by kernel_rfl) (by kernel_rfl) (by kernel_rfl) (by kernel_rfl) (by kernel_rfl)
    ⟨fun _ _ _ h => h,
    trivial⟩
    (cast (by kernel_rfl) h)
def S_fettleref4_ParseAct_4 (x0 x4 x5 x6 : Value) (M : Store) (Q : Value → Store → Prop) : Prop :=
  OP (slV 4 Ty.api_Word x0 (some x5) (some x6) M) fun t31 =>
  R F.fettleref4_one #[t31] M fun t32 M1 =>
  OP (tup t32 0) fun t33 =>
  OP (tup t32 1) fun t34 =>
  LT (.pointer (some ⟨M1.n, 0, none⟩)) (M1.push (some (.inl ([(.int .i64 0), (.int .i64 0), (.string ⟨#[]⟩)], Ty.api_Do, true)))) fun t7 M2 =>
  OP (st 3 t7 t33 M2) fun M3 =>
  OP (aun .not t34) fun t36 =>
  BR t36 (
  NTs [(.slice none 0 0), (.bool false)] ∧ Q (.tuple #[(.slice none 0 0), (.bool false)]) M3
  ) (
  OP (ld 3 true t7 M3) fun t38 =>
  OP (bldL (.agg #[(.int .i64 0), (.int .i64 0), (.string ⟨#[]⟩)]) 3 1 [(0, t38)]) fun c =>
  LT (.slice (some ⟨M3.n, 0, none⟩) 1 1) (M3.push (some (.inl (c, Ty.api_Do, true)))) fun t39 M4 =>
  OP2 (appV 3 Ty.api_Do x4 t39 M4) fun t40 M5 =>
  OP (binI .add x6 (.int .i64 1)) fun t42 =>
  P_fettleref4_ParseAct_5 x0 t40 t42 x6 M5 Q
  )
theorem T_fettleref4_ParseAct_4 {x0 x4 x5 x6 : Value} {M : Store} {Q : Value → Store → Prop} (h : S_fettleref4_ParseAct_4 x0 x4 x5 x6 M Q) : P_fettleref4_ParseAct_4 x0 x4 x5 x6 M Q := by
  intro f h0 h4 h5 h6; subst h0; subst h4; subst h5; subst h6
  unfold At
  exact rule (B := 1000) (N := 47) (ct := .no)
    [⟨0, fun a M => dfr a.defers (P_fettleref4_ParseAct_5 (a.get 0) (a.get 4) (a.get 5) (a.get 6) M Q), fun a M => At Tryd.prog Ex none Tryd.f15 [1, 1, 1, 0, 1, 0, 0, 1, 1] a M Q⟩,
    ⟨1, fun a M => kfin Tryd.prog Tryd.f15.results.toList Q 1 a M, fun a M => kfin Tryd.prog Tryd.f15.results.toList Q 1 a M⟩]
    [] [0, 1] (by kernel_rfl) (by kernel_rfl) (by kernel_rfl) (by kernel_rfl) (by kernel_rfl)
    ⟨fun a M hn h => by obtain ⟨⟨n, f⟩, ds⟩ := a; have hn : n = 47 := hn; subst hn; obtain ⟨hd, h⟩ := dfr_iff h; have hd : ds = [] := hd; subst hd; exact h f rfl rfl rfl rfl,
    fun _ _ _ h => h,
    trivial⟩
    (cast (by kernel_rfl) h)
def S_fettleref4_ParseAct_5 (x0 x4 x5 x6 : Value) (M : Store) (Q : Value → Store → Prop) : Prop :=
  OP (binI .add x6 (.int .i64 1)) fun t14 =>
  P_fettleref4_ParseAct_1 x0 x4 x5 t14 M Q
theorem T_fettleref4_ParseAct_5 {x0 x4 x5 x6 : Value} {M : Store} {Q : Value → Store → Prop} (h : S_fettleref4_ParseAct_5 x0 x4 x5 x6 M Q) : P_fettleref4_ParseAct_5 x0 x4 x5 x6 M Q := by
  intro f h0 h4 h5 h6; subst h0; subst h4; subst h5; subst h6
  unfold At
  exact rule (B := 1000) (N := 47) (ct := .no)
    [⟨0, fun a M => dfr a.defers (P_fettleref4_ParseAct_1 (a.get 0) (a.get 4) (a.get 5) (a.get 6) M Q), fun a M => At Tryd.prog Ex none Tryd.f15 [1, 1, 1, 0, 1, 0] a M Q⟩]
    [] [0] (by kernel_rfl) (by kernel_rfl) (by kernel_rfl) (by kernel_rfl) (by kernel_rfl)
    ⟨fun a M hn h => by obtain ⟨⟨n, f⟩, ds⟩ := a; have hn : n = 47 := hn; subst hn; obtain ⟨hd, h⟩ := dfr_iff h; have hd : ds = [] := hd; subst hd; exact h f rfl rfl rfl rfl,
    trivial⟩
    (cast (by kernel_rfl) h)
def P_slices_IndexFunc_sl_api_Word_api_Word_1 (x0 x1 x7 x8 : Value) (M : Store) (Q : Value → Store → Prop) : Prop :=
  ∀ f : Nat → Value, f 0 = x0 → f 1 = x1 → f 7 = x7 → f 8 = x8 → At Tryd.prog Ex none Tryd.f27 [1, 0, 1, 0] ⟨⟨19, f⟩, []⟩ M Q
def P_slices_IndexFunc_sl_api_Word_api_Word_2 (M : Store) (Q : Value → Store → Prop) : Prop :=
  ∀ f : Nat → Value, At Tryd.prog Ex none Tryd.f27 [1, 1] ⟨⟨19, f⟩, []⟩ M Q
def S_slices_IndexFunc_sl_api_Word_api_Word (x0 x1 : Value) (M : Store) (Q : Value → Store → Prop) : Prop :=
  OP (lenV x0) fun t7 =>
  P_slices_IndexFunc_sl_api_Word_api_Word_1 x0 x1 t7 (.int .i64 0) M Q
theorem T_slices_IndexFunc_sl_api_Word_api_Word {x0 x1 : Value} {M : Store} {Q : Value → Store → Prop} (h : S_slices_IndexFunc_sl_api_Word_api_Word x0 x1 M Q) : R F.slices_IndexFunc_sl_api_Word_api_Word #[x0, x1] M Q := by
  refine runs_of (c := bodyOf Tryd.f27) Tryd.func27 rfl (by kernel_rfl) (by kernel_rfl) ?_
  unfold At
  exact rule (B := 1000) (N := 19) (ct := (.two .no (.two (.two .no (.two (.here 1000) .no)) (.here 1001))))
    [⟨1002, fun a M => dfr a.defers (P_slices_IndexFunc_sl_api_Word_api_Word_1 (a.get 0) (a.get 1) (a.get 7) (a.get 8) M Q), fun a M => At Tryd.prog Ex none Tryd.f27 [1, 0, 1, 0] a M Q⟩,
    ⟨1003, fun _ _ => False, fun a M => At Tryd.prog Ex none Tryd.f27 [1, 1] a M Q⟩]
    [1000, 1001] [] (by kernel_rfl) (by kernel_rfl) (by kernel_rfl) (by kernel_rfl) (by kernel_rfl)
    ⟨fun a M hn h => by obtain ⟨⟨n, f⟩, ds⟩ := a; have hn : n = 19 := hn; subst hn; obtain ⟨hd, h⟩ := dfr_iff h; have hd : ds = [] := hd; subst hd; exact h f rfl rfl rfl rfl,
    fun _ _ _ h => h.elim,
    trivial⟩
    (cast (by kernel_rfl) h)
def S_slices_IndexFunc_sl_api_Word_api_Word_1 (x0 x1 x7 x8 : Value) (M : Store) (Q : Value → Store → Prop) : Prop :=
  OP (binI .lss x8 x7) fun t9 =>
  BR t9 (
  OP (ixA 4 x0 x8) fun t14 =>
  OP (ld 4 true t14 M) fun t15 =>
  KC x1 [t15] M fun t16 M1 =>
  BR t16 (
  NTs [x8] ∧ Q x8 M1
  ) (
  OP (binI .add x8 (.int .i64 1)) fun t18 =>
  P_slices_IndexFunc_sl_api_Word_api_Word_1 x0 x1 x7 t18 M1 Q
  )
  ) (
  P_slices_IndexFunc_sl_api_Word_api_Word_2 M Q
  )
theorem T_slices_IndexFunc_sl_api_Word_api_Word_1 {x0 x1 x7 x8 : Value} {M : Store} {Q : Value → Store → Prop} (h : S_slices_IndexFunc_sl_api_Word_api_Word_1 x0 x1 x7 x8 M Q) : P_slices_IndexFunc_sl_api_Word_api_Word_1 x0 x1 x7 x8 M Q := by
  intro f h0 h1 h7 h8; subst h0; subst h1; subst h7; subst h8
  unfold At
  refine cast (by kernel_rfl) (CW.loop (P := Tryd.prog) (E := Ex) (rd := none) (x := sub (bodyOf Tryd.f27) [1, 0, 1, 0, 0]) (a := ⟨⟨19, f⟩, []⟩) (M := M) (K := kcont Tryd.prog Ex none (bodyOf Tryd.f27) [1, 0, 1, 0] (kfin Tryd.prog Tryd.f27.results.toList Q)) ?_)
  exact rule (B := 1000) (N := 19) (ct := .no)
    [⟨0, fun a M => dfr a.defers (P_slices_IndexFunc_sl_api_Word_api_Word_1 (a.get 0) (a.get 1) (a.get 7) (a.get 8) M Q), fun a M => At Tryd.prog Ex none Tryd.f27 [1, 0, 1, 0] a M Q⟩,
    ⟨1, fun a M => kfin Tryd.prog Tryd.f27.results.toList Q 1 a M, fun a M => kfin Tryd.prog Tryd.f27.results.toList Q 1 a M⟩,
    ⟨2, fun a M => dfr a.defers (P_slices_IndexFunc_sl_api_Word_api_Word_2 M Q), fun a M => At Tryd.prog Ex none Tryd.f27 [1, 1] a M Q⟩]
    [] [0, 1, 2] (by kernel_rfl) (by kernel_rfl) (by kernel_rfl) (by kernel_rfl) (by kernel_rfl)
    ⟨fun a M hn h => by obtain ⟨⟨n, f⟩, ds⟩ := a; have hn : n = 19 := hn; subst hn; obtain ⟨hd, h⟩ := dfr_iff h; have hd : ds = [] := hd; subst hd; exact h f rfl rfl rfl rfl,
    fun _ _ _ h => h,
    fun a M hn h => by obtain ⟨⟨n, f⟩, ds⟩ := a; have hn : n = 19 := hn; subst hn; obtain ⟨hd, h⟩ := dfr_iff h; have hd : ds = [] := hd; subst hd; exact h f,
    trivial⟩
    (cast (by kernel_rfl) h)
def S_slices_IndexFunc_sl_api_Word_api_Word_2 (M : Store) (Q : Value → Store → Prop) : Prop :=
  NTs [(.int .i64 (-1))] ∧ Q (.int .i64 (-1)) M
theorem T_slices_IndexFunc_sl_api_Word_api_Word_2 {M : Store} {Q : Value → Store → Prop} (h : S_slices_IndexFunc_sl_api_Word_api_Word_2 M Q) : P_slices_IndexFunc_sl_api_Word_api_Word_2 M Q := by
  intro f 
  unfold At
  exact rule (B := 1000) (N := 19) (ct := .no)
    [⟨1, fun a M => kfin Tryd.prog Tryd.f27.results.toList Q 1 a M, fun a M => kfin Tryd.prog Tryd.f27.results.toList Q 1 a M⟩]
    [] [1] (by kernel_rfl) (by kernel_rfl) (by kernel_rfl) (by kernel_rfl) (by kernel_rfl)
    ⟨fun _ _ _ h => h,
    trivial⟩
    (cast (by kernel_rfl) h)
def S_acts_Parse_c1 (x0 : Value) (M : Store) (Q : Value → Store → Prop) : Prop :=
  OP (boxv x0) fun c =>
  LT (.pointer (some ⟨M.n, 0, none⟩)) (M.push (some (.inl (c, Ty.api_Word, true)))) fun t1 M1 =>
  OP (fad 0 t1) fun t3 =>
  OP (ld 1 false t3 M1) fun t4 =>
  OP (binS .eql t4 (.string ⟨#[59]⟩)) fun t5 =>
  BR t5 (
  OP (fad 3 t1) fun t7 =>
  OP (ld 1 false t7 M1) fun t8 =>
  OP (aun .not t8) fun t9 =>
  NTs [t9] ∧ Q t9 M1
  ) (
  NTs [(.bool false)] ∧ Q (.bool false) M1
  )
theorem T_acts_Parse_c1 {x0 : Value} {M : Store} {Q : Value → Store → Prop} (h : S_acts_Parse_c1 x0 M Q) : R F.acts_Parse_c1 #[x0] M Q := by
  refine runs_of (c := bodyOf Tryd.f28) Tryd.func28 rfl (by kernel_rfl) (by kernel_rfl) ?_
  unfold At
  exact rule (B := 1000) (N := 11) (ct := .no)
    [⟨1, fun a M => kfin Tryd.prog Tryd.f28.results.toList Q 1 a M, fun a M => kfin Tryd.prog Tryd.f28.results.toList Q 1 a M⟩]
    [] [1] (by kernel_rfl) (by kernel_rfl) (by kernel_rfl) (by kernel_rfl) (by kernel_rfl)
    ⟨fun _ _ _ h => h,
    trivial⟩
    (cast (by kernel_rfl) h)
def S_acts_one (x0 : Value) (M : Store) (Q : Value → Store → Prop) : Prop :=
  LT (.pointer (some ⟨M.n, 0, none⟩)) (M.push (some (.inl ([(.int .i64 0), (.int .i64 0), (.string ⟨#[]⟩)], Ty.api_Do, true)))) fun t2 M1 =>
  OP (lenV x0) fun t6 =>
  OP (binI .eql t6 (.int .i64 0)) fun t7 =>
  BR t7 (
  OP (bldS #[(.int .i64 0), (.int .i64 0), (.string ⟨#[]⟩)] [(0, 1), (1, 1), (2, 1)] []) fun t14 =>
  OP (st 3 t2 t14 M1) fun M2 =>
  OP (ld 3 true t2 M2) fun r2 =>
  NTs [r2, (.bool false)] ∧ Q (.tuple #[r2, (.bool false)]) M2
  ) (
  OP (ixA 4 x0 (.int .i64 0)) fun t10 =>
  OP (fad 3 t10) fun t11 =>
  OP (ld 1 false t11 M1) fun t12 =>
  BR t12 (
  OP (bldS #[(.int .i64 0), (.int .i64 0), (.string ⟨#[]⟩)] [(0, 1), (1, 1), (2, 1)] []) fun t14_1 =>
  OP (st 3 t2 t14_1 M1) fun M3 =>
  OP (ld 3 true t2 M3) fun r2_1 =>
  NTs [r2_1, (.bool false)] ∧ Q (.tuple #[r2_1, (.bool false)]) M3
  ) (
  R F.acts_words #[] M1 fun t15 M4 =>
  TDj [] [M1.n] M1 M4 ∧
  OP (ixA 4 x0 (.int .i64 0)) fun t17 =>
  OP (fad 0 t17) fun t18 =>
  OP (ld 1 false t18 M4) fun t19 =>
  R F.slices_Index_sl_string_string #[t15, t19] M4 fun t20 M5 =>
  TDx [0, 0, 2, 6, 14, 31, 63, 127, 0, 511] [M1.n, M4.n, M4.n, M4.n, M4.n, M4.n] 5 M4 M5 ∧
  OP (amax2 t20 (.int .i64 0)) fun t21 =>
  OP (bldS #[(.int .i64 0), (.int .i64 0), (.string ⟨#[]⟩)] [(0, 1), (1, 1), (2, 1)] [(0, t21)]) fun t22 =>
  LT (.pointer (some ⟨M5.n, 0, none⟩)) (M5.push (some (.inl ([(.int .i64 0), (.int .i64 0), (.string ⟨#[]⟩)], Ty.api_Do, true)))) fun t4 M6 =>
  OP (st 3 t4 t22 M6) fun M7 =>
  TDx [0, 0, 2, 6, 14, 31, 63, 127, 0, 511] [M1.n, M4.n, M4.n, M4.n, M4.n, M4.n, M5.n, M5.n, M5.n, M6.n] 9 M6 M7 ∧
  OP (fad 0 t4) fun t24 =>
  OP (ld 1 false t24 M7) fun t25 =>
  R F.acts_text #[t25] M7 fun t26 M8 =>
  BR t26 (
  OP (lenV x0) fun t28 =>
  OP (binI .neq t28 (.int .i64 2)) fun t29 =>
  BR t29 (
  OP (bldS #[(.int .i64 0), (.int .i64 0), (.string ⟨#[]⟩)] [(0, 1), (1, 1), (2, 1)] []) fun t37 =>
  OP (st 3 t2 t37 M8) fun M9 =>
  OP (ld 3 true t2 M9) fun r2_2 =>
  NTs [r2_2, (.bool false)] ∧ Q (.tuple #[r2_2, (.bool false)]) M9
  ) (
  OP (ixA 4 x0 (.int .i64 1)) fun t32 =>
  OP (fad 3 t32) fun t33 =>
  OP (ld 1 false t33 M8) fun t34 =>
  OP (aun .not t34) fun t35 =>
  BR t35 (
  OP (bldS #[(.int .i64 0), (.int .i64 0), (.string ⟨#[]⟩)] [(0, 1), (1, 1), (2, 1)] []) fun t37_1 =>
  OP (st 3 t2 t37_1 M8) fun M10 =>
  OP (ld 3 true t2 M10) fun r2_3 =>
  NTs [r2_3, (.bool false)] ∧ Q (.tuple #[r2_3, (.bool false)]) M10
  ) (
  OP (ixA 4 x0 (.int .i64 1)) fun t39 =>
  OP (fad 0 t39) fun t40 =>
  OP (ld 1 false t40 M8) fun t41 =>
  OP (fad 2 t4) fun t42 =>
  OP (st 1 t42 t41 M8) fun M11 =>
  OP (ld 3 true t4 M11) fun t69 =>
  OP (st 3 t2 t69 M11) fun M12 =>
  OP (ld 3 true t2 M12) fun r2_4 =>
  NTs [r2_4, (.bool true)] ∧ Q (.tuple #[r2_4, (.bool true)]) M12
  )
  )
  ) (
  OP (fad 0 t4) fun t44 =>
  OP (ld 1 false t44 M8) fun t45 =>
  R F.acts_top #[t45] M8 fun t46 M13 =>
  OP (binI .geq t46 (.int .i64 0)) fun t47 =>
  BR t47 (
  OP (lenV x0) fun t49 =>
  OP (binI .neq t49 (.int .i64 2)) fun t50 =>
  BR t50 (
  OP (bldS #[(.int .i64 0), (.int .i64 0), (.string ⟨#[]⟩)] [(0, 1), (1, 1), (2, 1)] []) fun t57 =>
  OP (st 3 t2 t57 M13) fun M14 =>
  OP (ld 3 true t2 M14) fun r2_5 =>
  NTs [r2_5, (.bool false)] ∧ Q (.tuple #[r2_5, (.bool false)]) M14
  ) (
  OP (ixA 4 x0 (.int .i64 1)) fun t53 =>
  OP (fad 3 t53) fun t54 =>
  OP (ld 1 false t54 M13) fun t55 =>
  BR t55 (
  OP (bldS #[(.int .i64 0), (.int .i64 0), (.string ⟨#[]⟩)] [(0, 1), (1, 1), (2, 1)] []) fun t57_1 =>
  OP (st 3 t2 t57_1 M13) fun M15 =>
  OP (ld 3 true t2 M15) fun r2_6 =>
  NTs [r2_6, (.bool false)] ∧ Q (.tuple #[r2_6, (.bool false)]) M15
  ) (
  OP (ixA 4 x0 (.int .i64 1)) fun t59 =>
  OP (fad 0 t59) fun t60 =>
  OP (ld 1 false t60 M13) fun t61 =>
  R F.acts_num #[t61] M13 fun t62 M16 =>
  OP (fad 1 t4) fun t63 =>
  OP (st 1 t63 t62 M16) fun M17 =>
  OP (ld 3 true t4 M17) fun t69_1 =>
  OP (st 3 t2 t69_1 M17) fun M18 =>
  OP (ld 3 true t2 M18) fun r2_7 =>
  NTs [r2_7, (.bool true)] ∧ Q (.tuple #[r2_7, (.bool true)]) M18
  )
  )
  ) (
  OP (lenV x0) fun t66 =>
  OP (binI .neq t66 (.int .i64 1)) fun t67 =>
  BR t67 (
  OP (bldS #[(.int .i64 0), (.int .i64 0), (.string ⟨#[]⟩)] [(0, 1), (1, 1), (2, 1)] []) fun t68 =>
  OP (st 3 t2 t68 M13) fun M19 =>
  OP (ld 3 true t2 M19) fun r2_8 =>
  NTs [r2_8, (.bool false)] ∧ Q (.tuple #[r2_8, (.bool false)]) M19
  ) (
  OP (ld 3 true t4 M13) fun t69_2 =>
  OP (st 3 t2 t69_2 M13) fun M20 =>
  OP (ld 3 true t2 M20) fun r2_9 =>
  NTs [r2_9, (.bool true)] ∧ Q (.tuple #[r2_9, (.bool true)]) M20
  )
  )
  )
  )
  )
theorem T_acts_one {x0 : Value} {M : Store} {Q : Value → Store → Prop} (h : S_acts_one x0 M Q) : R F.acts_one #[x0] M Q := by
  refine runs_of (c := bodyOf Tryd.f29) Tryd.func29 rfl (by kernel_rfl) (by kernel_rfl) ?_
  unfold At
  exact rule (B := 1000) (N := 70) (ct := .no)
    [⟨1, fun a M => kfin Tryd.prog Tryd.f29.results.toList Q 1 a M, fun a M => kfin Tryd.prog Tryd.f29.results.toList Q 1 a M⟩]
    [] [1] (by kernel_rfl) (by kernel_rfl) (by kernel_rfl) (by kernel_rfl) (by kernel_rfl)
    ⟨fun _ _ _ h => h,
    trivial⟩
    (cast (by kernel_rfl) h)
def S_slices_Clip_sl_api_Do_api_Do (x0 : Value) (M : Store) (Q : Value → Store → Prop) : Prop :=
  OP (lenV x0) fun t5 =>
  OP (lenV x0) fun t7 =>
  OP (slM 3 Ty.api_Do x0 none t5 t7 M) fun t8 =>
  NTs [t8] ∧ Q t8 M
theorem T_slices_Clip_sl_api_Do_api_Do {x0 : Value} {M : Store} {Q : Value → Store → Prop} (h : S_slices_Clip_sl_api_Do_api_Do x0 M Q) : R F.slices_Clip_sl_api_Do_api_Do #[x0] M Q := by
  refine runs_of (c := bodyOf Tryd.f30) Tryd.func30 rfl (by kernel_rfl) (by kernel_rfl) ?_
  unfold At
  exact rule (B := 1000) (N := 9) (ct := .no)
    [⟨1, fun a M => kfin Tryd.prog Tryd.f30.results.toList Q 1 a M, fun a M => kfin Tryd.prog Tryd.f30.results.toList Q 1 a M⟩]
    [] [1] (by kernel_rfl) (by kernel_rfl) (by kernel_rfl) (by kernel_rfl) (by kernel_rfl)
    ⟨fun _ _ _ h => h,
    trivial⟩
    (cast (by kernel_rfl) h)
def S_fettleref4_is (x0 x1 : Value) (M : Store) (Q : Value → Store → Prop) : Prop :=
  OP (boxv x0) fun c =>
  LT (.pointer (some ⟨M.n, 0, none⟩)) (M.push (some (.inl (c, Ty.api_Word, true)))) fun t2 M1 =>
  OP (fad 0 t2) fun t5 =>
  OP (ld 1 false t5 M1) fun t6 =>
  OP (binS .eql t6 x1) fun t8 =>
  BR t8 (
  OP (fad 3 t2) fun t10 =>
  OP (ld 1 false t10 M1) fun t11 =>
  OP (aun .not t11) fun t12 =>
  NTs [t12] ∧ Q t12 M1
  ) (
  NTs [(.bool false)] ∧ Q (.bool false) M1
  )
theorem T_fettleref4_is {x0 x1 : Value} {M : Store} {Q : Value → Store → Prop} (h : S_fettleref4_is x0 x1 M Q) : R F.fettleref4_is #[x0, x1] M Q := by
  refine runs_of (c := bodyOf Tryd.f31) Tryd.func31 rfl (by kernel_rfl) (by kernel_rfl) ?_
  unfold At
  exact rule (B := 1000) (N := 14) (ct := .no)
    [⟨1, fun a M => kfin Tryd.prog Tryd.f31.results.toList Q 1 a M, fun a M => kfin Tryd.prog Tryd.f31.results.toList Q 1 a M⟩]
    [] [1] (by kernel_rfl) (by kernel_rfl) (by kernel_rfl) (by kernel_rfl) (by kernel_rfl)
    ⟨fun _ _ _ h => h,
    trivial⟩
    (cast (by kernel_rfl) h)
def P_fettleref4_one_1 (x0 x2 x4 x5 : Value) (M : Store) (Q : Value → Store → Prop) : Prop :=
  ∀ f : Nat → Value, f 0 = x0 → f 2 = x2 → f 4 = x4 → f 5 = x5 → At Tryd.prog Ex none Tryd.f32 [1, 1, 1, 0, 1, 0] ⟨⟨89, f⟩, []⟩ M Q
def P_fettleref4_one_2 (x0 x2 x4 x5 : Value) (M : Store) (Q : Value → Store → Prop) : Prop :=
  ∀ f : Nat → Value, f 0 = x0 → f 2 = x2 → f 4 = x4 → f 5 = x5 → At Tryd.prog Ex none Tryd.f32 [1, 1, 1, 0, 1, 0, 0, 1] ⟨⟨89, f⟩, []⟩ M Q
def P_fettleref4_one_3 (x2 : Value) (M : Store) (Q : Value → Store → Prop) : Prop :=
  ∀ f : Nat → Value, f 2 = x2 → At Tryd.prog Ex none Tryd.f32 [1, 1, 1, 1] ⟨⟨89, f⟩, []⟩ M Q
def P_fettleref4_one_4 (x0 x2 x5 : Value) (M : Store) (Q : Value → Store → Prop) : Prop :=
  ∀ f : Nat → Value, f 0 = x0 → f 2 = x2 → f 5 = x5 → At Tryd.prog Ex none Tryd.f32 [1, 1, 1, 0, 1, 0, 0, 1, 0, 0, 1] ⟨⟨89, f⟩, []⟩ M Q
def P_fettleref4_one_5 (x0 x2 x6 x37 x42 : Value) (M : Store) (Q : Value → Store → Prop) : Prop :=
  ∀ f : Nat → Value, f 0 = x0 → f 2 = x2 → f 6 = x6 → f 37 = x37 → f 42 = x42 → At Tryd.prog Ex none Tryd.f32 [1, 1, 1, 0, 1, 0, 0, 1, 0, 0, 1, 1, 0, 1, 0, 1] ⟨⟨89, f⟩, []⟩ M Q
def P_fettleref4_one_6 (x2 x6 : Value) (M : Store) (Q : Value → Store → Prop) : Prop :=
  ∀ f : Nat → Value, f 2 = x2 → f 6 = x6 → At Tryd.prog Ex none Tryd.f32 [1, 1, 1, 0, 1, 0, 0, 1, 0, 0, 1, 1, 1] ⟨⟨89, f⟩, []⟩ M Q
def P_fettleref4_one_7 (x0 x2 x6 x61 : Value) (M : Store) (Q : Value → Store → Prop) : Prop :=
  ∀ f : Nat → Value, f 0 = x0 → f 2 = x2 → f 6 = x6 → f 61 = x61 → At Tryd.prog Ex none Tryd.f32 [1, 1, 1, 0, 1, 0, 0, 1, 0, 0, 1, 1, 0, 1, 0, 1, 1, 1] ⟨⟨89, f⟩, []⟩ M Q
def S_fettleref4_one (x0 : Value) (M : Store) (Q : Value → Store → Prop) : Prop :=
  LT (.pointer (some ⟨M.n, 0, none⟩)) (M.push (some (.inl ([(.int .i64 0), (.int .i64 0), (.string ⟨#[]⟩)], Ty.api_Do, true)))) fun t2 M1 =>
  OP (lenV x0) fun t10 =>
  OP (binI .eql t10 (.int .i64 0)) fun t11 =>
  BR t11 (
  OP (bldS #[(.int .i64 0), (.int .i64 0), (.string ⟨#[]⟩)] [(0, 1), (1, 1), (2, 1)] []) fun t18 =>
  OP (st 3 t2 t18 M1) fun M2 =>
  OP (ld 3 true t2 M2) fun r2 =>
  NTs [r2, (.bool false)] ∧ Q (.tuple #[r2, (.bool false)]) M2
  ) (
  OP (ixA 4 x0 (.int .i64 0)) fun t14 =>
  OP (fad 3 t14) fun t15 =>
  OP (ld 1 false t15 M1) fun t16 =>
  BR t16 (
  OP (bldS #[(.int .i64 0), (.int .i64 0), (.string ⟨#[]⟩)] [(0, 1), (1, 1), (2, 1)] []) fun t18_1 =>
  OP (st 3 t2 t18_1 M1) fun M3 =>
  OP (ld 3 true t2 M3) fun r2_1 =>
  NTs [r2_1, (.bool false)] ∧ Q (.tuple #[r2_1, (.bool false)]) M3
  ) (
  R F.fettleref4_words #[] M1 fun t19 M4 =>
  P_fettleref4_one_1 x0 t2 t19 (.int .i64 1) M4 Q
  )
  )
theorem T_fettleref4_one {x0 : Value} {M : Store} {Q : Value → Store → Prop} (h : S_fettleref4_one x0 M Q) : R F.fettleref4_one #[x0] M Q := by
  refine runs_of (c := bodyOf Tryd.f32) Tryd.func32 rfl (by kernel_rfl) (by kernel_rfl) ?_
  unfold At
  exact rule (B := 1000) (N := 89) (ct := (.two .no (.two .no (.two .no (.two (.two .no (.two (.here 1000) .no)) (.here 1001))))))
    [⟨1002, fun a M => dfr a.defers (P_fettleref4_one_1 (a.get 0) (a.get 2) (a.get 4) (a.get 5) M Q), fun a M => At Tryd.prog Ex none Tryd.f32 [1, 1, 1, 0, 1, 0] a M Q⟩,
    ⟨1003, fun _ _ => False, fun a M => At Tryd.prog Ex none Tryd.f32 [1, 1, 1, 1] a M Q⟩,
    ⟨1, fun a M => kfin Tryd.prog Tryd.f32.results.toList Q 1 a M, fun a M => kfin Tryd.prog Tryd.f32.results.toList Q 1 a M⟩]
    [1000, 1001] [1] (by kernel_rfl) (by kernel_rfl) (by kernel_rfl) (by kernel_rfl) (by kernel_rfl)
    ⟨fun a M hn h => by obtain ⟨⟨n, f⟩, ds⟩ := a; have hn : n = 89 := hn; subst hn; obtain ⟨hd, h⟩ := dfr_iff h; have hd : ds = [] := hd; subst hd; exact h f rfl rfl rfl rfl,
    fun _ _ _ h => h.elim,
    fun _ _ _ h => h,
    trivial⟩
    (cast (by kernel_rfl) h)
def S_fettleref4_one_1 (x0 x2 x4 x5 : Value) (M : Store) (Q : Value → Store → Prop) : Prop :=
  OP (lenV x4) fun t22 =>
  OP (binI .lss x5 t22) fun t23 =>
  BR t23 (
  P_fettleref4_one_2 x0 x2 x4 x5 M Q
  ) (
  P_fettleref4_one_3 x2 M Q
  )
theorem T_fettleref4_one_1 {x0 x2 x4 x5 : Value} {M : Store} {Q : Value → Store → Prop} (h : S_fettleref4_one_1 x0 x2 x4 x5 M Q) : P_fettleref4_one_1 x0 x2 x4 x5 M Q := by
  intro f h0 h2 h4 h5; subst h0; subst h2; subst h4; subst h5
  unfold At
  refine cast (by kernel_rfl) (CW.loop (P := Tryd.prog) (E := Ex) (rd := none) (x := sub (bodyOf Tryd.f32) [1, 1, 1, 0, 1, 0, 0]) (a := ⟨⟨89, f⟩, []⟩) (M := M) (K := kcont Tryd.prog Ex none (bodyOf Tryd.f32) [1, 1, 1, 0, 1, 0] (kfin Tryd.prog Tryd.f32.results.toList Q)) ?_)
  exact rule (B := 1000) (N := 89) (ct := (.two .no (.here 1000)))
    [⟨1002, fun a M => dfr a.defers (P_fettleref4_one_2 (a.get 0) (a.get 2) (a.get 4) (a.get 5) M Q), fun a M => At Tryd.prog Ex none Tryd.f32 [1, 1, 1, 0, 1, 0, 0, 1] a M Q⟩,
    ⟨2, fun a M => dfr a.defers (P_fettleref4_one_3 (a.get 2) M Q), fun a M => At Tryd.prog Ex none Tryd.f32 [1, 1, 1, 1] a M Q⟩]
    [1000] [2] (by kernel_rfl) (by kernel_rfl) (by kernel_rfl) (by kernel_rfl) (by kernel_rfl)
    ⟨fun a M hn h => by obtain ⟨⟨n, f⟩, ds⟩ := a; have hn : n = 89 := hn; subst hn; obtain ⟨hd, h⟩ := dfr_iff h; have hd : ds = [] := hd; subst hd; exact h f rfl rfl rfl rfl,
    fun a M hn h => by obtain ⟨⟨n, f⟩, ds⟩ := a; have hn : n = 89 := hn; subst hn; obtain ⟨hd, h⟩ := dfr_iff h; have hd : ds = [] := hd; subst hd; exact h f rfl,
    trivial⟩
    (cast (by kernel_rfl) h)
def S_fettleref4_one_2 (x0 x2 x4 x5 : Value) (M : Store) (Q : Value → Store → Prop) : Prop :=
  OP (ixA 1 x4 x5) fun t28 =>
  OP (ld 1 false t28 M) fun t29 =>
  OP (ixA 4 x0 (.int .i64 0)) fun t31 =>
  OP (fad 0 t31) fun t32 =>
  OP (ld 1 false t32 M) fun t33 =>
  OP (binS .neq t29 t33) fun t34 =>
  BR t34 (
  OP (binI .add x5 (.int .i64 1)) fun t25 =>
  P_fettleref4_one_1 x0 x2 x4 t25 M Q
  ) (
  P_fettleref4_one_4 x0 x2 x5 M Q
  )
theorem T_fettleref4_one_2 {x0 x2 x4 x5 : Value} {M : Store} {Q : Value → Store → Prop} (h : S_fettleref4_one_2 x0 x2 x4 x5 M Q) : P_fettleref4_one_2 x0 x2 x4 x5 M Q := by
  intro f h0 h2 h4 h5; subst h0; subst h2; subst h4; subst h5
  unfold At
  exact rule (B := 1000) (N := 89) (ct := (.two (.two (.two .no (.here 1000)) .no) .no))
    [⟨1002, fun a M => dfr a.defers (P_fettleref4_one_4 (a.get 0) (a.get 2) (a.get 5) M Q), fun a M => At Tryd.prog Ex none Tryd.f32 [1, 1, 1, 0, 1, 0, 0, 1, 0, 0, 1] a M Q⟩,
    ⟨0, fun a M => dfr a.defers (P_fettleref4_one_1 (a.get 0) (a.get 2) (a.get 4) (a.get 5) M Q), fun a M => At Tryd.prog Ex none Tryd.f32 [1, 1, 1, 0, 1, 0] a M Q⟩]
    [1000] [0] (by kernel_rfl) (by kernel_rfl) (by kernel_rfl) (by kernel_rfl) (by kernel_rfl)
    ⟨fun a M hn h => by obtain ⟨⟨n, f⟩, ds⟩ := a; have hn : n = 89 := hn; subst hn; obtain ⟨hd, h⟩ := dfr_iff h; have hd : ds = [] := hd; subst hd; exact h f rfl rfl rfl,
    fun a M hn h => by obtain ⟨⟨n, f⟩, ds⟩ := a; have hn : n = 89 := hn; subst hn; obtain ⟨hd, h⟩ := dfr_iff h; have hd : ds = [] := hd; subst hd; exact h f rfl rfl rfl rfl,
    trivial⟩
    (cast (by kernel_rfl) h)
def S_fettleref4_one_3 (x2 : Value) (M : Store) (Q : Value → Store → Prop) : Prop :=
  OP (bldS #[(.int .i64 0), (.int .i64 0), (.string ⟨#[]⟩)] [(0, 1), (1, 1), (2, 1)] []) fun t88 =>
  OP (st 3 x2 t88 M) fun M1 =>
  OP (ld 3 true x2 M1) fun r2 =>
  NTs [r2, (.bool false)] ∧ Q (.tuple #[r2, (.bool false)]) M1
theorem T_fettleref4_one_3 {x2 : Value} {M : Store} {Q : Value → Store → Prop} (h : S_fettleref4_one_3 x2 M Q) : P_fettleref4_one_3 x2 M Q := by
  intro f h2; subst h2
  unfold At
  exact rule (B := 1000) (N := 89) (ct := .no)
    [⟨1, fun a M => kfin Tryd.prog Tryd.f32.results.toList Q 1 a M, fun a M => kfin Tryd.prog Tryd.f32.results.toList Q 1 a M⟩]
    [] [1] (by kernel_rfl) (by kernel_rfl) (by kernel_rfl) (by kernel_rfl) (by kernel_rfl)
    ⟨fun _ _ _ h => h,
    trivial⟩
    (cast (by kernel_rfl) h)
def S_fettleref4_one_4 (x0 x2 x5 : Value) (M : Store) (Q : Value → Store → Prop) : Prop :=
  OP (bldS #[(.int .i64 0), (.int .i64 0), (.string ⟨#[]⟩)] [(0, 1), (1, 1), (2, 1)] [(0, x5)]) fun t36 =>
  LT (.pointer (some ⟨M.n, 0, none⟩)) (M.push (some (.inl ([(.int .i64 0), (.int .i64 0), (.string ⟨#[]⟩)], Ty.api_Do, true)))) fun t6 M1 =>
  OP (st 3 t6 t36 M1) fun M2 =>
  OP (binI .eql x5 (.int .i64 1)) fun t43 =>
  BR t43 (
  P_fettleref4_one_5 x0 x2 t6 x5 t43 M2 Q
  ) (
  OP (binI .eql x5 (.int .i64 10)) fun t44 =>
  P_fettleref4_one_5 x0 x2 t6 x5 t44 M2 Q
  )
theorem T_fettleref4_one_4 {x0 x2 x5 : Value} {M : Store} {Q : Value → Store → Prop} (h : S_fettleref4_one_4 x0 x2 x5 M Q) : P_fettleref4_one_4 x0 x2 x5 M Q := by
  intro f h0 h2 h5; subst h0; subst h2; subst h5
  unfold At
  exact rule (B := 1000) (N := 89) (ct := (.two .no (.two (.two .no (.two (.two .no (.here 1000)) .no)) (.here 1001))))
    [⟨1002, fun a M => dfr a.defers (P_fettleref4_one_5 (a.get 0) (a.get 2) (a.get 6) (a.get 37) (a.get 42) M Q), fun a M => At Tryd.prog Ex none Tryd.f32 [1, 1, 1, 0, 1, 0, 0, 1, 0, 0, 1, 1, 0, 1, 0, 1] a M Q⟩,
    ⟨1003, fun _ _ => False, fun a M => At Tryd.prog Ex none Tryd.f32 [1, 1, 1, 0, 1, 0, 0, 1, 0, 0, 1, 1, 1] a M Q⟩]
    [1000, 1001] [] (by kernel_rfl) (by kernel_rfl) (by kernel_rfl) (by kernel_rfl) (by kernel_rfl)
    ⟨fun a M hn h => by obtain ⟨⟨n, f⟩, ds⟩ := a; have hn : n = 89 := hn; subst hn; obtain ⟨hd, h⟩ := dfr_iff h; have hd : ds = [] := hd; subst hd; exact h f rfl rfl rfl rfl rfl,
    fun _ _ _ h => h.elim,
    trivial⟩
    (cast (by kernel_rfl) h)
def S_fettleref4_one_5 (x0 x2 x6 x37 x42 : Value) (M : Store) (Q : Value → Store → Prop) : Prop :=
  BR x42 (
  OP (lenV x0) fun t46 =>
  OP (binI .neq t46 (.int .i64 2)) fun t47 =>
  BR t47 (
  OP (bldS #[(.int .i64 0), (.int .i64 0), (.string ⟨#[]⟩)] [(0, 1), (1, 1), (2, 1)] []) fun t55 =>
  OP (st 3 x2 t55 M) fun M1 =>
  OP (ld 3 true x2 M1) fun r2 =>
  NTs [r2, (.bool false)] ∧ Q (.tuple #[r2, (.bool false)]) M1
  ) (
  OP (ixA 4 x0 (.int .i64 1)) fun t50 =>
  OP (fad 3 t50) fun t51 =>
  OP (ld 1 false t51 M) fun t52 =>
  OP (aun .not t52) fun t53 =>
  BR t53 (
  OP (bldS #[(.int .i64 0), (.int .i64 0), (.string ⟨#[]⟩)] [(0, 1), (1, 1), (2, 1)] []) fun t55_1 =>
  OP (st 3 x2 t55_1 M) fun M2 =>
  OP (ld 3 true x2 M2) fun r2_1 =>
  NTs [r2_1, (.bool false)] ∧ Q (.tuple #[r2_1, (.bool false)]) M2
  ) (
  OP (ixA 4 x0 (.int .i64 1)) fun t57 =>
  OP (fad 0 t57) fun t58 =>
  OP (ld 1 false t58 M) fun t59 =>
  OP (fad 2 x6) fun t60 =>
  OP (st 1 t60 t59 M) fun M3 =>
  P_fettleref4_one_6 x2 x6 M3 Q
  )
  )
  ) (
  OP (binI .eql x37 (.int .i64 2)) fun t62 =>
  BR t62 (
  P_fettleref4_one_7 x0 x2 x6 t62 M Q
  ) (
  OP (binI .eql x37 (.int .i64 7)) fun t63 =>
  BR t63 (
  P_fettleref4_one_7 x0 x2 x6 t63 M Q
  ) (
  OP (binI .eql x37 (.int .i64 8)) fun t64 =>
  P_fettleref4_one_7 x0 x2 x6 t64 M Q
  )
  )
  )
theorem T_fettleref4_one_5 {x0 x2 x6 x37 x42 : Value} {M : Store} {Q : Value → Store → Prop} (h : S_fettleref4_one_5 x0 x2 x6 x37 x42 M Q) : P_fettleref4_one_5 x0 x2 x6 x37 x42 M Q := by
  intro f h0 h2 h6 h37 h42; subst h0; subst h2; subst h6; subst h37; subst h42
  unfold At
  exact rule (B := 1000) (N := 89) (ct := (.two .no (.two .no (.here 1000))))
    [⟨1002, fun a M => dfr a.defers (P_fettleref4_one_7 (a.get 0) (a.get 2) (a.get 6) (a.get 61) M Q), fun a M => At Tryd.prog Ex none Tryd.f32 [1, 1, 1, 0, 1, 0, 0, 1, 0, 0, 1, 1, 0, 1, 0, 1, 1, 1] a M Q⟩,
    ⟨0, fun a M => dfr a.defers (P_fettleref4_one_6 (a.get 2) (a.get 6) M Q), fun a M => At Tryd.prog Ex none Tryd.f32 [1, 1, 1, 0, 1, 0, 0, 1, 0, 0, 1, 1, 1] a M Q⟩,
    ⟨1, fun a M => kfin Tryd.prog Tryd.f32.results.toList Q 1 a M, fun a M => kfin Tryd.prog Tryd.f32.results.toList Q 1 a M⟩]
    [1000] [0, 1] (by kernel_rfl) (by kernel_rfl) (by kernel_rfl) (by kernel_rfl) (by kernel_rfl)
    ⟨fun a M hn h => by obtain ⟨⟨n, f⟩, ds⟩ := a; have hn : n = 89 := hn; subst hn; obtain ⟨hd, h⟩ := dfr_iff h; have hd : ds = [] := hd; subst hd; exact h f rfl rfl rfl rfl,
    fun a M hn h => by obtain ⟨⟨n, f⟩, ds⟩ := a; have hn : n = 89 := hn; subst hn; obtain ⟨hd, h⟩ := dfr_iff h; have hd : ds = [] := hd; subst hd; exact h f rfl rfl,
    fun _ _ _ h => h,
    trivial⟩
    (cast (by kernel_rfl) h)
def S_fettleref4_one_6 (x2 x6 : Value) (M : Store) (Q : Value → Store → Prop) : Prop :=
  OP (ld 3 true x6 M) fun t87 =>
  OP (st 3 x2 t87 M) fun M1 =>
  OP (ld 3 true x2 M1) fun r2 =>
  NTs [r2, (.bool true)] ∧ Q (.tuple #[r2, (.bool true)]) M1
theorem T_fettleref4_one_6 {x2 x6 : Value} {M : Store} {Q : Value → Store → Prop} (h : S_fettleref4_one_6 x2 x6 M Q) : P_fettleref4_one_6 x2 x6 M Q := by
  intro f h2 h6; subst h2; subst h6
  unfold At
  exact rule (B := 1000) (N := 89) (ct := .no)
    [⟨1, fun a M => kfin Tryd.prog Tryd.f32.results.toList Q 1 a M, fun a M => kfin Tryd.prog Tryd.f32.results.toList Q 1 a M⟩]
    [] [1] (by kernel_rfl) (by kernel_rfl) (by kernel_rfl) (by kernel_rfl) (by kernel_rfl)
    ⟨fun _ _ _ h => h,
    trivial⟩
    (cast (by kernel_rfl) h)
def S_fettleref4_one_7 (x0 x2 x6 x61 : Value) (M : Store) (Q : Value → Store → Prop) : Prop :=
  BR x61 (
  OP (lenV x0) fun t66 =>
  OP (binI .neq t66 (.int .i64 2)) fun t67 =>
  BR t67 (
  OP (bldS #[(.int .i64 0), (.int .i64 0), (.string ⟨#[]⟩)] [(0, 1), (1, 1), (2, 1)] []) fun t74 =>
  OP (st 3 x2 t74 M) fun M1 =>
  OP (ld 3 true x2 M1) fun r2 =>
  NTs [r2, (.bool false)] ∧ Q (.tuple #[r2, (.bool false)]) M1
  ) (
  OP (ixA 4 x0 (.int .i64 1)) fun t70 =>
  OP (fad 3 t70) fun t71 =>
  OP (ld 1 false t71 M) fun t72 =>
  BR t72 (
  OP (bldS #[(.int .i64 0), (.int .i64 0), (.string ⟨#[]⟩)] [(0, 1), (1, 1), (2, 1)] []) fun t74_1 =>
  OP (st 3 x2 t74_1 M) fun M2 =>
  OP (ld 3 true x2 M2) fun r2_1 =>
  NTs [r2_1, (.bool false)] ∧ Q (.tuple #[r2_1, (.bool false)]) M2
  ) (
  OP (ixA 4 x0 (.int .i64 1)) fun t77 =>
  OP (fad 0 t77) fun t78 =>
  OP (ld 1 false t78 M) fun t79 =>
  R F.fettleref4_Number #[t79, (.int .i64 9)] M fun t80 M3 =>
  OP (tup t80 0) fun t81 =>
  OP (tup t80 1) fun t82 =>
  OP (fad 1 x6) fun t84 =>
  OP (st 1 t84 t81 M3) fun M4 =>
  OP (ld 3 true x6 M4) fun t85 =>
  OP (st 3 x2 t85 M4) fun M5 =>
  OP (ld 3 true x2 M5) fun r2_2 =>
  NTs [r2_2, t82] ∧ Q (.tuple #[r2_2, t82]) M5
  )
  )
  ) (
  OP (ld 3 true x6 M) fun t38 =>
  OP (lenV x0) fun t40 =>
  OP (binI .eql t40 (.int .i64 1)) fun t41 =>
  OP (st 3 x2 t38 M) fun M6 =>
  OP (ld 3 true x2 M6) fun r2_3 =>
  NTs [r2_3, t41] ∧ Q (.tuple #[r2_3, t41]) M6
  )
theorem T_fettleref4_one_7 {x0 x2 x6 x61 : Value} {M : Store} {Q : Value → Store → Prop} (h : S_fettleref4_one_7 x0 x2 x6 x61 M Q) : P_fettleref4_one_7 x0 x2 x6 x61 M Q := by
  intro f h0 h2 h6 h61; subst h0; subst h2; subst h6; subst h61
  unfold At
  exact rule (B := 1000) (N := 89) (ct := .no)
    [⟨1, fun a M => kfin Tryd.prog Tryd.f32.results.toList Q 1 a M, fun a M => kfin Tryd.prog Tryd.f32.results.toList Q 1 a M⟩]
    [] [1] (by kernel_rfl) (by kernel_rfl) (by kernel_rfl) (by kernel_rfl) (by kernel_rfl)
    ⟨fun _ _ _ h => h,
    trivial⟩
    (cast (by kernel_rfl) h)
def P_slices_Index_sl_string_string_1 (x0 x1 x7 x8 : Value) (M : Store) (Q : Value → Store → Prop) : Prop :=
  ∀ f : Nat → Value, f 0 = x0 → f 1 = x1 → f 7 = x7 → f 8 = x8 → At Tryd.prog Ex none Tryd.f44 [1, 0, 1, 0] ⟨⟨19, f⟩, []⟩ M Q
def P_slices_Index_sl_string_string_2 (M : Store) (Q : Value → Store → Prop) : Prop :=
  ∀ f : Nat → Value, At Tryd.prog Ex none Tryd.f44 [1, 1] ⟨⟨19, f⟩, []⟩ M Q
def S_slices_Index_sl_string_string (x0 x1 : Value) (M : Store) (Q : Value → Store → Prop) : Prop :=
  OP (lenV x0) fun t7 =>
  P_slices_Index_sl_string_string_1 x0 x1 t7 (.int .i64 0) M Q
theorem T_slices_Index_sl_string_string {x0 x1 : Value} {M : Store} {Q : Value → Store → Prop} (h : S_slices_Index_sl_string_string x0 x1 M Q) : R F.slices_Index_sl_string_string #[x0, x1] M Q := by
  refine runs_of (c := bodyOf Tryd.f44) Tryd.func44 rfl (by kernel_rfl) (by kernel_rfl) ?_
  unfold At
  exact rule (B := 1000) (N := 19) (ct := (.two .no (.two (.two .no (.two (.here 1000) .no)) (.here 1001))))
    [⟨1002, fun a M => dfr a.defers (P_slices_Index_sl_string_string_1 (a.get 0) (a.get 1) (a.get 7) (a.get 8) M Q), fun a M => At Tryd.prog Ex none Tryd.f44 [1, 0, 1, 0] a M Q⟩,
    ⟨1003, fun _ _ => False, fun a M => At Tryd.prog Ex none Tryd.f44 [1, 1] a M Q⟩]
    [1000, 1001] [] (by kernel_rfl) (by kernel_rfl) (by kernel_rfl) (by kernel_rfl) (by kernel_rfl)
    ⟨fun a M hn h => by obtain ⟨⟨n, f⟩, ds⟩ := a; have hn : n = 19 := hn; subst hn; obtain ⟨hd, h⟩ := dfr_iff h; have hd : ds = [] := hd; subst hd; exact h f rfl rfl rfl rfl,
    fun _ _ _ h => h.elim,
    trivial⟩
    (cast (by kernel_rfl) h)
def S_slices_Index_sl_string_string_1 (x0 x1 x7 x8 : Value) (M : Store) (Q : Value → Store → Prop) : Prop :=
  OP (binI .lss x8 x7) fun t9 =>
  BR t9 (
  OP (ixA 1 x0 x8) fun t14 =>
  OP (ld 1 false t14 M) fun t15 =>
  OP (binS .eql x1 t15) fun t16 =>
  BR t16 (
  NTs [x8] ∧ Q x8 M
  ) (
  OP (binI .add x8 (.int .i64 1)) fun t18 =>
  P_slices_Index_sl_string_string_1 x0 x1 x7 t18 M Q
  )
  ) (
  P_slices_Index_sl_string_string_2 M Q
  )
theorem T_slices_Index_sl_string_string_1 {x0 x1 x7 x8 : Value} {M : Store} {Q : Value → Store → Prop} (h : S_slices_Index_sl_string_string_1 x0 x1 x7 x8 M Q) : P_slices_Index_sl_string_string_1 x0 x1 x7 x8 M Q := by
  intro f h0 h1 h7 h8; subst h0; subst h1; subst h7; subst h8
  unfold At
  refine cast (by kernel_rfl) (CW.loop (P := Tryd.prog) (E := Ex) (rd := none) (x := sub (bodyOf Tryd.f44) [1, 0, 1, 0, 0]) (a := ⟨⟨19, f⟩, []⟩) (M := M) (K := kcont Tryd.prog Ex none (bodyOf Tryd.f44) [1, 0, 1, 0] (kfin Tryd.prog Tryd.f44.results.toList Q)) ?_)
  exact rule (B := 1000) (N := 19) (ct := .no)
    [⟨0, fun a M => dfr a.defers (P_slices_Index_sl_string_string_1 (a.get 0) (a.get 1) (a.get 7) (a.get 8) M Q), fun a M => At Tryd.prog Ex none Tryd.f44 [1, 0, 1, 0] a M Q⟩,
    ⟨1, fun a M => kfin Tryd.prog Tryd.f44.results.toList Q 1 a M, fun a M => kfin Tryd.prog Tryd.f44.results.toList Q 1 a M⟩,
    ⟨2, fun a M => dfr a.defers (P_slices_Index_sl_string_string_2 M Q), fun a M => At Tryd.prog Ex none Tryd.f44 [1, 1] a M Q⟩]
    [] [0, 1, 2] (by kernel_rfl) (by kernel_rfl) (by kernel_rfl) (by kernel_rfl) (by kernel_rfl)
    ⟨fun a M hn h => by obtain ⟨⟨n, f⟩, ds⟩ := a; have hn : n = 19 := hn; subst hn; obtain ⟨hd, h⟩ := dfr_iff h; have hd : ds = [] := hd; subst hd; exact h f rfl rfl rfl rfl,
    fun _ _ _ h => h,
    fun a M hn h => by obtain ⟨⟨n, f⟩, ds⟩ := a; have hn : n = 19 := hn; subst hn; obtain ⟨hd, h⟩ := dfr_iff h; have hd : ds = [] := hd; subst hd; exact h f,
    trivial⟩
    (cast (by kernel_rfl) h)
def S_slices_Index_sl_string_string_2 (M : Store) (Q : Value → Store → Prop) : Prop :=
  NTs [(.int .i64 (-1))] ∧ Q (.int .i64 (-1)) M
theorem T_slices_Index_sl_string_string_2 {M : Store} {Q : Value → Store → Prop} (h : S_slices_Index_sl_string_string_2 M Q) : P_slices_Index_sl_string_string_2 M Q := by
  intro f 
  unfold At
  exact rule (B := 1000) (N := 19) (ct := .no)
    [⟨1, fun a M => kfin Tryd.prog Tryd.f44.results.toList Q 1 a M, fun a M => kfin Tryd.prog Tryd.f44.results.toList Q 1 a M⟩]
    [] [1] (by kernel_rfl) (by kernel_rfl) (by kernel_rfl) (by kernel_rfl) (by kernel_rfl)
    ⟨fun _ _ _ h => h,
    trivial⟩
    (cast (by kernel_rfl) h)
def S_acts_words (M : Store) (Q : Value → Store → Prop) : Prop :=
  OP (bldL (.string ⟨#[]⟩) 1 12 [(0, (.string ⟨#[]⟩)), (1, (.string ⟨#[116, 101, 120, 116]⟩)), (2, (.string ⟨#[105, 110]⟩)), (3, (.string ⟨#[97, 108, 108]⟩)), (4, (.string ⟨#[117, 112, 112, 101, 114]⟩)), (5, (.string ⟨#[108, 111, 119, 101, 114]⟩)), (6, (.string ⟨#[114, 101, 118]⟩)), (7, (.string ⟨#[116, 97, 107, 101]⟩)), (8, (.string ⟨#[100, 114, 111, 112]⟩)), (9, (.string ⟨#[116, 119, 105, 99, 101]⟩)), (10, (.string ⟨#[106, 111, 105, 110]⟩)), (11, (.string ⟨#[102, 97, 105, 108]⟩))]) fun c =>
  LT (.slice (some ⟨M.n, 0, none⟩) 12 12) (M.push (some (.inl (c, Ty.string, true)))) fun t1 M1 =>
  NTs [t1] ∧ Q t1 M1
theorem T_acts_words {M : Store} {Q : Value → Store → Prop} (h : S_acts_words M Q) : R F.acts_words #[] M Q := by
  refine runs_of (c := bodyOf Tryd.f45) Tryd.func45 rfl (by kernel_rfl) (by kernel_rfl) ?_
  unfold At
  exact rule (B := 1000) (N := 2) (ct := .no)
    [⟨1, fun a M => kfin Tryd.prog Tryd.f45.results.toList Q 1 a M, fun a M => kfin Tryd.prog Tryd.f45.results.toList Q 1 a M⟩]
    [] [1] (by kernel_rfl) (by kernel_rfl) (by kernel_rfl) (by kernel_rfl) (by kernel_rfl)
    ⟨fun _ _ _ h => h,
    trivial⟩
    (cast (by kernel_rfl) h)
def S_acts_num (x0 : Value) (M : Store) (Q : Value → Store → Prop) : Prop :=
  R F.strconv_Atoi #[x0] M fun t7 M1 =>
  OP (tup t7 0) fun t8 =>
  OP (tup t7 1) fun t9 =>
  OP (abin Tryd.prog true .neq Ty.error_t t9 .nilIface) fun t11 =>
  BR t11 (
  NTs [(.int .i64 (-1))] ∧ Q (.int .i64 (-1)) M1
  ) (
  R F.strconv_Itoa #[t8] M1 fun t14 M2 =>
  OP (binS .neq t14 x0) fun t16 =>
  BR t16 (
  NTs [(.int .i64 (-1))] ∧ Q (.int .i64 (-1)) M2
  ) (
  NTs [t8] ∧ Q t8 M2
  )
  )
theorem T_acts_num {x0 : Value} {M : Store} {Q : Value → Store → Prop} (h : S_acts_num x0 M Q) : R F.acts_num #[x0] M Q := by
  refine runs_of (c := bodyOf Tryd.f48) Tryd.func48 rfl (by kernel_rfl) (by kernel_rfl) ?_
  unfold At
  exact rule (B := 1000) (N := 19) (ct := .no)
    [⟨1, fun a M => kfin Tryd.prog Tryd.f48.results.toList Q 1 a M, fun a M => kfin Tryd.prog Tryd.f48.results.toList Q 1 a M⟩]
    [] [1] (by kernel_rfl) (by kernel_rfl) (by kernel_rfl) (by kernel_rfl) (by kernel_rfl)
    ⟨fun _ _ _ h => h,
    trivial⟩
    (cast (by kernel_rfl) h)
def S_fettleref4_words (M : Store) (Q : Value → Store → Prop) : Prop :=
  OP (bldL (.string ⟨#[]⟩) 1 12 [(0, (.string ⟨#[]⟩)), (1, (.string ⟨#[116, 101, 120, 116]⟩)), (2, (.string ⟨#[105, 110]⟩)), (3, (.string ⟨#[97, 108, 108]⟩)), (4, (.string ⟨#[117, 112, 112, 101, 114]⟩)), (5, (.string ⟨#[108, 111, 119, 101, 114]⟩)), (6, (.string ⟨#[114, 101, 118]⟩)), (7, (.string ⟨#[116, 97, 107, 101]⟩)), (8, (.string ⟨#[100, 114, 111, 112]⟩)), (9, (.string ⟨#[116, 119, 105, 99, 101]⟩)), (10, (.string ⟨#[106, 111, 105, 110]⟩)), (11, (.string ⟨#[102, 97, 105, 108]⟩))]) fun c =>
  LT (.slice (some ⟨M.n, 0, none⟩) 12 12) (M.push (some (.inl (c, Ty.string, true)))) fun t1 M1 =>
  NTs [t1] ∧ Q t1 M1
theorem T_fettleref4_words {M : Store} {Q : Value → Store → Prop} (h : S_fettleref4_words M Q) : R F.fettleref4_words #[] M Q := by
  refine runs_of (c := bodyOf Tryd.f49) Tryd.func49 rfl (by kernel_rfl) (by kernel_rfl) ?_
  unfold At
  exact rule (B := 1000) (N := 2) (ct := .no)
    [⟨1, fun a M => kfin Tryd.prog Tryd.f49.results.toList Q 1 a M, fun a M => kfin Tryd.prog Tryd.f49.results.toList Q 1 a M⟩]
    [] [1] (by kernel_rfl) (by kernel_rfl) (by kernel_rfl) (by kernel_rfl) (by kernel_rfl)
    ⟨fun _ _ _ h => h,
    trivial⟩
    (cast (by kernel_rfl) h)
def P_fettleref4_Number_1 (x0 x1 x6 x7 : Value) (M : Store) (Q : Value → Store → Prop) : Prop :=
  ∀ f : Nat → Value, f 0 = x0 → f 1 = x1 → f 6 = x6 → f 7 = x7 → At Tryd.prog Ex none Tryd.f50 [1, 1, 0, 1, 0] ⟨⟨49, f⟩, []⟩ M Q
def P_fettleref4_Number_2 (x0 x1 x6 x7 : Value) (M : Store) (Q : Value → Store → Prop) : Prop :=
  ∀ f : Nat → Value, f 0 = x0 → f 1 = x1 → f 6 = x6 → f 7 = x7 → At Tryd.prog Ex none Tryd.f50 [1, 1, 0, 1, 0, 0, 1] ⟨⟨49, f⟩, []⟩ M Q
def P_fettleref4_Number_3 (x0 x6 : Value) (M : Store) (Q : Value → Store → Prop) : Prop :=
  ∀ f : Nat → Value, f 0 = x0 → f 6 = x6 → At Tryd.prog Ex none Tryd.f50 [1, 1, 1] ⟨⟨49, f⟩, []⟩ M Q
def S_fettleref4_Number (x0 x1 : Value) (M : Store) (Q : Value → Store → Prop) : Prop :=
  P_fettleref4_Number_1 x0 x1 (.int .i64 0) (.int .i64 0) M Q
theorem T_fettleref4_Number {x0 x1 : Value} {M : Store} {Q : Value → Store → Prop} (h : S_fettleref4_Number x0 x1 M Q) : R F.fettleref4_Number #[x0, x1] M Q := by
  refine runs_of (c := bodyOf Tryd.f50) Tryd.func50 rfl (by kernel_rfl) (by kernel_rfl) ?_
  unfold At
  exact rule (B := 1000) (N := 49) (ct := (.two .no (.two .no (.two (.two .no (.two (.here 1000) .no)) (.here 1001)))))
    [⟨1002, fun a M => dfr a.defers (P_fettleref4_Number_1 (a.get 0) (a.get 1) (a.get 6) (a.get 7) M Q), fun a M => At Tryd.prog Ex none Tryd.f50 [1, 1, 0, 1, 0] a M Q⟩,
    ⟨1003, fun _ _ => False, fun a M => At Tryd.prog Ex none Tryd.f50 [1, 1, 1] a M Q⟩]
    [1000, 1001] [] (by kernel_rfl) (by kernel_rfl) (by kernel_rfl) (by kernel_rfl) (by kernel_rfl)
    ⟨fun a M hn h => by obtain ⟨⟨n, f⟩, ds⟩ := a; have hn : n = 49 := hn; subst hn; obtain ⟨hd, h⟩ := dfr_iff h; have hd : ds = [] := hd; subst hd; exact h f rfl rfl rfl rfl,
    fun _ _ _ h => h.elim,
    trivial⟩
    (cast (by kernel_rfl) h)
def S_fettleref4_Number_1 (x0 x1 x6 x7 : Value) (M : Store) (Q : Value → Store → Prop) : Prop :=
  OP (lenS x0) fun t10 =>
  OP (binI .lss x7 t10) fun t11 =>
  BR t11 (
  P_fettleref4_Number_2 x0 x1 x6 x7 M Q
  ) (
  P_fettleref4_Number_3 x0 x6 M Q
  )
theorem T_fettleref4_Number_1 {x0 x1 x6 x7 : Value} {M : Store} {Q : Value → Store → Prop} (h : S_fettleref4_Number_1 x0 x1 x6 x7 M Q) : P_fettleref4_Number_1 x0 x1 x6 x7 M Q := by
  intro f h0 h1 h6 h7; subst h0; subst h1; subst h6; subst h7
  unfold At
  refine cast (by kernel_rfl) (CW.loop (P := Tryd.prog) (E := Ex) (rd := none) (x := sub (bodyOf Tryd.f50) [1, 1, 0, 1, 0, 0]) (a := ⟨⟨49, f⟩, []⟩) (M := M) (K := kcont Tryd.prog Ex none (bodyOf Tryd.f50) [1, 1, 0, 1, 0] (kfin Tryd.prog Tryd.f50.results.toList Q)) ?_)
  exact rule (B := 1000) (N := 49) (ct := (.two .no (.here 1000)))
    [⟨1002, fun a M => dfr a.defers (P_fettleref4_Number_2 (a.get 0) (a.get 1) (a.get 6) (a.get 7) M Q), fun a M => At Tryd.prog Ex none Tryd.f50 [1, 1, 0, 1, 0, 0, 1] a M Q⟩,
    ⟨2, fun a M => dfr a.defers (P_fettleref4_Number_3 (a.get 0) (a.get 6) M Q), fun a M => At Tryd.prog Ex none Tryd.f50 [1, 1, 1] a M Q⟩]
    [1000] [2] (by kernel_rfl) (by kernel_rfl) (by kernel_rfl) (by kernel_rfl) (by kernel_rfl)
    ⟨fun a M hn h => by obtain ⟨⟨n, f⟩, ds⟩ := a; have hn : n = 49 := hn; subst hn; obtain ⟨hd, h⟩ := dfr_iff h; have hd : ds = [] := hd; subst hd; exact h f rfl rfl rfl rfl,
    fun a M hn h => by obtain ⟨⟨n, f⟩, ds⟩ := a; have hn : n = 49 := hn; subst hn; obtain ⟨hd, h⟩ := dfr_iff h; have hd : ds = [] := hd; subst hd; exact h f rfl rfl,
    trivial⟩
    (cast (by kernel_rfl) h)
def S_fettleref4_Number_2 (x0 x1 x6 x7 : Value) (M : Store) (Q : Value → Store → Prop) : Prop :=
  OP (ixS x0 x7) fun t16 =>
  OP (binI .lss t16 (.int .u8 48)) fun t17 =>
  BR t17 (
  NTs [(.int .i64 0), (.bool false)] ∧ Q (.tuple #[(.int .i64 0), (.bool false)]) M
  ) (
  OP (ixS x0 x7) fun t21 =>
  OP (binI .gtr t21 (.int .u8 57)) fun t22 =>
  BR t22 (
  NTs [(.int .i64 0), (.bool false)] ∧ Q (.tuple #[(.int .i64 0), (.bool false)]) M
  ) (
  OP (binI .geq x7 x1) fun t27 =>
  BR t27 (
  NTs [(.int .i64 0), (.bool false)] ∧ Q (.tuple #[(.int .i64 0), (.bool false)]) M
  ) (
  OP (binI .mul (.int .i64 10) x6) fun t30 =>
  OP (ixS x0 x7) fun t33 =>
  OP (binI .sub t33 (.int .u8 48)) fun t34 =>
  OP (cvI .i64 t34) fun t35 =>
  OP (binI .add t30 t35) fun t36 =>
  OP (binI .add x7 (.int .i64 1)) fun t13 =>
  P_fettleref4_Number_1 x0 x1 t36 t13 M Q
  )
  )
  )
theorem T_fettleref4_Number_2 {x0 x1 x6 x7 : Value} {M : Store} {Q : Value → Store → Prop} (h : S_fettleref4_Number_2 x0 x1 x6 x7 M Q) : P_fettleref4_Number_2 x0 x1 x6 x7 M Q := by
  intro f h0 h1 h6 h7; subst h0; subst h1; subst h6; subst h7
  unfold At
  exact rule (B := 1000) (N := 49) (ct := .no)
    [⟨0, fun a M => dfr a.defers (P_fettleref4_Number_1 (a.get 0) (a.get 1) (a.get 6) (a.get 7) M Q), fun a M => At Tryd.prog Ex none Tryd.f50 [1, 1, 0, 1, 0] a M Q⟩,
    ⟨1, fun a M => kfin Tryd.prog Tryd.f50.results.toList Q 1 a M, fun a M => kfin Tryd.prog Tryd.f50.results.toList Q 1 a M⟩]
    [] [0, 1] (by kernel_rfl) (by kernel_rfl) (by kernel_rfl) (by kernel_rfl) (by kernel_rfl)
    ⟨fun a M hn h => by obtain ⟨⟨n, f⟩, ds⟩ := a; have hn : n = 49 := hn; subst hn; obtain ⟨hd, h⟩ := dfr_iff h; have hd : ds = [] := hd; subst hd; exact h f rfl rfl rfl rfl,
    fun _ _ _ h => h,
    trivial⟩
    (cast (by kernel_rfl) h)
def S_fettleref4_Number_3 (x0 x6 : Value) (M : Store) (Q : Value → Store → Prop) : Prop :=
  OP (binS .eql x0 (.string ⟨#[]⟩)) fun t38 =>
  BR t38 (
  NTs [(.int .i64 0), (.bool false)] ∧ Q (.tuple #[(.int .i64 0), (.bool false)]) M
  ) (
  OP (binS .neq x0 (.string ⟨#[48]⟩)) fun t41 =>
  BR3 t41 (
  OP (ixS x0 (.int .i64 0)) fun t44 =>
  OP (binI .eql t44 (.int .u8 48)) fun t45 =>
  BR t45 (
  NTs [(.int .i64 0), (.bool false)] ∧ Q (.tuple #[(.int .i64 0), (.bool false)]) M
  ) (
  NTs [x6, (.bool true)] ∧ Q (.tuple #[x6, (.bool true)]) M
  )
  ) (
  NTs [x6, (.bool true)] ∧ Q (.tuple #[x6, (.bool true)]) M
  ) (
  BR t41 (
  BR undef (
  NTs [(.int .i64 0), (.bool false)] ∧ Q (.tuple #[(.int .i64 0), (.bool false)]) M
  ) (
  NTs [x6, (.bool true)] ∧ Q (.tuple #[x6, (.bool true)]) M
  )
  ) (
  NTs [x6, (.bool true)] ∧ Q (.tuple #[x6, (.bool true)]) M
  )
  )
  )
theorem T_fettleref4_Number_3 {x0 x6 : Value} {M : Store} {Q : Value → Store → Prop} (h : S_fettleref4_Number_3 x0 x6 M Q) : P_fettleref4_Number_3 x0 x6 M Q := by
  intro f h0 h6; subst h0; subst h6
  unfold At
  exact rule (B := 1000) (N := 49) (ct := .no)
    [⟨1, fun a M => kfin Tryd.prog Tryd.f50.results.toList Q 1 a M, fun a M => kfin Tryd.prog Tryd.f50.results.toList Q 1 a M⟩]
    [] [1] (by kernel_rfl) (by kernel_rfl) (by kernel_rfl) (by kernel_rfl) (by kernel_rfl)
    ⟨fun _ _ _ h => h,
    trivial⟩
    (cast (by kernel_rfl) h)
end Go.G
