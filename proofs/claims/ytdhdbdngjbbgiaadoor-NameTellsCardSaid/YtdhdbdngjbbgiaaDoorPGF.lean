/-  -/
import Derived.Test.YtdhdbdngjbbgiaaDoorPGN
open Go.RowKit
namespace Go.G
open Go.Ab Go.Proofs
set_option linter.unusedVariables false
set_option maxRecDepth 100000
def S_fettlelaw4_NameBack (x0 x1 x2 x3 : Value) (M : Store) (Q : Value → Store → Prop) : Prop :=
  R F.name_Temp #[x0, x1, x2] M fun t20 M1 =>
  R F.name_Of #[t20] M1 fun t23 M2 =>
  OP (tup t23 0) fun t24 =>
  OP (tup t23 1) fun t25 =>
  OP (tup t23 2) fun t26 =>
  OP (amax2 x0 (.int .i64 0)) fun t28 =>
  OP (amin2 t28 (.int .i64 999)) fun t29 =>
  OP (amax2 x1 (.int .i64 0)) fun t31 =>
  OP (amin2 t31 (.int .i64 99999)) fun t32 =>
  OP (amax2 x2 (.int .i64 0)) fun t34 =>
  OP (amin2 t34 (.int .i64 99999)) fun t35 =>
  OP (amax2 x3 (.int .i64 0)) fun t37 =>
  OP (amin2 t37 (.int .i64 99999)) fun t38 =>
  BR t26 (
  OP (binI .eql t24 t29) fun t43 =>
  BR t43 (
  OP (binI .eql t25 t32) fun t48 =>
  BR t48 (
  R F.name_Temp #[x0, x1, x3] M2 fun t54 M3 =>
  OP (binS .eql t54 t20) fun t56 =>
  OP (binI .eql t35 t38) fun t59 =>
  OP (abin Tryd.prog false .eql Ty.bool t56 t59) fun t60 =>
  BR t60 (
  R F.name_Temp #[x0, x3, x2] M3 fun t66 M4 =>
  OP (binS .eql t66 t20) fun t68 =>
  OP (binI .eql t32 t38) fun t71 =>
  OP (abin Tryd.prog false .eql Ty.bool t68 t71) fun t72 =>
  BR t72 (
  R F.name_Temp #[x3, x1, x2] M4 fun t78 M5 =>
  OP (binS .eql t78 t20) fun t80 =>
  OP (amax2 x3 (.int .i64 0)) fun t83 =>
  OP (amin2 t83 (.int .i64 999)) fun t84 =>
  OP (binI .eql t29 t84) fun t85 =>
  OP (abin Tryd.prog false .eql Ty.bool t80 t85) fun t86 =>
  BR t86 (
  R F.name_File #[t20] M5 fun t90 M6 =>
  BR t90 (
  R F.name_Ok #[t20] M6 fun t94 M7 =>
  OP (aun .not t94) fun t95 =>
  BR t95 (
  R F.fettlelaw4_awake #[] M7 fun t98 M8 =>
  NTs [t98] ∧ Q t98 M8
  ) (
  NTs [(.bool false)] ∧ Q (.bool false) M7
  )
  ) (
  NTs [(.bool false)] ∧ Q (.bool false) M6
  )
  ) (
  NTs [(.bool false)] ∧ Q (.bool false) M5
  )
  ) (
  NTs [(.bool false)] ∧ Q (.bool false) M4
  )
  ) (
  NTs [(.bool false)] ∧ Q (.bool false) M3
  )
  ) (
  NTs [(.bool false)] ∧ Q (.bool false) M2
  )
  ) (
  NTs [(.bool false)] ∧ Q (.bool false) M2
  )
  ) (
  NTs [(.bool false)] ∧ Q (.bool false) M2
  )
theorem T_fettlelaw4_NameBack {x0 x1 x2 x3 : Value} {M : Store} {Q : Value → Store → Prop} (h : S_fettlelaw4_NameBack x0 x1 x2 x3 M Q) : R F.fettlelaw4_NameBack #[x0, x1, x2, x3] M Q := by
  refine runs_of (c := bodyOf Tryd.f12) Tryd.func12 rfl (by kernel_rfl) (by kernel_rfl) ?_
  unfold At
  exact rule (B := 1000) (N := 100) (ct := .no)
    [⟨1, fun a M => kfin Tryd.prog Tryd.f12.results.toList Q 1 a M, fun a M => kfin Tryd.prog Tryd.f12.results.toList Q 1 a M⟩]
    [] [1] (by kernel_rfl) (by kernel_rfl) (by kernel_rfl) (by kernel_rfl) (by kernel_rfl)
    ⟨fun _ _ _ h => h,
    trivial⟩
    (cast (by kernel_rfl) h)
def P_fettlelaw4_NameTells_1 (x0 x1 x2 x3 x4 x11 x12 x13 : Value) (M : Store) (Q : Value → Store → Prop) : Prop :=
  ∀ f : Nat → Value, f 0 = x0 → f 1 = x1 → f 2 = x2 → f 3 = x3 → f 4 = x4 → f 11 = x11 → f 12 = x12 → f 13 = x13 → At Tryd.prog Ex none Tryd.f13 [1, 1, 1, 1, 0, 1, 0] ⟨⟨130, f⟩, []⟩ M Q
def P_fettlelaw4_NameTells_2 (x0 x1 x2 x3 x4 x11 x12 x13 : Value) (M : Store) (Q : Value → Store → Prop) : Prop :=
  ∀ f : Nat → Value, f 0 = x0 → f 1 = x1 → f 2 = x2 → f 3 = x3 → f 4 = x4 → f 11 = x11 → f 12 = x12 → f 13 = x13 → At Tryd.prog Ex none Tryd.f13 [1, 1, 1, 1, 0, 1, 0, 0, 1] ⟨⟨130, f⟩, []⟩ M Q
def P_fettlelaw4_NameTells_3 (x0 x2 x3 x4 x12 : Value) (M : Store) (Q : Value → Store → Prop) : Prop :=
  ∀ f : Nat → Value, f 0 = x0 → f 2 = x2 → f 3 = x3 → f 4 = x4 → f 12 = x12 → At Tryd.prog Ex none Tryd.f13 [1, 1, 1, 1, 1] ⟨⟨130, f⟩, []⟩ M Q
def P_fettlelaw4_NameTells_4 (x2 x3 x4 x12 x58 x59 x60 : Value) (M : Store) (Q : Value → Store → Prop) : Prop :=
  ∀ f : Nat → Value, f 2 = x2 → f 3 = x3 → f 4 = x4 → f 12 = x12 → f 58 = x58 → f 59 = x59 → f 60 = x60 → At Tryd.prog Ex none Tryd.f13 [1, 1, 1, 1, 1, 0, 1, 0] ⟨⟨130, f⟩, []⟩ M Q
def P_fettlelaw4_NameTells_5 (x2 x3 x4 x12 x58 x59 x60 : Value) (M : Store) (Q : Value → Store → Prop) : Prop :=
  ∀ f : Nat → Value, f 2 = x2 → f 3 = x3 → f 4 = x4 → f 12 = x12 → f 58 = x58 → f 59 = x59 → f 60 = x60 → At Tryd.prog Ex none Tryd.f13 [1, 1, 1, 1, 1, 0, 1, 0, 0, 1, 1] ⟨⟨130, f⟩, []⟩ M Q
def P_fettlelaw4_NameTells_6 (x2 x3 x4 x12 : Value) (M : Store) (Q : Value → Store → Prop) : Prop :=
  ∀ f : Nat → Value, f 2 = x2 → f 3 = x3 → f 4 = x4 → f 12 = x12 → At Tryd.prog Ex none Tryd.f13 [1, 1, 1, 1, 1, 1] ⟨⟨130, f⟩, []⟩ M Q
def S_fettlelaw4_NameTells (x0 x1 x2 x3 x4 : Value) (M : Store) (Q : Value → Store → Prop) : Prop :=
  OP (lenV x0) fun t23 =>
  OP (binI .gtr t23 (.int .i64 60)) fun t24 =>
  BR t24 (
  R F.fettlelaw4_awake #[] M fun t25 M1 =>
  NTs [t25] ∧ Q t25 M1
  ) (
  OP (bldL (.string ⟨#[]⟩) 1 16 [(0, (.string ⟨#[97]⟩)), (1, (.string ⟨#[116, 109, 112]⟩)), (2, (.string ⟨#[47]⟩)), (3, (.string ⟨#[46]⟩)), (4, (.string ⟨#[48]⟩)), (5, (.string ⟨#[55]⟩)), (6, (.string ⟨#[49, 50]⟩)), (7, (.string ⟨#[57, 57, 57, 57, 57]⟩)), (8, (.string ⟨#[49, 48, 48, 48, 48, 48]⟩)), (9, (.string ⟨#[45]⟩)), (10, (.string ⟨#[95]⟩)), (11, (.string ⟨#[65]⟩)), (12, (.string ⟨#[108, 111, 99, 107]⟩)), (13, (.string ⟨#[99, 108, 97, 105, 109]⟩)), (14, (.string ⟨#[120, 46, 111]⟩)), (15, (.string ⟨#[32]⟩))]) fun c =>
  LT (.slice (some ⟨M.n, 0, none⟩) 16 16) (M.push (some (.inl (c, Ty.string, true)))) fun t26 M2 =>
  P_fettlelaw4_NameTells_1 x0 x1 x2 x3 x4 t26 (.string ⟨#[]⟩) (.int .i64 0) M2 Q
  )
theorem T_fettlelaw4_NameTells {x0 x1 x2 x3 x4 : Value} {M : Store} {Q : Value → Store → Prop} (h : S_fettlelaw4_NameTells x0 x1 x2 x3 x4 M Q) : R F.fettlelaw4_NameTells #[x0, x1, x2, x3, x4] M Q := by
  refine runs_of (c := bodyOf Tryd.f13) Tryd.func13 rfl (by kernel_rfl) (by kernel_rfl) ?_
  unfold At
  exact rule (B := 1000) (N := 130) (ct := (.two .no (.two .no (.two .no (.two .no (.two (.two .no (.two (.here 1000) .no)) (.here 1001)))))))
    [⟨1002, fun a M => dfr a.defers (P_fettlelaw4_NameTells_1 (a.get 0) (a.get 1) (a.get 2) (a.get 3) (a.get 4) (a.get 11) (a.get 12) (a.get 13) M Q), fun a M => At Tryd.prog Ex none Tryd.f13 [1, 1, 1, 1, 0, 1, 0] a M Q⟩,
    ⟨1003, fun _ _ => False, fun a M => At Tryd.prog Ex none Tryd.f13 [1, 1, 1, 1, 1] a M Q⟩,
    ⟨1, fun a M => kfin Tryd.prog Tryd.f13.results.toList Q 1 a M, fun a M => kfin Tryd.prog Tryd.f13.results.toList Q 1 a M⟩]
    [1000, 1001] [1] (by kernel_rfl) (by kernel_rfl) (by kernel_rfl) (by kernel_rfl) (by kernel_rfl)
    ⟨fun a M hn h => by obtain ⟨⟨n, f⟩, ds⟩ := a; have hn : n = 130 := hn; subst hn; obtain ⟨hd, h⟩ := dfr_iff h; have hd : ds = [] := hd; subst hd; exact h f rfl rfl rfl rfl rfl rfl rfl rfl,
    fun _ _ _ h => h.elim,
    fun _ _ _ h => h,
    trivial⟩
    (cast (by kernel_rfl) h)
def S_fettlelaw4_NameTells_1 (x0 x1 x2 x3 x4 x11 x12 x13 : Value) (M : Store) (Q : Value → Store → Prop) : Prop :=
  OP (lenV x1) fun t29 =>
  OP (binI .lss x13 t29) fun t30 =>
  BR t30 (
  OP (binI .lss x13 (.int .i64 8)) fun t33 =>
  BR t33 (
  P_fettlelaw4_NameTells_2 x0 x1 x2 x3 x4 x11 x12 x13 M Q
  ) (
  P_fettlelaw4_NameTells_3 x0 x2 x3 x4 x12 M Q
  )
  ) (
  P_fettlelaw4_NameTells_3 x0 x2 x3 x4 x12 M Q
  )
theorem T_fettlelaw4_NameTells_1 {x0 x1 x2 x3 x4 x11 x12 x13 : Value} {M : Store} {Q : Value → Store → Prop} (h : S_fettlelaw4_NameTells_1 x0 x1 x2 x3 x4 x11 x12 x13 M Q) : P_fettlelaw4_NameTells_1 x0 x1 x2 x3 x4 x11 x12 x13 M Q := by
  intro f h0 h1 h2 h3 h4 h11 h12 h13; subst h0; subst h1; subst h2; subst h3; subst h4; subst h11; subst h12; subst h13
  unfold At
  refine cast (by kernel_rfl) (CW.loop (P := Tryd.prog) (E := Ex) (rd := none) (x := sub (bodyOf Tryd.f13) [1, 1, 1, 1, 0, 1, 0, 0]) (a := ⟨⟨130, f⟩, []⟩) (M := M) (K := kcont Tryd.prog Ex none (bodyOf Tryd.f13) [1, 1, 1, 1, 0, 1, 0] (kfin Tryd.prog Tryd.f13.results.toList Q)) ?_)
  exact rule (B := 1000) (N := 130) (ct := (.two .no (.here 1000)))
    [⟨1002, fun a M => dfr a.defers (P_fettlelaw4_NameTells_2 (a.get 0) (a.get 1) (a.get 2) (a.get 3) (a.get 4) (a.get 11) (a.get 12) (a.get 13) M Q), fun a M => At Tryd.prog Ex none Tryd.f13 [1, 1, 1, 1, 0, 1, 0, 0, 1] a M Q⟩,
    ⟨2, fun a M => dfr a.defers (P_fettlelaw4_NameTells_3 (a.get 0) (a.get 2) (a.get 3) (a.get 4) (a.get 12) M Q), fun a M => At Tryd.prog Ex none Tryd.f13 [1, 1, 1, 1, 1] a M Q⟩]
    [1000] [2] (by kernel_rfl) (by kernel_rfl) (by kernel_rfl) (by kernel_rfl) (by kernel_rfl)
    ⟨fun a M hn h => by obtain ⟨⟨n, f⟩, ds⟩ := a; have hn : n = 130 := hn; subst hn; obtain ⟨hd, h⟩ := dfr_iff h; have hd : ds = [] := hd; subst hd; exact h f rfl rfl rfl rfl rfl rfl rfl rfl,
    fun a M hn h => by obtain ⟨⟨n, f⟩, ds⟩ := a; have hn : n = 130 := hn; subst hn; obtain ⟨hd, h⟩ := dfr_iff h; have hd : ds = [] := hd; subst hd; exact h f rfl rfl rfl rfl rfl,
    trivial⟩
    (cast (by kernel_rfl) h)
def S_fettlelaw4_NameTells_2 (x0 x1 x2 x3 x4 x11 x12 x13 : Value) (M : Store) (Q : Value → Store → Prop) : Prop :=
  OP (ixA 1 x1 x13) fun t41 =>
  OP (ld 1 false t41 M) fun t42 =>
  OP (binI .and t42 (.int .i64 15)) fun t43 =>
  OP (ixA 1 x11 t43) fun t44 =>
  OP (ld 1 false t44 M) fun t45 =>
  OP (binS .add x12 t45) fun t46 =>
  OP (binI .add x13 (.int .i64 1)) fun t36 =>
  P_fettlelaw4_NameTells_1 x0 x1 x2 x3 x4 x11 t46 t36 M Q
theorem T_fettlelaw4_NameTells_2 {x0 x1 x2 x3 x4 x11 x12 x13 : Value} {M : Store} {Q : Value → Store → Prop} (h : S_fettlelaw4_NameTells_2 x0 x1 x2 x3 x4 x11 x12 x13 M Q) : P_fettlelaw4_NameTells_2 x0 x1 x2 x3 x4 x11 x12 x13 M Q := by
  intro f h0 h1 h2 h3 h4 h11 h12 h13; subst h0; subst h1; subst h2; subst h3; subst h4; subst h11; subst h12; subst h13
  unfold At
  exact rule (B := 1000) (N := 130) (ct := .no)
    [⟨0, fun a M => dfr a.defers (P_fettlelaw4_NameTells_1 (a.get 0) (a.get 1) (a.get 2) (a.get 3) (a.get 4) (a.get 11) (a.get 12) (a.get 13) M Q), fun a M => At Tryd.prog Ex none Tryd.f13 [1, 1, 1, 1, 0, 1, 0] a M Q⟩]
    [] [0] (by kernel_rfl) (by kernel_rfl) (by kernel_rfl) (by kernel_rfl) (by kernel_rfl)
    ⟨fun a M hn h => by obtain ⟨⟨n, f⟩, ds⟩ := a; have hn : n = 130 := hn; subst hn; obtain ⟨hd, h⟩ := dfr_iff h; have hd : ds = [] := hd; subst hd; exact h f rfl rfl rfl rfl rfl rfl rfl rfl,
    trivial⟩
    (cast (by kernel_rfl) h)
def S_fettlelaw4_NameTells_3 (x0 x2 x3 x4 x12 : Value) (M : Store) (Q : Value → Store → Prop) : Prop :=
  OP (cvBS x0 M) fun t48 =>
  OP (binS .add (.string ⟨#[116, 109, 112, 47]⟩) x12) fun t51 =>
  R F.fettleref4_Temp #[x2, x3, x4] M fun t55 M1 =>
  TDj [5, 6, 7] [M.n, M.n, M.n, M.n, M.n, M.n, M.n, M.n, M.n] M M1 ∧
  OP (binS .add (.string ⟨#[99, 108, 97, 105, 109, 47]⟩) x12) fun t57 =>
  OP (bldL (.string ⟨#[]⟩) 1 5 [(0, t48), (1, x12), (2, t51), (3, t55), (4, t57)]) fun c =>
  LT (.slice (some ⟨M1.n, 0, none⟩) 5 5) (M1.push (some (.inl (c, Ty.string, true)))) fun t58 M2 =>
  OP (lenV t58) fun t59 =>
  P_fettlelaw4_NameTells_4 x2 x3 x4 x12 t58 t59 (.int .i64 0) M2 Q
theorem T_fettlelaw4_NameTells_3 {x0 x2 x3 x4 x12 : Value} {M : Store} {Q : Value → Store → Prop} (h : S_fettlelaw4_NameTells_3 x0 x2 x3 x4 x12 M Q) : P_fettlelaw4_NameTells_3 x0 x2 x3 x4 x12 M Q := by
  intro f h0 h2 h3 h4 h12; subst h0; subst h2; subst h3; subst h4; subst h12
  unfold At
  exact rule (B := 1000) (N := 130) (ct := (.two (.two .no (.two (.here 1000) .no)) (.here 1001)))
    [⟨1002, fun a M => dfr a.defers (P_fettlelaw4_NameTells_4 (a.get 2) (a.get 3) (a.get 4) (a.get 12) (a.get 58) (a.get 59) (a.get 60) M Q), fun a M => At Tryd.prog Ex none Tryd.f13 [1, 1, 1, 1, 1, 0, 1, 0] a M Q⟩,
    ⟨1003, fun _ _ => False, fun a M => At Tryd.prog Ex none Tryd.f13 [1, 1, 1, 1, 1, 1] a M Q⟩]
    [1000, 1001] [] (by kernel_rfl) (by kernel_rfl) (by kernel_rfl) (by kernel_rfl) (by kernel_rfl)
    ⟨fun a M hn h => by obtain ⟨⟨n, f⟩, ds⟩ := a; have hn : n = 130 := hn; subst hn; obtain ⟨hd, h⟩ := dfr_iff h; have hd : ds = [] := hd; subst hd; exact h f rfl rfl rfl rfl rfl rfl rfl,
    fun _ _ _ h => h.elim,
    trivial⟩
    (cast (by kernel_rfl) h)
def S_fettlelaw4_NameTells_4 (x2 x3 x4 x12 x58 x59 x60 : Value) (M : Store) (Q : Value → Store → Prop) : Prop :=
  OP (binI .lss x60 x59) fun t61 =>
  BR t61 (
  P_fettlelaw4_NameTells_5 x2 x3 x4 x12 x58 x59 x60 M Q
  ) (
  P_fettlelaw4_NameTells_6 x2 x3 x4 x12 M Q
  )
theorem T_fettlelaw4_NameTells_4 {x2 x3 x4 x12 x58 x59 x60 : Value} {M : Store} {Q : Value → Store → Prop} (h : S_fettlelaw4_NameTells_4 x2 x3 x4 x12 x58 x59 x60 M Q) : P_fettlelaw4_NameTells_4 x2 x3 x4 x12 x58 x59 x60 M Q := by
  intro f h2 h3 h4 h12 h58 h59 h60; subst h2; subst h3; subst h4; subst h12; subst h58; subst h59; subst h60
  unfold At
  refine cast (by kernel_rfl) (CW.loop (P := Tryd.prog) (E := Ex) (rd := none) (x := sub (bodyOf Tryd.f13) [1, 1, 1, 1, 1, 0, 1, 0, 0]) (a := ⟨⟨130, f⟩, []⟩) (M := M) (K := kcont Tryd.prog Ex none (bodyOf Tryd.f13) [1, 1, 1, 1, 1, 0, 1, 0] (kfin Tryd.prog Tryd.f13.results.toList Q)) ?_)
  exact rule (B := 1000) (N := 130) (ct := (.two .no (.two .no (.here 1000))))
    [⟨1002, fun a M => dfr a.defers (P_fettlelaw4_NameTells_5 (a.get 2) (a.get 3) (a.get 4) (a.get 12) (a.get 58) (a.get 59) (a.get 60) M Q), fun a M => At Tryd.prog Ex none Tryd.f13 [1, 1, 1, 1, 1, 0, 1, 0, 0, 1, 1] a M Q⟩,
    ⟨4, fun a M => dfr a.defers (P_fettlelaw4_NameTells_6 (a.get 2) (a.get 3) (a.get 4) (a.get 12) M Q), fun a M => At Tryd.prog Ex none Tryd.f13 [1, 1, 1, 1, 1, 1] a M Q⟩]
    [1000] [4] (by kernel_rfl) (by kernel_rfl) (by kernel_rfl) (by kernel_rfl) (by kernel_rfl)
    ⟨fun a M hn h => by obtain ⟨⟨n, f⟩, ds⟩ := a; have hn : n = 130 := hn; subst hn; obtain ⟨hd, h⟩ := dfr_iff h; have hd : ds = [] := hd; subst hd; exact h f rfl rfl rfl rfl rfl rfl rfl,
    fun a M hn h => by obtain ⟨⟨n, f⟩, ds⟩ := a; have hn : n = 130 := hn; subst hn; obtain ⟨hd, h⟩ := dfr_iff h; have hd : ds = [] := hd; subst hd; exact h f rfl rfl rfl rfl,
    trivial⟩
    (cast (by kernel_rfl) h)
def S_fettlelaw4_NameTells_5 (x2 x3 x4 x12 x58 x59 x60 : Value) (M : Store) (Q : Value → Store → Prop) : Prop :=
  OP (ixA 1 x58 x60) fun t62 =>
  OP (ld 1 false t62 M) fun t63 =>
  R F.name_Of #[t63] M fun t66 M1 =>
  OP (tup t66 0) fun t67 =>
  OP (tup t66 1) fun t68 =>
  OP (tup t66 2) fun t69 =>
  R F.fettleref4_Of #[t63] M1 fun t72 M2 =>
  OP (tup t72 0) fun t73 =>
  OP (tup t72 1) fun t74 =>
  OP (tup t72 2) fun t75 =>
  R F.name_Ok #[t63] M2 fun t77 M3 =>
  R F.fettleref4_Ok #[t63] M3 fun t79 M4 =>
  OP (abin Tryd.prog false .neq Ty.bool t77 t79) fun t80 =>
  BR t80 (
  NTs [(.bool false)] ∧ Q (.bool false) M4
  ) (
  R F.name_File #[t63] M4 fun t83 M5 =>
  R F.fettleref4_File #[t63] M5 fun t85 M6 =>
  OP (abin Tryd.prog false .neq Ty.bool t83 t85) fun t86 =>
  BR t86 (
  NTs [(.bool false)] ∧ Q (.bool false) M6
  ) (
  OP (binI .neq t67 t73) fun t91 =>
  BR t91 (
  NTs [(.bool false)] ∧ Q (.bool false) M6
  ) (
  OP (binI .neq t68 t74) fun t96 =>
  BR t96 (
  NTs [(.bool false)] ∧ Q (.bool false) M6
  ) (
  OP (abin Tryd.prog false .neq Ty.bool t69 t75) fun t101 =>
  BR t101 (
  NTs [(.bool false)] ∧ Q (.bool false) M6
  ) (
  OP (binI .add x60 (.int .i64 1)) fun t103 =>
  P_fettlelaw4_NameTells_4 x2 x3 x4 x12 x58 x59 t103 M6 Q
  )
  )
  )
  )
  )
theorem T_fettlelaw4_NameTells_5 {x2 x3 x4 x12 x58 x59 x60 : Value} {M : Store} {Q : Value → Store → Prop} (h : S_fettlelaw4_NameTells_5 x2 x3 x4 x12 x58 x59 x60 M Q) : P_fettlelaw4_NameTells_5 x2 x3 x4 x12 x58 x59 x60 M Q := by
  intro f h2 h3 h4 h12 h58 h59 h60; subst h2; subst h3; subst h4; subst h12; subst h58; subst h59; subst h60
  unfold At
  exact rule (B := 1000) (N := 130) (ct := .no)
    [⟨0, fun a M => dfr a.defers (P_fettlelaw4_NameTells_4 (a.get 2) (a.get 3) (a.get 4) (a.get 12) (a.get 58) (a.get 59) (a.get 60) M Q), fun a M => At Tryd.prog Ex none Tryd.f13 [1, 1, 1, 1, 1, 0, 1, 0] a M Q⟩,
    ⟨1, fun a M => kfin Tryd.prog Tryd.f13.results.toList Q 1 a M, fun a M => kfin Tryd.prog Tryd.f13.results.toList Q 1 a M⟩]
    [] [0, 1] (by kernel_rfl) (by kernel_rfl) (by kernel_rfl) (by kernel_rfl) (by kernel_rfl)
    ⟨fun a M hn h => by obtain ⟨⟨n, f⟩, ds⟩ := a; have hn : n = 130 := hn; subst hn; obtain ⟨hd, h⟩ := dfr_iff h; have hd : ds = [] := hd; subst hd; exact h f rfl rfl rfl rfl rfl rfl rfl,
    fun _ _ _ h => h,
    trivial⟩
    (cast (by kernel_rfl) h)
def S_fettlelaw4_NameTells_6 (x2 x3 x4 x12 : Value) (M : Store) (Q : Value → Store → Prop) : Prop :=
  R F.name_Temp #[x2, x3, x4] M fun t107 M1 =>
  R F.fettleref4_Temp #[x2, x3, x4] M1 fun t111 M2 =>
  OP (binS .eql t107 t111) fun t112 =>
  BR t112 (
  R F.name_Claim #[x12] M2 fun t115 M3 =>
  OP (binS .add (.string ⟨#[99, 108, 97, 105, 109, 47]⟩) x12) fun t117 =>
  OP (binS .eql t115 t117) fun t118 =>
  BR t118 (
  R F.name_Temp #[x2, x3, x4] M3 fun t124 M4 =>
  R F.name_File #[t124] M4 fun t125 M5 =>
  BR t125 (
  R F.fettlelaw4_awake #[] M5 fun t128 M6 =>
  NTs [t128] ∧ Q t128 M6
  ) (
  NTs [(.bool false)] ∧ Q (.bool false) M5
  )
  ) (
  NTs [(.bool false)] ∧ Q (.bool false) M3
  )
  ) (
  NTs [(.bool false)] ∧ Q (.bool false) M2
  )
theorem T_fettlelaw4_NameTells_6 {x2 x3 x4 x12 : Value} {M : Store} {Q : Value → Store → Prop} (h : S_fettlelaw4_NameTells_6 x2 x3 x4 x12 M Q) : P_fettlelaw4_NameTells_6 x2 x3 x4 x12 M Q := by
  intro f h2 h3 h4 h12; subst h2; subst h3; subst h4; subst h12
  unfold At
  exact rule (B := 1000) (N := 130) (ct := .no)
    [⟨1, fun a M => kfin Tryd.prog Tryd.f13.results.toList Q 1 a M, fun a M => kfin Tryd.prog Tryd.f13.results.toList Q 1 a M⟩]
    [] [1] (by kernel_rfl) (by kernel_rfl) (by kernel_rfl) (by kernel_rfl) (by kernel_rfl)
    ⟨fun _ _ _ h => h,
    trivial⟩
    (cast (by kernel_rfl) h)
def S_fettleref4_Temp (x0 x1 x2 : Value) (M : Store) (Q : Value → Store → Prop) : Prop :=
  OP (amax2 x0 (.int .i64 0)) fun t8 =>
  OP (amin2 t8 (.int .i64 999)) fun t9 =>
  R F.fettleref4_Dec #[t9] M fun t10 M1 =>
  OP (binS .add (.string ⟨#[116, 109, 112, 47]⟩) t10) fun t11 =>
  OP (binS .add t11 (.string ⟨#[46]⟩)) fun t12 =>
  OP (amax2 x1 (.int .i64 0)) fun t14 =>
  OP (amin2 t14 (.int .i64 99999)) fun t15 =>
  R F.fettleref4_Dec #[t15] M1 fun t16 M2 =>
  OP (binS .add t12 t16) fun t17 =>
  OP (binS .add t17 (.string ⟨#[46]⟩)) fun t18 =>
  OP (amax2 x2 (.int .i64 0)) fun t20 =>
  OP (amin2 t20 (.int .i64 99999)) fun t21 =>
  R F.fettleref4_Dec #[t21] M2 fun t22 M3 =>
  OP (binS .add t18 t22) fun t23 =>
  NTs [t23] ∧ Q t23 M3
theorem T_fettleref4_Temp {x0 x1 x2 : Value} {M : Store} {Q : Value → Store → Prop} (h : S_fettleref4_Temp x0 x1 x2 M Q) : R F.fettleref4_Temp #[x0, x1, x2] M Q := by
  refine runs_of (c := bodyOf Tryd.f30) Tryd.func30 rfl (by kernel_rfl) (by kernel_rfl) ?_
  unfold At
  exact rule (B := 1000) (N := 24) (ct := .no)
    [⟨1, fun a M => kfin Tryd.prog Tryd.f30.results.toList Q 1 a M, fun a M => kfin Tryd.prog Tryd.f30.results.toList Q 1 a M⟩]
    [] [1] (by kernel_rfl) (by kernel_rfl) (by kernel_rfl) (by kernel_rfl) (by kernel_rfl)
    ⟨fun _ _ _ h => h,
    trivial⟩
    (cast (by kernel_rfl) h)
def P_fettleref4_Of_1 (x0 x5 x6 : Value) (M : Store) (Q : Value → Store → Prop) : Prop :=
  ∀ f : Nat → Value, f 0 = x0 → f 5 = x5 → f 6 = x6 → At Tryd.prog Ex none Tryd.f31 [1, 1, 1, 0, 1, 0] ⟨⟨88, f⟩, []⟩ M Q
def P_fettleref4_Of_2 (x0 x5 x6 : Value) (M : Store) (Q : Value → Store → Prop) : Prop :=
  ∀ f : Nat → Value, f 0 = x0 → f 5 = x5 → f 6 = x6 → At Tryd.prog Ex none Tryd.f31 [1, 1, 1, 0, 1, 0, 0, 1] ⟨⟨88, f⟩, []⟩ M Q
def P_fettleref4_Of_3 (x5 : Value) (M : Store) (Q : Value → Store → Prop) : Prop :=
  ∀ f : Nat → Value, f 5 = x5 → At Tryd.prog Ex none Tryd.f31 [1, 1, 1, 1] ⟨⟨88, f⟩, []⟩ M Q
def S_fettleref4_Of (x0 : Value) (M : Store) (Q : Value → Store → Prop) : Prop :=
  OP (lenS x0) fun t14 =>
  OP (binI .lss t14 (.int .i64 4)) fun t15 =>
  BR t15 (
  NTs [(.int .i64 0), (.int .i64 0), (.bool false)] ∧ Q (.tuple #[(.int .i64 0), (.int .i64 0), (.bool false)]) M
  ) (
  OP (slS x0 none (some (.int .i64 4))) fun t18 =>
  OP (binS .neq t18 (.string ⟨#[116, 109, 112, 47]⟩)) fun t19 =>
  BR t19 (
  NTs [(.int .i64 0), (.int .i64 0), (.bool false)] ∧ Q (.tuple #[(.int .i64 0), (.int .i64 0), (.bool false)]) M
  ) (
  OP (bldL (.string ⟨#[]⟩) 1 1 [(0, (.string ⟨#[]⟩))]) fun c =>
  LT (.slice (some ⟨M.n, 0, none⟩) 1 1) (M.push (some (.inl (c, Ty.string, true)))) fun t21 M1 =>
  P_fettleref4_Of_1 x0 t21 (.int .i64 4) M1 Q
  )
  )
theorem T_fettleref4_Of {x0 : Value} {M : Store} {Q : Value → Store → Prop} (h : S_fettleref4_Of x0 M Q) : R F.fettleref4_Of #[x0] M Q := by
  refine runs_of (c := bodyOf Tryd.f31) Tryd.func31 rfl (by kernel_rfl) (by kernel_rfl) ?_
  unfold At
  exact rule (B := 1000) (N := 88) (ct := (.two .no (.two .no (.two .no (.two (.two .no (.two (.here 1000) .no)) (.here 1001))))))
    [⟨1002, fun a M => dfr a.defers (P_fettleref4_Of_1 (a.get 0) (a.get 5) (a.get 6) M Q), fun a M => At Tryd.prog Ex none Tryd.f31 [1, 1, 1, 0, 1, 0] a M Q⟩,
    ⟨1003, fun _ _ => False, fun a M => At Tryd.prog Ex none Tryd.f31 [1, 1, 1, 1] a M Q⟩,
    ⟨1, fun a M => kfin Tryd.prog Tryd.f31.results.toList Q 1 a M, fun a M => kfin Tryd.prog Tryd.f31.results.toList Q 1 a M⟩]
    [1000, 1001] [1] (by kernel_rfl) (by kernel_rfl) (by kernel_rfl) (by kernel_rfl) (by kernel_rfl)
    ⟨fun a M hn h => by obtain ⟨⟨n, f⟩, ds⟩ := a; have hn : n = 88 := hn; subst hn; obtain ⟨hd, h⟩ := dfr_iff h; have hd : ds = [] := hd; subst hd; exact h f rfl rfl rfl,
    fun _ _ _ h => h.elim,
    fun _ _ _ h => h,
    trivial⟩
    (cast (by kernel_rfl) h)
def S_fettleref4_Of_1 (x0 x5 x6 : Value) (M : Store) (Q : Value → Store → Prop) : Prop :=
  OP (lenS x0) fun t24 =>
  OP (binI .lss x6 t24) fun t25 =>
  BR t25 (
  P_fettleref4_Of_2 x0 x5 x6 M Q
  ) (
  P_fettleref4_Of_3 x5 M Q
  )
theorem T_fettleref4_Of_1 {x0 x5 x6 : Value} {M : Store} {Q : Value → Store → Prop} (h : S_fettleref4_Of_1 x0 x5 x6 M Q) : P_fettleref4_Of_1 x0 x5 x6 M Q := by
  intro f h0 h5 h6; subst h0; subst h5; subst h6
  unfold At
  refine cast (by kernel_rfl) (CW.loop (P := Tryd.prog) (E := Ex) (rd := none) (x := sub (bodyOf Tryd.f31) [1, 1, 1, 0, 1, 0, 0]) (a := ⟨⟨88, f⟩, []⟩) (M := M) (K := kcont Tryd.prog Ex none (bodyOf Tryd.f31) [1, 1, 1, 0, 1, 0] (kfin Tryd.prog Tryd.f31.results.toList Q)) ?_)
  exact rule (B := 1000) (N := 88) (ct := (.two .no (.here 1000)))
    [⟨1002, fun a M => dfr a.defers (P_fettleref4_Of_2 (a.get 0) (a.get 5) (a.get 6) M Q), fun a M => At Tryd.prog Ex none Tryd.f31 [1, 1, 1, 0, 1, 0, 0, 1] a M Q⟩,
    ⟨2, fun a M => dfr a.defers (P_fettleref4_Of_3 (a.get 5) M Q), fun a M => At Tryd.prog Ex none Tryd.f31 [1, 1, 1, 1] a M Q⟩]
    [1000] [2] (by kernel_rfl) (by kernel_rfl) (by kernel_rfl) (by kernel_rfl) (by kernel_rfl)
    ⟨fun a M hn h => by obtain ⟨⟨n, f⟩, ds⟩ := a; have hn : n = 88 := hn; subst hn; obtain ⟨hd, h⟩ := dfr_iff h; have hd : ds = [] := hd; subst hd; exact h f rfl rfl rfl,
    fun a M hn h => by obtain ⟨⟨n, f⟩, ds⟩ := a; have hn : n = 88 := hn; subst hn; obtain ⟨hd, h⟩ := dfr_iff h; have hd : ds = [] := hd; subst hd; exact h f rfl,
    trivial⟩
    (cast (by kernel_rfl) h)
def S_fettleref4_Of_2 (x0 x5 x6 : Value) (M : Store) (Q : Value → Store → Prop) : Prop :=
  OP (ixS x0 x6) fun t30 =>
  OP (binI .eql t30 (.int .u8 46)) fun t31 =>
  BR t31 (
  OP (bldL (.string ⟨#[]⟩) 1 1 [(0, (.string ⟨#[]⟩))]) fun c =>
  LT (.slice (some ⟨M.n, 0, none⟩) 1 1) (M.push (some (.inl (c, Ty.string, true)))) fun t33 M1 =>
  OP2 (appV 1 Ty.string x5 t33 M1) fun t34 M2 =>
  OP (binI .add x6 (.int .i64 1)) fun t27 =>
  P_fettleref4_Of_1 x0 t34 t27 M2 Q
  ) (
  OP (lenV x5) fun t37 =>
  OP (binI .sub t37 (.int .i64 1)) fun t38 =>
  OP (lenV x5) fun t41 =>
  OP (binI .sub t41 (.int .i64 1)) fun t42 =>
  OP (ixA 1 x5 t42) fun t43 =>
  OP (ld 1 false t43 M) fun t44 =>
  OP (binI .add x6 (.int .i64 1)) fun t48 =>
  OP (slS x0 (some x6) (some t48)) fun t49 =>
  OP (binS .add t44 t49) fun t50 =>
  OP (ixA 1 x5 t38) fun t51 =>
  OP (st 1 t51 t50 M) fun M3 =>
  TDx [0, 0, 2, 6, 0, 0, 32, 96, 240, 496, 0, 0, 0, 4096, 15360, 32752, 65535, 131071] [M.n, M.n, M.n, M.n, M.n, M.n, M.n, M.n, M.n, M.n, M.n, M.n, M.n, M.n, M.n, M.n, M.n, M.n] 17 M M3 ∧
  OP (binI .add x6 (.int .i64 1)) fun t27_1 =>
  P_fettleref4_Of_1 x0 x5 t27_1 M3 Q
  )
theorem T_fettleref4_Of_2 {x0 x5 x6 : Value} {M : Store} {Q : Value → Store → Prop} (h : S_fettleref4_Of_2 x0 x5 x6 M Q) : P_fettleref4_Of_2 x0 x5 x6 M Q := by
  intro f h0 h5 h6; subst h0; subst h5; subst h6
  unfold At
  exact rule (B := 1000) (N := 88) (ct := .no)
    [⟨0, fun a M => dfr a.defers (P_fettleref4_Of_1 (a.get 0) (a.get 5) (a.get 6) M Q), fun a M => At Tryd.prog Ex none Tryd.f31 [1, 1, 1, 0, 1, 0] a M Q⟩]
    [] [0] (by kernel_rfl) (by kernel_rfl) (by kernel_rfl) (by kernel_rfl) (by kernel_rfl)
    ⟨fun a M hn h => by obtain ⟨⟨n, f⟩, ds⟩ := a; have hn : n = 88 := hn; subst hn; obtain ⟨hd, h⟩ := dfr_iff h; have hd : ds = [] := hd; subst hd; exact h f rfl rfl rfl,
    trivial⟩
    (cast (by kernel_rfl) h)
def S_fettleref4_Of_3 (x5 : Value) (M : Store) (Q : Value → Store → Prop) : Prop :=
  OP (lenV x5) fun t53 =>
  OP (binI .neq t53 (.int .i64 3)) fun t54 =>
  BR t54 (
  NTs [(.int .i64 0), (.int .i64 0), (.bool false)] ∧ Q (.tuple #[(.int .i64 0), (.int .i64 0), (.bool false)]) M
  ) (
  OP (ixA 1 x5 (.int .i64 0)) fun t57 =>
  OP (ld 1 false t57 M) fun t58 =>
  R F.fettleref4_Number #[t58, (.int .i64 3)] M fun t59 M1 =>
  OP (tup t59 0) fun t60 =>
  OP (tup t59 1) fun t61 =>
  OP (ixA 1 x5 (.int .i64 1)) fun t64 =>
  OP (ld 1 false t64 M1) fun t65 =>
  R F.fettleref4_Number #[t65, (.int .i64 5)] M1 fun t66 M2 =>
  OP (tup t66 0) fun t67 =>
  OP (tup t66 1) fun t68 =>
  OP (ixA 1 x5 (.int .i64 2)) fun t71 =>
  OP (ld 1 false t71 M2) fun t72 =>
  R F.fettleref4_Number #[t72, (.int .i64 5)] M2 fun t73 M3 =>
  OP (tup t73 0) fun t74 =>
  OP (tup t73 1) fun t75 =>
  OP (aun .not t61) fun t77 =>
  BR t77 (
  NTs [(.int .i64 0), (.int .i64 0), (.bool false)] ∧ Q (.tuple #[(.int .i64 0), (.int .i64 0), (.bool false)]) M3
  ) (
  OP (aun .not t68) fun t80 =>
  BR t80 (
  NTs [(.int .i64 0), (.int .i64 0), (.bool false)] ∧ Q (.tuple #[(.int .i64 0), (.int .i64 0), (.bool false)]) M3
  ) (
  OP (aun .not t75) fun t84 =>
  BR t84 (
  NTs [(.int .i64 0), (.int .i64 0), (.bool false)] ∧ Q (.tuple #[(.int .i64 0), (.int .i64 0), (.bool false)]) M3
  ) (
  NTs [t60, t67, (.bool true)] ∧ Q (.tuple #[t60, t67, (.bool true)]) M3
  )
  )
  )
  )
theorem T_fettleref4_Of_3 {x5 : Value} {M : Store} {Q : Value → Store → Prop} (h : S_fettleref4_Of_3 x5 M Q) : P_fettleref4_Of_3 x5 M Q := by
  intro f h5; subst h5
  unfold At
  exact rule (B := 1000) (N := 88) (ct := .no)
    [⟨1, fun a M => kfin Tryd.prog Tryd.f31.results.toList Q 1 a M, fun a M => kfin Tryd.prog Tryd.f31.results.toList Q 1 a M⟩]
    [] [1] (by kernel_rfl) (by kernel_rfl) (by kernel_rfl) (by kernel_rfl) (by kernel_rfl)
    ⟨fun _ _ _ h => h,
    trivial⟩
    (cast (by kernel_rfl) h)
def P_fettleref4_Ok_1 (x0 x3 : Value) (M : Store) (Q : Value → Store → Prop) : Prop :=
  ∀ f : Nat → Value, f 0 = x0 → f 3 = x3 → At Tryd.prog Ex none Tryd.f32 [1, 0, 1, 0] ⟨⟨49, f⟩, []⟩ M Q
def P_fettleref4_Ok_2 (x0 x3 : Value) (M : Store) (Q : Value → Store → Prop) : Prop :=
  ∀ f : Nat → Value, f 0 = x0 → f 3 = x3 → At Tryd.prog Ex none Tryd.f32 [1, 0, 1, 0, 0, 1] ⟨⟨49, f⟩, []⟩ M Q
def P_fettleref4_Ok_3 (x0 : Value) (M : Store) (Q : Value → Store → Prop) : Prop :=
  ∀ f : Nat → Value, f 0 = x0 → At Tryd.prog Ex none Tryd.f32 [1, 1] ⟨⟨49, f⟩, []⟩ M Q
def S_fettleref4_Ok (x0 : Value) (M : Store) (Q : Value → Store → Prop) : Prop :=
  P_fettleref4_Ok_1 x0 (.int .i64 0) M Q
theorem T_fettleref4_Ok {x0 : Value} {M : Store} {Q : Value → Store → Prop} (h : S_fettleref4_Ok x0 M Q) : R F.fettleref4_Ok #[x0] M Q := by
  refine runs_of (c := bodyOf Tryd.f32) Tryd.func32 rfl (by kernel_rfl) (by kernel_rfl) ?_
  unfold At
  exact rule (B := 1000) (N := 49) (ct := (.two .no (.two (.two .no (.two (.here 1000) .no)) (.here 1001))))
    [⟨1002, fun a M => dfr a.defers (P_fettleref4_Ok_1 (a.get 0) (a.get 3) M Q), fun a M => At Tryd.prog Ex none Tryd.f32 [1, 0, 1, 0] a M Q⟩,
    ⟨1003, fun _ _ => False, fun a M => At Tryd.prog Ex none Tryd.f32 [1, 1] a M Q⟩]
    [1000, 1001] [] (by kernel_rfl) (by kernel_rfl) (by kernel_rfl) (by kernel_rfl) (by kernel_rfl)
    ⟨fun a M hn h => by obtain ⟨⟨n, f⟩, ds⟩ := a; have hn : n = 49 := hn; subst hn; obtain ⟨hd, h⟩ := dfr_iff h; have hd : ds = [] := hd; subst hd; exact h f rfl rfl,
    fun _ _ _ h => h.elim,
    trivial⟩
    (cast (by kernel_rfl) h)
def S_fettleref4_Ok_1 (x0 x3 : Value) (M : Store) (Q : Value → Store → Prop) : Prop :=
  OP (lenS x0) fun t7 =>
  OP (binI .lss x3 t7) fun t8 =>
  BR t8 (
  P_fettleref4_Ok_2 x0 x3 M Q
  ) (
  P_fettleref4_Ok_3 x0 M Q
  )
theorem T_fettleref4_Ok_1 {x0 x3 : Value} {M : Store} {Q : Value → Store → Prop} (h : S_fettleref4_Ok_1 x0 x3 M Q) : P_fettleref4_Ok_1 x0 x3 M Q := by
  intro f h0 h3; subst h0; subst h3
  unfold At
  refine cast (by kernel_rfl) (CW.loop (P := Tryd.prog) (E := Ex) (rd := none) (x := sub (bodyOf Tryd.f32) [1, 0, 1, 0, 0]) (a := ⟨⟨49, f⟩, []⟩) (M := M) (K := kcont Tryd.prog Ex none (bodyOf Tryd.f32) [1, 0, 1, 0] (kfin Tryd.prog Tryd.f32.results.toList Q)) ?_)
  exact rule (B := 1000) (N := 49) (ct := (.two .no (.here 1000)))
    [⟨1002, fun a M => dfr a.defers (P_fettleref4_Ok_2 (a.get 0) (a.get 3) M Q), fun a M => At Tryd.prog Ex none Tryd.f32 [1, 0, 1, 0, 0, 1] a M Q⟩,
    ⟨2, fun a M => dfr a.defers (P_fettleref4_Ok_3 (a.get 0) M Q), fun a M => At Tryd.prog Ex none Tryd.f32 [1, 1] a M Q⟩]
    [1000] [2] (by kernel_rfl) (by kernel_rfl) (by kernel_rfl) (by kernel_rfl) (by kernel_rfl)
    ⟨fun a M hn h => by obtain ⟨⟨n, f⟩, ds⟩ := a; have hn : n = 49 := hn; subst hn; obtain ⟨hd, h⟩ := dfr_iff h; have hd : ds = [] := hd; subst hd; exact h f rfl rfl,
    fun a M hn h => by obtain ⟨⟨n, f⟩, ds⟩ := a; have hn : n = 49 := hn; subst hn; obtain ⟨hd, h⟩ := dfr_iff h; have hd : ds = [] := hd; subst hd; exact h f rfl,
    trivial⟩
    (cast (by kernel_rfl) h)
def S_fettleref4_Ok_2 (x0 x3 : Value) (M : Store) (Q : Value → Store → Prop) : Prop :=
  OP (ixS x0 x3) fun t13 =>
  OP (binI .geq t13 (.int .u8 97)) fun t15 =>
  BR t15 (
  OP (binI .leq t13 (.int .u8 122)) fun t18 =>
  BR t18 (
  OP (aun .not (.bool true)) fun t40 =>
  BR t40 (
  NTs [(.bool false)] ∧ Q (.bool false) M
  ) (
  OP (binI .add x3 (.int .i64 1)) fun t10 =>
  P_fettleref4_Ok_1 x0 t10 M Q
  )
  ) (
  OP (binI .geq t13 (.int .u8 48)) fun t22 =>
  BR3 t22 (
  OP (binI .leq t13 (.int .u8 57)) fun t25 =>
  BR t25 (
  OP (aun .not (.bool true)) fun t40_1 =>
  BR t40_1 (
  NTs [(.bool false)] ∧ Q (.bool false) M
  ) (
  OP (binI .add x3 (.int .i64 1)) fun t10_1 =>
  P_fettleref4_Ok_1 x0 t10_1 M Q
  )
  ) (
  OP (binI .eql t13 (.int .u8 46)) fun t30 =>
  BR t30 (
  OP (aun .not (.bool true)) fun t40_2 =>
  BR t40_2 (
  NTs [(.bool false)] ∧ Q (.bool false) M
  ) (
  OP (binI .add x3 (.int .i64 1)) fun t10_2 =>
  P_fettleref4_Ok_1 x0 t10_2 M Q
  )
  ) (
  OP (binI .eql t13 (.int .u8 45)) fun t34 =>
  BR t34 (
  OP (aun .not (.bool true)) fun t40_3 =>
  BR t40_3 (
  NTs [(.bool false)] ∧ Q (.bool false) M
  ) (
  OP (binI .add x3 (.int .i64 1)) fun t10_3 =>
  P_fettleref4_Ok_1 x0 t10_3 M Q
  )
  ) (
  OP (binI .eql t13 (.int .u8 95)) fun t38 =>
  OP (aun .not t38) fun t40_4 =>
  BR t40_4 (
  NTs [(.bool false)] ∧ Q (.bool false) M
  ) (
  OP (binI .add x3 (.int .i64 1)) fun t10_4 =>
  P_fettleref4_Ok_1 x0 t10_4 M Q
  )
  )
  )
  )
  ) (
  OP (binI .eql t13 (.int .u8 46)) fun t30_1 =>
  BR t30_1 (
  OP (aun .not (.bool true)) fun t40_5 =>
  BR t40_5 (
  NTs [(.bool false)] ∧ Q (.bool false) M
  ) (
  OP (binI .add x3 (.int .i64 1)) fun t10_5 =>
  P_fettleref4_Ok_1 x0 t10_5 M Q
  )
  ) (
  OP (binI .eql t13 (.int .u8 45)) fun t34_1 =>
  BR t34_1 (
  OP (aun .not (.bool true)) fun t40_6 =>
  BR t40_6 (
  NTs [(.bool false)] ∧ Q (.bool false) M
  ) (
  OP (binI .add x3 (.int .i64 1)) fun t10_6 =>
  P_fettleref4_Ok_1 x0 t10_6 M Q
  )
  ) (
  OP (binI .eql t13 (.int .u8 95)) fun t38_1 =>
  OP (aun .not t38_1) fun t40_7 =>
  BR t40_7 (
  NTs [(.bool false)] ∧ Q (.bool false) M
  ) (
  OP (binI .add x3 (.int .i64 1)) fun t10_7 =>
  P_fettleref4_Ok_1 x0 t10_7 M Q
  )
  )
  )
  ) (
  BR t22 (
  BR undef (
  OP (aun .not (.bool true)) fun t40_8 =>
  BR t40_8 (
  NTs [(.bool false)] ∧ Q (.bool false) M
  ) (
  OP (binI .add x3 (.int .i64 1)) fun t10_8 =>
  P_fettleref4_Ok_1 x0 t10_8 M Q
  )
  ) (
  OP (binI .eql t13 (.int .u8 46)) fun t30_2 =>
  BR t30_2 (
  OP (aun .not (.bool true)) fun t40_9 =>
  BR t40_9 (
  NTs [(.bool false)] ∧ Q (.bool false) M
  ) (
  OP (binI .add x3 (.int .i64 1)) fun t10_9 =>
  P_fettleref4_Ok_1 x0 t10_9 M Q
  )
  ) (
  OP (binI .eql t13 (.int .u8 45)) fun t34_2 =>
  BR t34_2 (
  OP (aun .not (.bool true)) fun t40_10 =>
  BR t40_10 (
  NTs [(.bool false)] ∧ Q (.bool false) M
  ) (
  OP (binI .add x3 (.int .i64 1)) fun t10_10 =>
  P_fettleref4_Ok_1 x0 t10_10 M Q
  )
  ) (
  OP (binI .eql t13 (.int .u8 95)) fun t38_2 =>
  OP (aun .not t38_2) fun t40_11 =>
  BR t40_11 (
  NTs [(.bool false)] ∧ Q (.bool false) M
  ) (
  OP (binI .add x3 (.int .i64 1)) fun t10_11 =>
  P_fettleref4_Ok_1 x0 t10_11 M Q
  )
  )
  )
  )
  ) (
  OP (binI .eql t13 (.int .u8 46)) fun t30_3 =>
  BR t30_3 (
  OP (aun .not (.bool true)) fun t40_12 =>
  BR t40_12 (
  NTs [(.bool false)] ∧ Q (.bool false) M
  ) (
  OP (binI .add x3 (.int .i64 1)) fun t10_12 =>
  P_fettleref4_Ok_1 x0 t10_12 M Q
  )
  ) (
  OP (binI .eql t13 (.int .u8 45)) fun t34_3 =>
  BR t34_3 (
  OP (aun .not (.bool true)) fun t40_13 =>
  BR t40_13 (
  NTs [(.bool false)] ∧ Q (.bool false) M
  ) (
  OP (binI .add x3 (.int .i64 1)) fun t10_13 =>
  P_fettleref4_Ok_1 x0 t10_13 M Q
  )
  ) (
  OP (binI .eql t13 (.int .u8 95)) fun t38_3 =>
  OP (aun .not t38_3) fun t40_14 =>
  BR t40_14 (
  NTs [(.bool false)] ∧ Q (.bool false) M
  ) (
  OP (binI .add x3 (.int .i64 1)) fun t10_14 =>
  P_fettleref4_Ok_1 x0 t10_14 M Q
  )
  )
  )
  )
  )
  )
  ) (
  OP (binI .geq t13 (.int .u8 48)) fun t22_1 =>
  BR3 t22_1 (
  OP (binI .leq t13 (.int .u8 57)) fun t25_1 =>
  BR t25_1 (
  OP (aun .not (.bool true)) fun t40_15 =>
  BR t40_15 (
  NTs [(.bool false)] ∧ Q (.bool false) M
  ) (
  OP (binI .add x3 (.int .i64 1)) fun t10_15 =>
  P_fettleref4_Ok_1 x0 t10_15 M Q
  )
  ) (
  OP (binI .eql t13 (.int .u8 46)) fun t30_4 =>
  BR t30_4 (
  OP (aun .not (.bool true)) fun t40_16 =>
  BR t40_16 (
  NTs [(.bool false)] ∧ Q (.bool false) M
  ) (
  OP (binI .add x3 (.int .i64 1)) fun t10_16 =>
  P_fettleref4_Ok_1 x0 t10_16 M Q
  )
  ) (
  OP (binI .eql t13 (.int .u8 45)) fun t34_4 =>
  BR t34_4 (
  OP (aun .not (.bool true)) fun t40_17 =>
  BR t40_17 (
  NTs [(.bool false)] ∧ Q (.bool false) M
  ) (
  OP (binI .add x3 (.int .i64 1)) fun t10_17 =>
  P_fettleref4_Ok_1 x0 t10_17 M Q
  )
  ) (
  OP (binI .eql t13 (.int .u8 95)) fun t38_4 =>
  OP (aun .not t38_4) fun t40_18 =>
  BR t40_18 (
  NTs [(.bool false)] ∧ Q (.bool false) M
  ) (
  OP (binI .add x3 (.int .i64 1)) fun t10_18 =>
  P_fettleref4_Ok_1 x0 t10_18 M Q
  )
  )
  )
  )
  ) (
  OP (binI .eql t13 (.int .u8 46)) fun t30_5 =>
  BR t30_5 (
  OP (aun .not (.bool true)) fun t40_19 =>
  BR t40_19 (
  NTs [(.bool false)] ∧ Q (.bool false) M
  ) (
  OP (binI .add x3 (.int .i64 1)) fun t10_19 =>
  P_fettleref4_Ok_1 x0 t10_19 M Q
  )
  ) (
  OP (binI .eql t13 (.int .u8 45)) fun t34_5 =>
  BR t34_5 (
  OP (aun .not (.bool true)) fun t40_20 =>
  BR t40_20 (
  NTs [(.bool false)] ∧ Q (.bool false) M
  ) (
  OP (binI .add x3 (.int .i64 1)) fun t10_20 =>
  P_fettleref4_Ok_1 x0 t10_20 M Q
  )
  ) (
  OP (binI .eql t13 (.int .u8 95)) fun t38_5 =>
  OP (aun .not t38_5) fun t40_21 =>
  BR t40_21 (
  NTs [(.bool false)] ∧ Q (.bool false) M
  ) (
  OP (binI .add x3 (.int .i64 1)) fun t10_21 =>
  P_fettleref4_Ok_1 x0 t10_21 M Q
  )
  )
  )
  ) (
  BR t22_1 (
  BR undef (
  OP (aun .not (.bool true)) fun t40_22 =>
  BR t40_22 (
  NTs [(.bool false)] ∧ Q (.bool false) M
  ) (
  OP (binI .add x3 (.int .i64 1)) fun t10_22 =>
  P_fettleref4_Ok_1 x0 t10_22 M Q
  )
  ) (
  OP (binI .eql t13 (.int .u8 46)) fun t30_6 =>
  BR t30_6 (
  OP (aun .not (.bool true)) fun t40_23 =>
  BR t40_23 (
  NTs [(.bool false)] ∧ Q (.bool false) M
  ) (
  OP (binI .add x3 (.int .i64 1)) fun t10_23 =>
  P_fettleref4_Ok_1 x0 t10_23 M Q
  )
  ) (
  OP (binI .eql t13 (.int .u8 45)) fun t34_6 =>
  BR t34_6 (
  OP (aun .not (.bool true)) fun t40_24 =>
  BR t40_24 (
  NTs [(.bool false)] ∧ Q (.bool false) M
  ) (
  OP (binI .add x3 (.int .i64 1)) fun t10_24 =>
  P_fettleref4_Ok_1 x0 t10_24 M Q
  )
  ) (
  OP (binI .eql t13 (.int .u8 95)) fun t38_6 =>
  OP (aun .not t38_6) fun t40_25 =>
  BR t40_25 (
  NTs [(.bool false)] ∧ Q (.bool false) M
  ) (
  OP (binI .add x3 (.int .i64 1)) fun t10_25 =>
  P_fettleref4_Ok_1 x0 t10_25 M Q
  )
  )
  )
  )
  ) (
  OP (binI .eql t13 (.int .u8 46)) fun t30_7 =>
  BR t30_7 (
  OP (aun .not (.bool true)) fun t40_26 =>
  BR t40_26 (
  NTs [(.bool false)] ∧ Q (.bool false) M
  ) (
  OP (binI .add x3 (.int .i64 1)) fun t10_26 =>
  P_fettleref4_Ok_1 x0 t10_26 M Q
  )
  ) (
  OP (binI .eql t13 (.int .u8 45)) fun t34_7 =>
  BR t34_7 (
  OP (aun .not (.bool true)) fun t40_27 =>
  BR t40_27 (
  NTs [(.bool false)] ∧ Q (.bool false) M
  ) (
  OP (binI .add x3 (.int .i64 1)) fun t10_27 =>
  P_fettleref4_Ok_1 x0 t10_27 M Q
  )
  ) (
  OP (binI .eql t13 (.int .u8 95)) fun t38_7 =>
  OP (aun .not t38_7) fun t40_28 =>
  BR t40_28 (
  NTs [(.bool false)] ∧ Q (.bool false) M
  ) (
  OP (binI .add x3 (.int .i64 1)) fun t10_28 =>
  P_fettleref4_Ok_1 x0 t10_28 M Q
  )
  )
  )
  )
  )
  )
theorem T_fettleref4_Ok_2 {x0 x3 : Value} {M : Store} {Q : Value → Store → Prop} (h : S_fettleref4_Ok_2 x0 x3 M Q) : P_fettleref4_Ok_2 x0 x3 M Q := by
  intro f h0 h3; subst h0; subst h3
  unfold At
  exact rule (B := 1000) (N := 49) (ct := .no)
    [⟨0, fun a M => dfr a.defers (P_fettleref4_Ok_1 (a.get 0) (a.get 3) M Q), fun a M => At Tryd.prog Ex none Tryd.f32 [1, 0, 1, 0] a M Q⟩,
    ⟨1, fun a M => kfin Tryd.prog Tryd.f32.results.toList Q 1 a M, fun a M => kfin Tryd.prog Tryd.f32.results.toList Q 1 a M⟩]
    [] [0, 1] (by kernel_rfl) (by kernel_rfl) (by kernel_rfl) (by kernel_rfl) (by kernel_rfl)
    ⟨fun a M hn h => by obtain ⟨⟨n, f⟩, ds⟩ := a; have hn : n = 49 := hn; subst hn; obtain ⟨hd, h⟩ := dfr_iff h; have hd : ds = [] := hd; subst hd; exact h f rfl rfl,
    fun _ _ _ h => h,
    trivial⟩
    (cast (by kernel_rfl) h)
def S_fettleref4_Ok_3 (x0 : Value) (M : Store) (Q : Value → Store → Prop) : Prop :=
  OP (lenS x0) fun t42 =>
  OP (binI .geq t42 (.int .i64 1)) fun t43 =>
  BR t43 (
  OP (lenS x0) fun t46 =>
  OP (binI .leq t46 (.int .i64 16)) fun t47 =>
  NTs [t47] ∧ Q t47 M
  ) (
  NTs [(.bool false)] ∧ Q (.bool false) M
  )
theorem T_fettleref4_Ok_3 {x0 : Value} {M : Store} {Q : Value → Store → Prop} (h : S_fettleref4_Ok_3 x0 M Q) : P_fettleref4_Ok_3 x0 M Q := by
  intro f h0; subst h0
  unfold At
  exact rule (B := 1000) (N := 49) (ct := .no)
    [⟨1, fun a M => kfin Tryd.prog Tryd.f32.results.toList Q 1 a M, fun a M => kfin Tryd.prog Tryd.f32.results.toList Q 1 a M⟩]
    [] [1] (by kernel_rfl) (by kernel_rfl) (by kernel_rfl) (by kernel_rfl) (by kernel_rfl)
    ⟨fun _ _ _ h => h,
    trivial⟩
    (cast (by kernel_rfl) h)
def P_fettleref4_File_1 (x0 x3 : Value) (M : Store) (Q : Value → Store → Prop) : Prop :=
  ∀ f : Nat → Value, f 0 = x0 → f 3 = x3 → At Tryd.prog Ex none Tryd.f33 [1, 0, 1, 0] ⟨⟨27, f⟩, []⟩ M Q
def P_fettleref4_File_2 (x0 x3 : Value) (M : Store) (Q : Value → Store → Prop) : Prop :=
  ∀ f : Nat → Value, f 0 = x0 → f 3 = x3 → At Tryd.prog Ex none Tryd.f33 [1, 0, 1, 0, 0, 1] ⟨⟨27, f⟩, []⟩ M Q
def P_fettleref4_File_3 (x0 : Value) (M : Store) (Q : Value → Store → Prop) : Prop :=
  ∀ f : Nat → Value, f 0 = x0 → At Tryd.prog Ex none Tryd.f33 [1, 1] ⟨⟨27, f⟩, []⟩ M Q
def S_fettleref4_File (x0 : Value) (M : Store) (Q : Value → Store → Prop) : Prop :=
  P_fettleref4_File_1 x0 (.int .i64 0) M Q
theorem T_fettleref4_File {x0 : Value} {M : Store} {Q : Value → Store → Prop} (h : S_fettleref4_File x0 M Q) : R F.fettleref4_File #[x0] M Q := by
  refine runs_of (c := bodyOf Tryd.f33) Tryd.func33 rfl (by kernel_rfl) (by kernel_rfl) ?_
  unfold At
  exact rule (B := 1000) (N := 27) (ct := (.two .no (.two (.two .no (.two (.here 1000) .no)) (.here 1001))))
    [⟨1002, fun a M => dfr a.defers (P_fettleref4_File_1 (a.get 0) (a.get 3) M Q), fun a M => At Tryd.prog Ex none Tryd.f33 [1, 0, 1, 0] a M Q⟩,
    ⟨1003, fun _ _ => False, fun a M => At Tryd.prog Ex none Tryd.f33 [1, 1] a M Q⟩]
    [1000, 1001] [] (by kernel_rfl) (by kernel_rfl) (by kernel_rfl) (by kernel_rfl) (by kernel_rfl)
    ⟨fun a M hn h => by obtain ⟨⟨n, f⟩, ds⟩ := a; have hn : n = 27 := hn; subst hn; obtain ⟨hd, h⟩ := dfr_iff h; have hd : ds = [] := hd; subst hd; exact h f rfl rfl,
    fun _ _ _ h => h.elim,
    trivial⟩
    (cast (by kernel_rfl) h)
def S_fettleref4_File_1 (x0 x3 : Value) (M : Store) (Q : Value → Store → Prop) : Prop :=
  OP (lenS x0) fun t6 =>
  OP (binI .lss x3 t6) fun t7 =>
  BR t7 (
  P_fettleref4_File_2 x0 x3 M Q
  ) (
  P_fettleref4_File_3 x0 M Q
  )
theorem T_fettleref4_File_1 {x0 x3 : Value} {M : Store} {Q : Value → Store → Prop} (h : S_fettleref4_File_1 x0 x3 M Q) : P_fettleref4_File_1 x0 x3 M Q := by
  intro f h0 h3; subst h0; subst h3
  unfold At
  refine cast (by kernel_rfl) (CW.loop (P := Tryd.prog) (E := Ex) (rd := none) (x := sub (bodyOf Tryd.f33) [1, 0, 1, 0, 0]) (a := ⟨⟨27, f⟩, []⟩) (M := M) (K := kcont Tryd.prog Ex none (bodyOf Tryd.f33) [1, 0, 1, 0] (kfin Tryd.prog Tryd.f33.results.toList Q)) ?_)
  exact rule (B := 1000) (N := 27) (ct := (.two .no (.here 1000)))
    [⟨1002, fun a M => dfr a.defers (P_fettleref4_File_2 (a.get 0) (a.get 3) M Q), fun a M => At Tryd.prog Ex none Tryd.f33 [1, 0, 1, 0, 0, 1] a M Q⟩,
    ⟨2, fun a M => dfr a.defers (P_fettleref4_File_3 (a.get 0) M Q), fun a M => At Tryd.prog Ex none Tryd.f33 [1, 1] a M Q⟩]
    [1000] [2] (by kernel_rfl) (by kernel_rfl) (by kernel_rfl) (by kernel_rfl) (by kernel_rfl)
    ⟨fun a M hn h => by obtain ⟨⟨n, f⟩, ds⟩ := a; have hn : n = 27 := hn; subst hn; obtain ⟨hd, h⟩ := dfr_iff h; have hd : ds = [] := hd; subst hd; exact h f rfl rfl,
    fun a M hn h => by obtain ⟨⟨n, f⟩, ds⟩ := a; have hn : n = 27 := hn; subst hn; obtain ⟨hd, h⟩ := dfr_iff h; have hd : ds = [] := hd; subst hd; exact h f rfl,
    trivial⟩
    (cast (by kernel_rfl) h)
def S_fettleref4_File_2 (x0 x3 : Value) (M : Store) (Q : Value → Store → Prop) : Prop :=
  OP (ixS x0 x3) fun t12 =>
  OP (binI .eql t12 (.int .u8 47)) fun t13 =>
  BR t13 (
  OP (slS x0 none (some x3)) fun t16 =>
  R F.fettleref4_Ok #[t16] M fun t17 M1 =>
  BR t17 (
  OP (binI .add x3 (.int .i64 1)) fun t21 =>
  OP (slS x0 (some t21) none) fun t22 =>
  R F.fettleref4_Ok #[t22] M1 fun t23 M2 =>
  NTs [t23] ∧ Q t23 M2
  ) (
  NTs [(.bool false)] ∧ Q (.bool false) M1
  )
  ) (
  OP (binI .add x3 (.int .i64 1)) fun t9 =>
  P_fettleref4_File_1 x0 t9 M Q
  )
theorem T_fettleref4_File_2 {x0 x3 : Value} {M : Store} {Q : Value → Store → Prop} (h : S_fettleref4_File_2 x0 x3 M Q) : P_fettleref4_File_2 x0 x3 M Q := by
  intro f h0 h3; subst h0; subst h3
  unfold At
  exact rule (B := 1000) (N := 27) (ct := .no)
    [⟨0, fun a M => dfr a.defers (P_fettleref4_File_1 (a.get 0) (a.get 3) M Q), fun a M => At Tryd.prog Ex none Tryd.f33 [1, 0, 1, 0] a M Q⟩,
    ⟨1, fun a M => kfin Tryd.prog Tryd.f33.results.toList Q 1 a M, fun a M => kfin Tryd.prog Tryd.f33.results.toList Q 1 a M⟩]
    [] [0, 1] (by kernel_rfl) (by kernel_rfl) (by kernel_rfl) (by kernel_rfl) (by kernel_rfl)
    ⟨fun a M hn h => by obtain ⟨⟨n, f⟩, ds⟩ := a; have hn : n = 27 := hn; subst hn; obtain ⟨hd, h⟩ := dfr_iff h; have hd : ds = [] := hd; subst hd; exact h f rfl rfl,
    fun _ _ _ h => h,
    trivial⟩
    (cast (by kernel_rfl) h)
def S_fettleref4_File_3 (x0 : Value) (M : Store) (Q : Value → Store → Prop) : Prop :=
  R F.fettleref4_Ok #[x0] M fun t26 M1 =>
  NTs [t26] ∧ Q t26 M1
theorem T_fettleref4_File_3 {x0 : Value} {M : Store} {Q : Value → Store → Prop} (h : S_fettleref4_File_3 x0 M Q) : P_fettleref4_File_3 x0 M Q := by
  intro f h0; subst h0
  unfold At
  exact rule (B := 1000) (N := 27) (ct := .no)
    [⟨1, fun a M => kfin Tryd.prog Tryd.f33.results.toList Q 1 a M, fun a M => kfin Tryd.prog Tryd.f33.results.toList Q 1 a M⟩]
    [] [1] (by kernel_rfl) (by kernel_rfl) (by kernel_rfl) (by kernel_rfl) (by kernel_rfl)
    ⟨fun _ _ _ h => h,
    trivial⟩
    (cast (by kernel_rfl) h)
def P_fettleref4_Dec_1 (x0 x3 : Value) (M : Store) (Q : Value → Store → Prop) : Prop :=
  ∀ f : Nat → Value, f 0 = x0 → f 3 = x3 → At Tryd.prog Ex none Tryd.f51 [1, 1, 0, 0] ⟨⟨21, f⟩, []⟩ M Q
def P_fettleref4_Dec_2 (x0 x3 : Value) (M : Store) (Q : Value → Store → Prop) : Prop :=
  ∀ f : Nat → Value, f 0 = x0 → f 3 = x3 → At Tryd.prog Ex none Tryd.f51 [1, 1, 0, 0, 0, 1] ⟨⟨21, f⟩, []⟩ M Q
def P_fettleref4_Dec_3 (x3 : Value) (M : Store) (Q : Value → Store → Prop) : Prop :=
  ∀ f : Nat → Value, f 3 = x3 → At Tryd.prog Ex none Tryd.f51 [1, 1, 1] ⟨⟨21, f⟩, []⟩ M Q
def S_fettleref4_Dec (x0 : Value) (M : Store) (Q : Value → Store → Prop) : Prop :=
  P_fettleref4_Dec_1 x0 (.string ⟨#[]⟩) M Q
theorem T_fettleref4_Dec {x0 : Value} {M : Store} {Q : Value → Store → Prop} (h : S_fettleref4_Dec x0 M Q) : R F.fettleref4_Dec #[x0] M Q := by
  refine runs_of (c := bodyOf Tryd.f51) Tryd.func51 rfl (by kernel_rfl) (by kernel_rfl) ?_
  unfold At
  exact rule (B := 1000) (N := 21) (ct := (.two .no (.two .no (.two (.two (.here 1000) .no) (.here 1001)))))
    [⟨1002, fun a M => dfr a.defers (P_fettleref4_Dec_1 (a.get 0) (a.get 3) M Q), fun a M => At Tryd.prog Ex none Tryd.f51 [1, 1, 0, 0] a M Q⟩,
    ⟨1003, fun _ _ => False, fun a M => At Tryd.prog Ex none Tryd.f51 [1, 1, 1] a M Q⟩]
    [1000, 1001] [] (by kernel_rfl) (by kernel_rfl) (by kernel_rfl) (by kernel_rfl) (by kernel_rfl)
    ⟨fun a M hn h => by obtain ⟨⟨n, f⟩, ds⟩ := a; have hn : n = 21 := hn; subst hn; obtain ⟨hd, h⟩ := dfr_iff h; have hd : ds = [] := hd; subst hd; exact h f rfl rfl,
    fun _ _ _ h => h.elim,
    trivial⟩
    (cast (by kernel_rfl) h)
def S_fettleref4_Dec_1 (x0 x3 : Value) (M : Store) (Q : Value → Store → Prop) : Prop :=
  OP (binI .gtr x0 (.int .i64 0)) fun t5 =>
  BR t5 (
  P_fettleref4_Dec_2 x0 x3 M Q
  ) (
  OP (binS .eql x3 (.string ⟨#[]⟩)) fun t8 =>
  BR t8 (
  P_fettleref4_Dec_2 x0 x3 M Q
  ) (
  P_fettleref4_Dec_3 x3 M Q
  )
  )
theorem T_fettleref4_Dec_1 {x0 x3 : Value} {M : Store} {Q : Value → Store → Prop} (h : S_fettleref4_Dec_1 x0 x3 M Q) : P_fettleref4_Dec_1 x0 x3 M Q := by
  intro f h0 h3; subst h0; subst h3
  unfold At
  refine cast (by kernel_rfl) (CW.loop (P := Tryd.prog) (E := Ex) (rd := none) (x := sub (bodyOf Tryd.f51) [1, 1, 0, 0, 0]) (a := ⟨⟨21, f⟩, []⟩) (M := M) (K := kcont Tryd.prog Ex none (bodyOf Tryd.f51) [1, 1, 0, 0] (kfin Tryd.prog Tryd.f51.results.toList Q)) ?_)
  exact rule (B := 1000) (N := 21) (ct := (.two .no (.here 1000)))
    [⟨1002, fun a M => dfr a.defers (P_fettleref4_Dec_2 (a.get 0) (a.get 3) M Q), fun a M => At Tryd.prog Ex none Tryd.f51 [1, 1, 0, 0, 0, 1] a M Q⟩,
    ⟨2, fun a M => dfr a.defers (P_fettleref4_Dec_3 (a.get 3) M Q), fun a M => At Tryd.prog Ex none Tryd.f51 [1, 1, 1] a M Q⟩]
    [1000] [2] (by kernel_rfl) (by kernel_rfl) (by kernel_rfl) (by kernel_rfl) (by kernel_rfl)
    ⟨fun a M hn h => by obtain ⟨⟨n, f⟩, ds⟩ := a; have hn : n = 21 := hn; subst hn; obtain ⟨hd, h⟩ := dfr_iff h; have hd : ds = [] := hd; subst hd; exact h f rfl rfl,
    fun a M hn h => by obtain ⟨⟨n, f⟩, ds⟩ := a; have hn : n = 21 := hn; subst hn; obtain ⟨hd, h⟩ := dfr_iff h; have hd : ds = [] := hd; subst hd; exact h f rfl,
    trivial⟩
    (cast (by kernel_rfl) h)
def S_fettleref4_Dec_2 (x0 x3 : Value) (M : Store) (Q : Value → Store → Prop) : Prop :=
  OP (binI .rem x0 (.int .i64 10)) fun t11 =>
  OP (binI .add (.int .i64 48) t11) fun t12 =>
  OP (cvI .u8 t12) fun t13 =>
  OP (bldL (.int .u8 0) 1 1 [(0, t13)]) fun c =>
  LT (.slice (some ⟨M.n, 0, none⟩) 1 1) (M.push (some (.inl (c, Ty.uint8, true)))) fun t14 M1 =>
  OP (cvBS t14 M1) fun t15 =>
  OP (binS .add t15 x3) fun t17 =>
  OP (binI .quo x0 (.int .i64 10)) fun t19 =>
  P_fettleref4_Dec_1 t19 t17 M1 Q
theorem T_fettleref4_Dec_2 {x0 x3 : Value} {M : Store} {Q : Value → Store → Prop} (h : S_fettleref4_Dec_2 x0 x3 M Q) : P_fettleref4_Dec_2 x0 x3 M Q := by
  intro f h0 h3; subst h0; subst h3
  unfold At
  exact rule (B := 1000) (N := 21) (ct := .no)
    [⟨0, fun a M => dfr a.defers (P_fettleref4_Dec_1 (a.get 0) (a.get 3) M Q), fun a M => At Tryd.prog Ex none Tryd.f51 [1, 1, 0, 0] a M Q⟩]
    [] [0] (by kernel_rfl) (by kernel_rfl) (by kernel_rfl) (by kernel_rfl) (by kernel_rfl)
    ⟨fun a M hn h => by obtain ⟨⟨n, f⟩, ds⟩ := a; have hn : n = 21 := hn; subst hn; obtain ⟨hd, h⟩ := dfr_iff h; have hd : ds = [] := hd; subst hd; exact h f rfl rfl,
    trivial⟩
    (cast (by kernel_rfl) h)
def S_fettleref4_Dec_3 (x3 : Value) (M : Store) (Q : Value → Store → Prop) : Prop :=
  NTs [x3] ∧ Q x3 M
theorem T_fettleref4_Dec_3 {x3 : Value} {M : Store} {Q : Value → Store → Prop} (h : S_fettleref4_Dec_3 x3 M Q) : P_fettleref4_Dec_3 x3 M Q := by
  intro f h3; subst h3
  unfold At
  exact rule (B := 1000) (N := 21) (ct := .no)
    [⟨1, fun a M => kfin Tryd.prog Tryd.f51.results.toList Q 1 a M, fun a M => kfin Tryd.prog Tryd.f51.results.toList Q 1 a M⟩]
    [] [1] (by kernel_rfl) (by kernel_rfl) (by kernel_rfl) (by kernel_rfl) (by kernel_rfl)
    ⟨fun _ _ _ h => h,
    trivial⟩
    (cast (by kernel_rfl) h)
def P_fettleref4_Number_1 (x0 x1 x6 x7 : Value) (M : Store) (Q : Value → Store → Prop) : Prop :=
  ∀ f : Nat → Value, f 0 = x0 → f 1 = x1 → f 6 = x6 → f 7 = x7 → At Tryd.prog Ex none Tryd.f52 [1, 1, 0, 1, 0] ⟨⟨49, f⟩, []⟩ M Q
def P_fettleref4_Number_2 (x0 x1 x6 x7 : Value) (M : Store) (Q : Value → Store → Prop) : Prop :=
  ∀ f : Nat → Value, f 0 = x0 → f 1 = x1 → f 6 = x6 → f 7 = x7 → At Tryd.prog Ex none Tryd.f52 [1, 1, 0, 1, 0, 0, 1] ⟨⟨49, f⟩, []⟩ M Q
def P_fettleref4_Number_3 (x0 x6 : Value) (M : Store) (Q : Value → Store → Prop) : Prop :=
  ∀ f : Nat → Value, f 0 = x0 → f 6 = x6 → At Tryd.prog Ex none Tryd.f52 [1, 1, 1] ⟨⟨49, f⟩, []⟩ M Q
def S_fettleref4_Number (x0 x1 : Value) (M : Store) (Q : Value → Store → Prop) : Prop :=
  P_fettleref4_Number_1 x0 x1 (.int .i64 0) (.int .i64 0) M Q
theorem T_fettleref4_Number {x0 x1 : Value} {M : Store} {Q : Value → Store → Prop} (h : S_fettleref4_Number x0 x1 M Q) : R F.fettleref4_Number #[x0, x1] M Q := by
  refine runs_of (c := bodyOf Tryd.f52) Tryd.func52 rfl (by kernel_rfl) (by kernel_rfl) ?_
  unfold At
  exact rule (B := 1000) (N := 49) (ct := (.two .no (.two .no (.two (.two .no (.two (.here 1000) .no)) (.here 1001)))))
    [⟨1002, fun a M => dfr a.defers (P_fettleref4_Number_1 (a.get 0) (a.get 1) (a.get 6) (a.get 7) M Q), fun a M => At Tryd.prog Ex none Tryd.f52 [1, 1, 0, 1, 0] a M Q⟩,
    ⟨1003, fun _ _ => False, fun a M => At Tryd.prog Ex none Tryd.f52 [1, 1, 1] a M Q⟩]
    [1000, 1001] [] (by kernel_rfl) (by kernel_rfl) (by kernel_rfl) (by kernel_rfl) (by kernel_rfl)
    ⟨fun a M hn h => by obtain ⟨⟨n, f⟩, ds⟩ := a; have hn : n = 49 := hn; subst hn; obtain ⟨hd, h⟩ := dfr_iff h; have hd : ds = [] := hd; subst hd; exact h f rfl rfl rfl rfl,
    fun _ _ _ h => h.elim,
    trivial⟩
    (cast (by kernel_rfl) h)
def S_fettleref4_Number_1 (x0 x1 x6 x7 : Value) (M : Store) (Q : Value → Store → Prop) : Prop :=
  OP (lenS x0) fun t10 =>
  OP (binI .lss x7 t10) fun t11 =>
  BR t11 (
  P_fettleref4_Number_2 x0 x1 x6 x7 M Q
  ) (
  P_fettleref4_Number_3 x0 x6 M Q
  )
theorem T_fettleref4_Number_1 {x0 x1 x6 x7 : Value} {M : Store} {Q : Value → Store → Prop} (h : S_fettleref4_Number_1 x0 x1 x6 x7 M Q) : P_fettleref4_Number_1 x0 x1 x6 x7 M Q := by
  intro f h0 h1 h6 h7; subst h0; subst h1; subst h6; subst h7
  unfold At
  refine cast (by kernel_rfl) (CW.loop (P := Tryd.prog) (E := Ex) (rd := none) (x := sub (bodyOf Tryd.f52) [1, 1, 0, 1, 0, 0]) (a := ⟨⟨49, f⟩, []⟩) (M := M) (K := kcont Tryd.prog Ex none (bodyOf Tryd.f52) [1, 1, 0, 1, 0] (kfin Tryd.prog Tryd.f52.results.toList Q)) ?_)
  exact rule (B := 1000) (N := 49) (ct := (.two .no (.here 1000)))
    [⟨1002, fun a M => dfr a.defers (P_fettleref4_Number_2 (a.get 0) (a.get 1) (a.get 6) (a.get 7) M Q), fun a M => At Tryd.prog Ex none Tryd.f52 [1, 1, 0, 1, 0, 0, 1] a M Q⟩,
    ⟨2, fun a M => dfr a.defers (P_fettleref4_Number_3 (a.get 0) (a.get 6) M Q), fun a M => At Tryd.prog Ex none Tryd.f52 [1, 1, 1] a M Q⟩]
    [1000] [2] (by kernel_rfl) (by kernel_rfl) (by kernel_rfl) (by kernel_rfl) (by kernel_rfl)
    ⟨fun a M hn h => by obtain ⟨⟨n, f⟩, ds⟩ := a; have hn : n = 49 := hn; subst hn; obtain ⟨hd, h⟩ := dfr_iff h; have hd : ds = [] := hd; subst hd; exact h f rfl rfl rfl rfl,
    fun a M hn h => by obtain ⟨⟨n, f⟩, ds⟩ := a; have hn : n = 49 := hn; subst hn; obtain ⟨hd, h⟩ := dfr_iff h; have hd : ds = [] := hd; subst hd; exact h f rfl rfl,
    trivial⟩
    (cast (by kernel_rfl) h)
def S_fettleref4_Number_2 (x0 x1 x6 x7 : Value) (M : Store) (Q : Value → Store → Prop) : Prop :=
  OP (ixS x0 x7) fun t16 =>
  OP (binI .lss t16 (.int .u8 48)) fun t17 =>
  BR t17 (
  NTs [(.int .i64 0), (.bool false)] ∧ Q (.tuple #[(.int .i64 0), (.bool false)]) M
  ) (
  OP (ixS x0 x7) fun t21 =>
  OP (binI .gtr t21 (.int .u8 57)) fun t22 =>
  BR t22 (
  NTs [(.int .i64 0), (.bool false)] ∧ Q (.tuple #[(.int .i64 0), (.bool false)]) M
  ) (
  OP (binI .geq x7 x1) fun t27 =>
  BR t27 (
  NTs [(.int .i64 0), (.bool false)] ∧ Q (.tuple #[(.int .i64 0), (.bool false)]) M
  ) (
  OP (binI .mul (.int .i64 10) x6) fun t30 =>
  OP (ixS x0 x7) fun t33 =>
  OP (binI .sub t33 (.int .u8 48)) fun t34 =>
  OP (cvI .i64 t34) fun t35 =>
  OP (binI .add t30 t35) fun t36 =>
  OP (binI .add x7 (.int .i64 1)) fun t13 =>
  P_fettleref4_Number_1 x0 x1 t36 t13 M Q
  )
  )
  )
theorem T_fettleref4_Number_2 {x0 x1 x6 x7 : Value} {M : Store} {Q : Value → Store → Prop} (h : S_fettleref4_Number_2 x0 x1 x6 x7 M Q) : P_fettleref4_Number_2 x0 x1 x6 x7 M Q := by
  intro f h0 h1 h6 h7; subst h0; subst h1; subst h6; subst h7
  unfold At
  exact rule (B := 1000) (N := 49) (ct := .no)
    [⟨0, fun a M => dfr a.defers (P_fettleref4_Number_1 (a.get 0) (a.get 1) (a.get 6) (a.get 7) M Q), fun a M => At Tryd.prog Ex none Tryd.f52 [1, 1, 0, 1, 0] a M Q⟩,
    ⟨1, fun a M => kfin Tryd.prog Tryd.f52.results.toList Q 1 a M, fun a M => kfin Tryd.prog Tryd.f52.results.toList Q 1 a M⟩]
    [] [0, 1] (by kernel_rfl) (by kernel_rfl) (by kernel_rfl) (by kernel_rfl) (by kernel_rfl)
    ⟨fun a M hn h => by obtain ⟨⟨n, f⟩, ds⟩ := a; have hn : n = 49 := hn; subst hn; obtain ⟨hd, h⟩ := dfr_iff h; have hd : ds = [] := hd; subst hd; exact h f rfl rfl rfl rfl,
    fun _ _ _ h => h,
    trivial⟩
    (cast (by kernel_rfl) h)
def S_fettleref4_Number_3 (x0 x6 : Value) (M : Store) (Q : Value → Store → Prop) : Prop :=
  OP (binS .eql x0 (.string ⟨#[]⟩)) fun t38 =>
  BR t38 (
  NTs [(.int .i64 0), (.bool false)] ∧ Q (.tuple #[(.int .i64 0), (.bool false)]) M
  ) (
  OP (binS .neq x0 (.string ⟨#[48]⟩)) fun t41 =>
  BR3 t41 (
  OP (ixS x0 (.int .i64 0)) fun t44 =>
  OP (binI .eql t44 (.int .u8 48)) fun t45 =>
  BR t45 (
  NTs [(.int .i64 0), (.bool false)] ∧ Q (.tuple #[(.int .i64 0), (.bool false)]) M
  ) (
  NTs [x6, (.bool true)] ∧ Q (.tuple #[x6, (.bool true)]) M
  )
  ) (
  NTs [x6, (.bool true)] ∧ Q (.tuple #[x6, (.bool true)]) M
  ) (
  BR t41 (
  BR undef (
  NTs [(.int .i64 0), (.bool false)] ∧ Q (.tuple #[(.int .i64 0), (.bool false)]) M
  ) (
  NTs [x6, (.bool true)] ∧ Q (.tuple #[x6, (.bool true)]) M
  )
  ) (
  NTs [x6, (.bool true)] ∧ Q (.tuple #[x6, (.bool true)]) M
  )
  )
  )
theorem T_fettleref4_Number_3 {x0 x6 : Value} {M : Store} {Q : Value → Store → Prop} (h : S_fettleref4_Number_3 x0 x6 M Q) : P_fettleref4_Number_3 x0 x6 M Q := by
  intro f h0 h6; subst h0; subst h6
  unfold At
  exact rule (B := 1000) (N := 49) (ct := .no)
    [⟨1, fun a M => kfin Tryd.prog Tryd.f52.results.toList Q 1 a M, fun a M => kfin Tryd.prog Tryd.f52.results.toList Q 1 a M⟩]
    [] [1] (by kernel_rfl) (by kernel_rfl) (by kernel_rfl) (by kernel_rfl) (by kernel_rfl)
    ⟨fun _ _ _ h => h,
    trivial⟩
    (cast (by kernel_rfl) h)
end Go.G
