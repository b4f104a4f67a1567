/-  -/
import Derived.Test.YtnonfejhkbaikaaDoorPGN
open Go.RowKit
namespace Go.G
open Go.Ab Go.Proofs
set_option linter.unusedVariables false
set_option maxRecDepth 100000
def S_strings_Split (x0 x1 : Value) (M : Store) (Q : Value → Store → Prop) : Prop :=
  R F.strings_genSplit #[x0, x1, (.int .i64 0), (.int .i64 (-1))] M fun t7 M1 =>
  NTs [t7] ∧ Q t7 M1
theorem T_strings_Split {x0 x1 : Value} {M : Store} {Q : Value → Store → Prop} (h : S_strings_Split x0 x1 M Q) : R F.strings_Split #[x0, x1] M Q := by
  refine runs_of (c := bodyOf Tryd.f23) Tryd.func23 rfl (by kernel_rfl) (by kernel_rfl) ?_
  unfold At
  exact rule (B := 1000) (N := 8) (ct := .no)
    [⟨1, fun a M => kfin Tryd.prog Tryd.f23.results.toList Q 1 a M, fun a M => kfin Tryd.prog Tryd.f23.results.toList Q 1 a M⟩]
    [] [1] (by kernel_rfl) (by kernel_rfl) (by kernel_rfl) (by kernel_rfl) (by kernel_rfl)
    ⟨fun _ _ _ h => h,
    trivial⟩
    (cast (by kernel_rfl) h)
def P_strings_genSplit_1 (x0 x1 x2 x3 : Value) (M : Store) (Q : Value → Store → Prop) : Prop :=
  ∀ f : Nat → Value, f 0 = x0 → f 1 = x1 → f 2 = x2 → f 3 = x3 → At Tryd.prog Ex none Tryd.f43 [1, 1, 1, 1] ⟨⟨66, f⟩, []⟩ M Q
def P_strings_genSplit_2 (x0 x1 x2 x3 x9 x10 : Value) (M : Store) (Q : Value → Store → Prop) : Prop :=
  ∀ f : Nat → Value, f 0 = x0 → f 1 = x1 → f 2 = x2 → f 3 = x3 → f 9 = x9 → f 10 = x10 → At Tryd.prog Ex none Tryd.f43 [1, 1, 1, 1, 1, 1, 1, 1, 0, 0] ⟨⟨66, f⟩, []⟩ M Q
def P_strings_genSplit_3 (x0 x1 x2 x3 x9 x10 : Value) (M : Store) (Q : Value → Store → Prop) : Prop :=
  ∀ f : Nat → Value, f 0 = x0 → f 1 = x1 → f 2 = x2 → f 3 = x3 → f 9 = x9 → f 10 = x10 → At Tryd.prog Ex none Tryd.f43 [1, 1, 1, 1, 1, 1, 1, 1, 0, 0, 0, 1] ⟨⟨66, f⟩, []⟩ M Q
def P_strings_genSplit_4 (x0 x9 x10 : Value) (M : Store) (Q : Value → Store → Prop) : Prop :=
  ∀ f : Nat → Value, f 0 = x0 → f 9 = x9 → f 10 = x10 → At Tryd.prog Ex none Tryd.f43 [1, 1, 1, 1, 1, 1, 1, 1, 1] ⟨⟨66, f⟩, []⟩ M Q
def P_strings_genSplit_5 (x0 x1 x2 x3 x9 x10 x11 : Value) (M : Store) (Q : Value → Store → Prop) : Prop :=
  ∀ f : Nat → Value, f 0 = x0 → f 1 = x1 → f 2 = x2 → f 3 = x3 → f 9 = x9 → f 10 = x10 → f 11 = x11 → At Tryd.prog Ex none Tryd.f43 [1, 1, 1, 1, 1, 1, 1, 1, 0, 0, 0, 1, 0, 1, 1] ⟨⟨66, f⟩, []⟩ M Q
def S_strings_genSplit (x0 x1 x2 x3 : Value) (M : Store) (Q : Value → Store → Prop) : Prop :=
  OP (binI .eql x3 (.int .i64 0)) fun t13 =>
  BR t13 (
  NTs [(.slice none 0 0)] ∧ Q (.slice none 0 0) M
  ) (
  OP (binS .eql x1 (.string ⟨#[]⟩)) fun t15 =>
  BR t15 (
  R F.strings_explode #[x0, x3] M fun t18 M1 =>
  NTs [t18] ∧ Q t18 M1
  ) (
  OP (binI .lss x3 (.int .i64 0)) fun t20 =>
  BR t20 (
  R F.strings_Count #[x0, x1] M fun t23 M2 =>
  OP (binI .add t23 (.int .i64 1)) fun t24 =>
  P_strings_genSplit_1 x0 x1 x2 t24 M2 Q
  ) (
  P_strings_genSplit_1 x0 x1 x2 x3 M Q
  )
  )
  )
theorem T_strings_genSplit {x0 x1 x2 x3 : Value} {M : Store} {Q : Value → Store → Prop} (h : S_strings_genSplit x0 x1 x2 x3 M Q) : R F.strings_genSplit #[x0, x1, x2, x3] M Q := by
  refine runs_of (c := bodyOf Tryd.f43) Tryd.func43 rfl (by kernel_rfl) (by kernel_rfl) ?_
  unfold At
  exact rule (B := 1000) (N := 66) (ct := (.two .no (.two .no (.two .no (.two .no (.here 1000))))))
    [⟨1002, fun a M => dfr a.defers (P_strings_genSplit_1 (a.get 0) (a.get 1) (a.get 2) (a.get 3) M Q), fun a M => At Tryd.prog Ex none Tryd.f43 [1, 1, 1, 1] a M Q⟩,
    ⟨1, fun a M => kfin Tryd.prog Tryd.f43.results.toList Q 1 a M, fun a M => kfin Tryd.prog Tryd.f43.results.toList Q 1 a M⟩]
    [1000] [1] (by kernel_rfl) (by kernel_rfl) (by kernel_rfl) (by kernel_rfl) (by kernel_rfl)
    ⟨fun a M hn h => by obtain ⟨⟨n, f⟩, ds⟩ := a; have hn : n = 66 := hn; subst hn; obtain ⟨hd, h⟩ := dfr_iff h; have hd : ds = [] := hd; subst hd; exact h f rfl rfl rfl rfl,
    fun _ _ _ h => h,
    trivial⟩
    (cast (by kernel_rfl) h)
def S_strings_genSplit_1 (x0 x1 x2 x3 : Value) (M : Store) (Q : Value → Store → Prop) : Prop :=
  OP (lenS x0) fun t27 =>
  OP (binI .add t27 (.int .i64 1)) fun t28 =>
  OP (amin2 x3 t28) fun t29 =>
  OP2 (mkS (.string ⟨#[]⟩) 1 16 Ty.string t29 t29 M) fun t31 M1 =>
  OP (binI .sub t29 (.int .i64 1)) fun t33 =>
  P_strings_genSplit_2 x0 x1 x2 t33 t31 (.int .i64 0) M1 Q
theorem T_strings_genSplit_1 {x0 x1 x2 x3 : Value} {M : Store} {Q : Value → Store → Prop} (h : S_strings_genSplit_1 x0 x1 x2 x3 M Q) : P_strings_genSplit_1 x0 x1 x2 x3 M Q := by
  intro f h0 h1 h2 h3; subst h0; subst h1; subst h2; subst h3
  unfold At
  exact rule (B := 1000) (N := 66) (ct := (.two .no (.two .no (.two .no (.two .no (.two (.two (.here 1000) .no) (.here 1001)))))))
    [⟨1002, fun a M => dfr a.defers (P_strings_genSplit_2 (a.get 0) (a.get 1) (a.get 2) (a.get 3) (a.get 9) (a.get 10) M Q), fun a M => At Tryd.prog Ex none Tryd.f43 [1, 1, 1, 1, 1, 1, 1, 1, 0, 0] a M Q⟩,
    ⟨1003, fun _ _ => False, fun a M => At Tryd.prog Ex none Tryd.f43 [1, 1, 1, 1, 1, 1, 1, 1, 1] a M Q⟩]
    [1000, 1001] [] (by kernel_rfl) (by kernel_rfl) (by kernel_rfl) (by kernel_rfl) (by kernel_rfl)
    ⟨fun a M hn h => by obtain ⟨⟨n, f⟩, ds⟩ := a; have hn : n = 66 := hn; subst hn; obtain ⟨hd, h⟩ := dfr_iff h; have hd : ds = [] := hd; subst hd; exact h f rfl rfl rfl rfl rfl rfl,
    fun _ _ _ h => h.elim,
    trivial⟩
    (cast (by kernel_rfl) h)
def S_strings_genSplit_2 (x0 x1 x2 x3 x9 x10 : Value) (M : Store) (Q : Value → Store → Prop) : Prop :=
  OP (binI .lss x10 x3) fun t36 =>
  BR t36 (
  P_strings_genSplit_3 x0 x1 x2 x3 x9 x10 M Q
  ) (
  P_strings_genSplit_4 x0 x9 x10 M Q
  )
theorem T_strings_genSplit_2 {x0 x1 x2 x3 x9 x10 : Value} {M : Store} {Q : Value → Store → Prop} (h : S_strings_genSplit_2 x0 x1 x2 x3 x9 x10 M Q) : P_strings_genSplit_2 x0 x1 x2 x3 x9 x10 M Q := by
  intro f h0 h1 h2 h3 h9 h10; subst h0; subst h1; subst h2; subst h3; subst h9; subst h10
  unfold At
  refine cast (by kernel_rfl) (CW.loop (P := Tryd.prog) (E := Ex) (rd := none) (x := sub (bodyOf Tryd.f43) [1, 1, 1, 1, 1, 1, 1, 1, 0, 0, 0]) (a := ⟨⟨66, f⟩, []⟩) (M := M) (K := kcont Tryd.prog Ex none (bodyOf Tryd.f43) [1, 1, 1, 1, 1, 1, 1, 1, 0, 0] (kfin Tryd.prog Tryd.f43.results.toList Q)) ?_)
  exact rule (B := 1000) (N := 66) (ct := (.two .no (.here 1000)))
    [⟨1002, fun a M => dfr a.defers (P_strings_genSplit_3 (a.get 0) (a.get 1) (a.get 2) (a.get 3) (a.get 9) (a.get 10) M Q), fun a M => At Tryd.prog Ex none Tryd.f43 [1, 1, 1, 1, 1, 1, 1, 1, 0, 0, 0, 1] a M Q⟩,
    ⟨2, fun a M => dfr a.defers (P_strings_genSplit_4 (a.get 0) (a.get 9) (a.get 10) M Q), fun a M => At Tryd.prog Ex none Tryd.f43 [1, 1, 1, 1, 1, 1, 1, 1, 1] a M Q⟩]
    [1000] [2] (by kernel_rfl) (by kernel_rfl) (by kernel_rfl) (by kernel_rfl) (by kernel_rfl)
    ⟨fun a M hn h => by obtain ⟨⟨n, f⟩, ds⟩ := a; have hn : n = 66 := hn; subst hn; obtain ⟨hd, h⟩ := dfr_iff h; have hd : ds = [] := hd; subst hd; exact h f rfl rfl rfl rfl rfl rfl,
    fun a M hn h => by obtain ⟨⟨n, f⟩, ds⟩ := a; have hn : n = 66 := hn; subst hn; obtain ⟨hd, h⟩ := dfr_iff h; have hd : ds = [] := hd; subst hd; exact h f rfl rfl rfl,
    trivial⟩
    (cast (by kernel_rfl) h)
def S_strings_genSplit_3 (x0 x1 x2 x3 x9 x10 : Value) (M : Store) (Q : Value → Store → Prop) : Prop :=
  R F.strings_Index #[x0, x1] M fun t39 M1 =>
  OP (binI .lss t39 (.int .i64 0)) fun t41 =>
  BR t41 (
  P_strings_genSplit_4 x0 x9 x10 M1 Q
  ) (
  P_strings_genSplit_5 x0 x1 x2 x3 x9 x10 t39 M1 Q
  )
theorem T_strings_genSplit_3 {x0 x1 x2 x3 x9 x10 : Value} {M : Store} {Q : Value → Store → Prop} (h : S_strings_genSplit_3 x0 x1 x2 x3 x9 x10 M Q) : P_strings_genSplit_3 x0 x1 x2 x3 x9 x10 M Q := by
  intro f h0 h1 h2 h3 h9 h10; subst h0; subst h1; subst h2; subst h3; subst h9; subst h10
  unfold At
  exact rule (B := 1000) (N := 66) (ct := (.two (.two .no (.two .no (.here 1000))) .no))
    [⟨1002, fun a M => dfr a.defers (P_strings_genSplit_5 (a.get 0) (a.get 1) (a.get 2) (a.get 3) (a.get 9) (a.get 10) (a.get 11) M Q), fun a M => At Tryd.prog Ex none Tryd.f43 [1, 1, 1, 1, 1, 1, 1, 1, 0, 0, 0, 1, 0, 1, 1] a M Q⟩,
    ⟨2, fun a M => dfr a.defers (P_strings_genSplit_4 (a.get 0) (a.get 9) (a.get 10) M Q), fun a M => At Tryd.prog Ex none Tryd.f43 [1, 1, 1, 1, 1, 1, 1, 1, 1] a M Q⟩]
    [1000] [2] (by kernel_rfl) (by kernel_rfl) (by kernel_rfl) (by kernel_rfl) (by kernel_rfl)
    ⟨fun a M hn h => by obtain ⟨⟨n, f⟩, ds⟩ := a; have hn : n = 66 := hn; subst hn; obtain ⟨hd, h⟩ := dfr_iff h; have hd : ds = [] := hd; subst hd; exact h f rfl rfl rfl rfl rfl rfl rfl,
    fun a M hn h => by obtain ⟨⟨n, f⟩, ds⟩ := a; have hn : n = 66 := hn; subst hn; obtain ⟨hd, h⟩ := dfr_iff h; have hd : ds = [] := hd; subst hd; exact h f rfl rfl rfl,
    trivial⟩
    (cast (by kernel_rfl) h)
def S_strings_genSplit_4 (x0 x9 x10 : Value) (M : Store) (Q : Value → Store → Prop) : Prop :=
  OP (ixA 1 x9 x10) fun t61 =>
  OP (st 1 t61 x0 M) fun M1 =>
  OP (binI .add x10 (.int .i64 1)) fun t64 =>
  OP (slV 1 Ty.string x9 none (some t64) M1) fun t65 =>
  NTs [t65] ∧ Q t65 M1
theorem T_strings_genSplit_4 {x0 x9 x10 : Value} {M : Store} {Q : Value → Store → Prop} (h : S_strings_genSplit_4 x0 x9 x10 M Q) : P_strings_genSplit_4 x0 x9 x10 M Q := by
  intro f h0 h9 h10; subst h0; subst h9; subst h10
  unfold At
  exact rule (B := 1000) (N := 66) (ct := .no)
    [⟨1, fun a M => kfin Tryd.prog Tryd.f43.results.toList Q 1 a M, fun a M => kfin Tryd.prog Tryd.f43.results.toList Q 1 a M⟩]
    [] [1] (by kernel_rfl) (by kernel_rfl) (by kernel_rfl) (by kernel_rfl) (by kernel_rfl)
    ⟨fun _ _ _ h => h,
    trivial⟩
    (cast (by kernel_rfl) h)
def S_strings_genSplit_5 (x0 x1 x2 x3 x9 x10 x11 : Value) (M : Store) (Q : Value → Store → Prop) : Prop :=
  OP (binI .add x11 x2) fun t47 =>
  OP (slS x0 none (some t47)) fun t48 =>
  OP (ixA 1 x9 x10) fun t49 =>
  OP (st 1 t49 t48 M) fun M1 =>
  OP (lenS x1) fun t53 =>
  OP (binI .add x11 t53) fun t54 =>
  OP (slS x0 (some t54) none) fun t55 =>
  OP (binI .add x10 (.int .i64 1)) fun t57 =>
  P_strings_genSplit_2 t55 x1 x2 x3 x9 t57 M1 Q
theorem T_strings_genSplit_5 {x0 x1 x2 x3 x9 x10 x11 : Value} {M : Store} {Q : Value → Store → Prop} (h : S_strings_genSplit_5 x0 x1 x2 x3 x9 x10 x11 M Q) : P_strings_genSplit_5 x0 x1 x2 x3 x9 x10 x11 M Q := by
  intro f h0 h1 h2 h3 h9 h10 h11; subst h0; subst h1; subst h2; subst h3; subst h9; subst h10; subst h11
  unfold At
  exact rule (B := 1000) (N := 66) (ct := .no)
    [⟨0, fun a M => dfr a.defers (P_strings_genSplit_2 (a.get 0) (a.get 1) (a.get 2) (a.get 3) (a.get 9) (a.get 10) M Q), fun a M => At Tryd.prog Ex none Tryd.f43 [1, 1, 1, 1, 1, 1, 1, 1, 0, 0] a M Q⟩]
    [] [0] (by kernel_rfl) (by kernel_rfl) (by kernel_rfl) (by kernel_rfl) (by kernel_rfl)
    ⟨fun a M hn h => by obtain ⟨⟨n, f⟩, ds⟩ := a; have hn : n = 66 := hn; subst hn; obtain ⟨hd, h⟩ := dfr_iff h; have hd : ds = [] := hd; subst hd; exact h f rfl rfl rfl rfl rfl rfl,
    trivial⟩
    (cast (by kernel_rfl) h)
def S_slices_Clip_sl_byte_byte (x0 : Value) (M : Store) (Q : Value → Store → Prop) : Prop :=
  OP (lenV x0) fun t5 =>
  OP (lenV x0) fun t7 =>
  OP (slM 1 Ty.uint8 x0 none t5 t7 M) fun t8 =>
  NTs [t8] ∧ Q t8 M
theorem T_slices_Clip_sl_byte_byte {x0 : Value} {M : Store} {Q : Value → Store → Prop} (h : S_slices_Clip_sl_byte_byte x0 M Q) : R F.slices_Clip_sl_byte_byte #[x0] M Q := by
  refine runs_of (c := bodyOf Tryd.f54) Tryd.func54 rfl (by kernel_rfl) (by kernel_rfl) ?_
  unfold At
  exact rule (B := 1000) (N := 9) (ct := .no)
    [⟨1, fun a M => kfin Tryd.prog Tryd.f54.results.toList Q 1 a M, fun a M => kfin Tryd.prog Tryd.f54.results.toList Q 1 a M⟩]
    [] [1] (by kernel_rfl) (by kernel_rfl) (by kernel_rfl) (by kernel_rfl) (by kernel_rfl)
    ⟨fun _ _ _ h => h,
    trivial⟩
    (cast (by kernel_rfl) h)
def S_slices_Clone_sl_byte_byte (x0 : Value) (M : Store) (Q : Value → Store → Prop) : Prop :=
  OP (abin Tryd.prog true .eql Ty.sl_uint8 x0 (.slice none 0 0)) fun t4 =>
  BR t4 (
  NTs [(.slice none 0 0)] ∧ Q (.slice none 0 0) M
  ) (
  OP (bldL (.int .u8 0) 1 0 []) fun c =>
  LT (.slice (some ⟨M.n, 0, none⟩) 0 0) (M.push (some (.inl (c, Ty.uint8, true)))) fun t5 M1 =>
  OP2 (appV 1 Ty.uint8 t5 x0 M1) fun t7 M2 =>
  NTs [t7] ∧ Q t7 M2
  )
theorem T_slices_Clone_sl_byte_byte {x0 : Value} {M : Store} {Q : Value → Store → Prop} (h : S_slices_Clone_sl_byte_byte x0 M Q) : R F.slices_Clone_sl_byte_byte #[x0] M Q := by
  refine runs_of (c := bodyOf Tryd.f55) Tryd.func55 rfl (by kernel_rfl) (by kernel_rfl) ?_
  unfold At
  exact rule (B := 1000) (N := 8) (ct := .no)
    [⟨1, fun a M => kfin Tryd.prog Tryd.f55.results.toList Q 1 a M, fun a M => kfin Tryd.prog Tryd.f55.results.toList Q 1 a M⟩]
    [] [1] (by kernel_rfl) (by kernel_rfl) (by kernel_rfl) (by kernel_rfl) (by kernel_rfl)
    ⟨fun _ _ _ h => h,
    trivial⟩
    (cast (by kernel_rfl) h)
def P_code_Num_1 (x1 x5 x6 : Value) (M : Store) (Q : Value → Store → Prop) : Prop :=
  ∀ f : Nat → Value, f 1 = x1 → f 5 = x5 → f 6 = x6 → At Tryd.prog Ex none Tryd.f56 [1, 1, 1, 0, 1, 0] ⟨⟨26, f⟩, []⟩ M Q
def P_code_Num_2 (x5 : Value) (M : Store) (Q : Value → Store → Prop) : Prop :=
  ∀ f : Nat → Value, f 5 = x5 → At Tryd.prog Ex none Tryd.f56 [1, 1, 1, 1] ⟨⟨26, f⟩, []⟩ M Q
def S_code_Num (x0 x1 : Value) (M : Store) (Q : Value → Store → Prop) : Prop :=
  OP (amax2 x1 (.int .i64 0)) fun t8 =>
  OP (amin2 t8 (.int .i64 1099511627776)) fun t9 =>
  R F.slices_Clone_sl_byte_byte #[x0] M fun t11 M1 =>
  R F.slices_Clip_sl_byte_byte #[t11] M1 fun t12 M2 =>
  P_code_Num_1 t9 t12 (.int .i64 5) M2 Q
theorem T_code_Num {x0 x1 : Value} {M : Store} {Q : Value → Store → Prop} (h : S_code_Num x0 x1 M Q) : R F.code_Num #[x0, x1] M Q := by
  refine runs_of (c := bodyOf Tryd.f56) Tryd.func56 rfl (by kernel_rfl) (by kernel_rfl) ?_
  unfold At
  exact rule (B := 1000) (N := 26) (ct := (.two .no (.two .no (.two .no (.two (.two .no (.two (.here 1000) .no)) (.here 1001))))))
    [⟨1002, fun a M => dfr a.defers (P_code_Num_1 (a.get 1) (a.get 5) (a.get 6) M Q), fun a M => At Tryd.prog Ex none Tryd.f56 [1, 1, 1, 0, 1, 0] a M Q⟩,
    ⟨1003, fun _ _ => False, fun a M => At Tryd.prog Ex none Tryd.f56 [1, 1, 1, 1] a M Q⟩]
    [1000, 1001] [] (by kernel_rfl) (by kernel_rfl) (by kernel_rfl) (by kernel_rfl) (by kernel_rfl)
    ⟨fun a M hn h => by obtain ⟨⟨n, f⟩, ds⟩ := a; have hn : n = 26 := hn; subst hn; obtain ⟨hd, h⟩ := dfr_iff h; have hd : ds = [] := hd; subst hd; exact h f rfl rfl rfl,
    fun _ _ _ h => h.elim,
    trivial⟩
    (cast (by kernel_rfl) h)
def S_code_Num_1 (x1 x5 x6 : Value) (M : Store) (Q : Value → Store → Prop) : Prop :=
  OP (binI .geq x6 (.int .i64 0)) fun t14 =>
  BR t14 (
  OP (binI .mul (.int .i64 8) x6) fun t20 =>
  OP (binI .shr x1 t20) fun t21 =>
  OP (cvI .u8 t21) fun t22 =>
  OP (bldL (.int .u8 0) 1 1 [(0, t22)]) fun c =>
  LT (.slice (some ⟨M.n, 0, none⟩) 1 1) (M.push (some (.inl (c, Ty.uint8, true)))) fun t23 M1 =>
  OP2 (appV 1 Ty.uint8 x5 t23 M1) fun t24 M2 =>
  OP (binI .sub x6 (.int .i64 1)) fun t16 =>
  P_code_Num_1 x1 t24 t16 M2 Q
  ) (
  P_code_Num_2 x5 M Q
  )
theorem T_code_Num_1 {x1 x5 x6 : Value} {M : Store} {Q : Value → Store → Prop} (h : S_code_Num_1 x1 x5 x6 M Q) : P_code_Num_1 x1 x5 x6 M Q := by
  intro f h1 h5 h6; subst h1; subst h5; subst h6
  unfold At
  refine cast (by kernel_rfl) (CW.loop (P := Tryd.prog) (E := Ex) (rd := none) (x := sub (bodyOf Tryd.f56) [1, 1, 1, 0, 1, 0, 0]) (a := ⟨⟨26, f⟩, []⟩) (M := M) (K := kcont Tryd.prog Ex none (bodyOf Tryd.f56) [1, 1, 1, 0, 1, 0] (kfin Tryd.prog Tryd.f56.results.toList Q)) ?_)
  exact rule (B := 1000) (N := 26) (ct := .no)
    [⟨0, fun a M => dfr a.defers (P_code_Num_1 (a.get 1) (a.get 5) (a.get 6) M Q), fun a M => At Tryd.prog Ex none Tryd.f56 [1, 1, 1, 0, 1, 0] a M Q⟩,
    ⟨2, fun a M => dfr a.defers (P_code_Num_2 (a.get 5) M Q), fun a M => At Tryd.prog Ex none Tryd.f56 [1, 1, 1, 1] a M Q⟩]
    [] [0, 2] (by kernel_rfl) (by kernel_rfl) (by kernel_rfl) (by kernel_rfl) (by kernel_rfl)
    ⟨fun a M hn h => by obtain ⟨⟨n, f⟩, ds⟩ := a; have hn : n = 26 := hn; subst hn; obtain ⟨hd, h⟩ := dfr_iff h; have hd : ds = [] := hd; subst hd; exact h f rfl rfl rfl,
    fun a M hn h => by obtain ⟨⟨n, f⟩, ds⟩ := a; have hn : n = 26 := hn; subst hn; obtain ⟨hd, h⟩ := dfr_iff h; have hd : ds = [] := hd; subst hd; exact h f rfl,
    trivial⟩
    (cast (by kernel_rfl) h)
def S_code_Num_2 (x5 : Value) (M : Store) (Q : Value → Store → Prop) : Prop :=
  NTs [x5] ∧ Q x5 M
theorem T_code_Num_2 {x5 : Value} {M : Store} {Q : Value → Store → Prop} (h : S_code_Num_2 x5 M Q) : P_code_Num_2 x5 M Q := by
  intro f h5; subst h5
  unfold At
  exact rule (B := 1000) (N := 26) (ct := .no)
    [⟨1, fun a M => kfin Tryd.prog Tryd.f56.results.toList Q 1 a M, fun a M => kfin Tryd.prog Tryd.f56.results.toList Q 1 a M⟩]
    [] [1] (by kernel_rfl) (by kernel_rfl) (by kernel_rfl) (by kernel_rfl) (by kernel_rfl)
    ⟨fun _ _ _ h => h,
    trivial⟩
    (cast (by kernel_rfl) h)
def S_code_Bytes (x0 x1 : Value) (M : Store) (Q : Value → Store → Prop) : Prop :=
  OP (lenV x1) fun t7 =>
  R F.code_Num #[x0, t7] M fun t8 M1 =>
  OP2 (appV 1 Ty.uint8 t8 x1 M1) fun t10 M2 =>
  NTs [t10] ∧ Q t10 M2
theorem T_code_Bytes {x0 x1 : Value} {M : Store} {Q : Value → Store → Prop} (h : S_code_Bytes x0 x1 M Q) : R F.code_Bytes #[x0, x1] M Q := by
  refine runs_of (c := bodyOf Tryd.f57) Tryd.func57 rfl (by kernel_rfl) (by kernel_rfl) ?_
  unfold At
  exact rule (B := 1000) (N := 11) (ct := .no)
    [⟨1, fun a M => kfin Tryd.prog Tryd.f57.results.toList Q 1 a M, fun a M => kfin Tryd.prog Tryd.f57.results.toList Q 1 a M⟩]
    [] [1] (by kernel_rfl) (by kernel_rfl) (by kernel_rfl) (by kernel_rfl) (by kernel_rfl)
    ⟨fun _ _ _ h => h,
    trivial⟩
    (cast (by kernel_rfl) h)
def P_strings_explode_1 (x0 x1 : Value) (M : Store) (Q : Value → Store → Prop) : Prop :=
  ∀ f : Nat → Value, f 0 = x0 → f 1 = x1 → At Tryd.prog Ex none Tryd.f60 [1, 1, 1] ⟨⟨50, f⟩, []⟩ M Q
def P_strings_explode_2 (x0 x1 x6 x7 : Value) (M : Store) (Q : Value → Store → Prop) : Prop :=
  ∀ f : Nat → Value, f 0 = x0 → f 1 = x1 → f 6 = x6 → f 7 = x7 → At Tryd.prog Ex none Tryd.f60 [1, 1, 1, 1, 0, 1, 0] ⟨⟨50, f⟩, []⟩ M Q
def P_strings_explode_3 (x0 x1 x6 x7 : Value) (M : Store) (Q : Value → Store → Prop) : Prop :=
  ∀ f : Nat → Value, f 0 = x0 → f 1 = x1 → f 6 = x6 → f 7 = x7 → At Tryd.prog Ex none Tryd.f60 [1, 1, 1, 1, 0, 1, 0, 0, 1] ⟨⟨50, f⟩, []⟩ M Q
def P_strings_explode_4 (x0 x1 x6 : Value) (M : Store) (Q : Value → Store → Prop) : Prop :=
  ∀ f : Nat → Value, f 0 = x0 → f 1 = x1 → f 6 = x6 → At Tryd.prog Ex none Tryd.f60 [1, 1, 1, 1, 1] ⟨⟨50, f⟩, []⟩ M Q
def S_strings_explode (x0 x1 : Value) (M : Store) (Q : Value → Store → Prop) : Prop :=
  R F.unicode_utf8_RuneCountInString #[x0] M fun t11 M1 =>
  OP (binI .lss x1 (.int .i64 0)) fun t13 =>
  BR t13 (
  P_strings_explode_1 x0 t11 M1 Q
  ) (
  OP (binI .gtr x1 t11) fun t17 =>
  BR t17 (
  P_strings_explode_1 x0 t11 M1 Q
  ) (
  P_strings_explode_1 x0 x1 M1 Q
  )
  )
theorem T_strings_explode {x0 x1 : Value} {M : Store} {Q : Value → Store → Prop} (h : S_strings_explode x0 x1 M Q) : R F.strings_explode #[x0, x1] M Q := by
  refine runs_of (c := bodyOf Tryd.f60) Tryd.func60 rfl (by kernel_rfl) (by kernel_rfl) ?_
  unfold At
  exact rule (B := 1000) (N := 50) (ct := (.two .no (.two .no (.two .no (.here 1000)))))
    [⟨1002, fun a M => dfr a.defers (P_strings_explode_1 (a.get 0) (a.get 1) M Q), fun a M => At Tryd.prog Ex none Tryd.f60 [1, 1, 1] a M Q⟩]
    [1000] [] (by kernel_rfl) (by kernel_rfl) (by kernel_rfl) (by kernel_rfl) (by kernel_rfl)
    ⟨fun a M hn h => by obtain ⟨⟨n, f⟩, ds⟩ := a; have hn : n = 50 := hn; subst hn; obtain ⟨hd, h⟩ := dfr_iff h; have hd : ds = [] := hd; subst hd; exact h f rfl rfl,
    trivial⟩
    (cast (by kernel_rfl) h)
def S_strings_explode_1 (x0 x1 : Value) (M : Store) (Q : Value → Store → Prop) : Prop :=
  OP2 (mkS (.string ⟨#[]⟩) 1 16 Ty.string x1 x1 M) fun t21 M1 =>
  P_strings_explode_2 x0 x1 t21 (.int .i64 0) M1 Q
theorem T_strings_explode_1 {x0 x1 : Value} {M : Store} {Q : Value → Store → Prop} (h : S_strings_explode_1 x0 x1 M Q) : P_strings_explode_1 x0 x1 M Q := by
  intro f h0 h1; subst h0; subst h1
  unfold At
  exact rule (B := 1000) (N := 50) (ct := (.two .no (.two (.two .no (.two (.here 1000) .no)) (.here 1001))))
    [⟨1002, fun a M => dfr a.defers (P_strings_explode_2 (a.get 0) (a.get 1) (a.get 6) (a.get 7) M Q), fun a M => At Tryd.prog Ex none Tryd.f60 [1, 1, 1, 1, 0, 1, 0] a M Q⟩,
    ⟨1003, fun _ _ => False, fun a M => At Tryd.prog Ex none Tryd.f60 [1, 1, 1, 1, 1] a M Q⟩]
    [1000, 1001] [] (by kernel_rfl) (by kernel_rfl) (by kernel_rfl) (by kernel_rfl) (by kernel_rfl)
    ⟨fun a M hn h => by obtain ⟨⟨n, f⟩, ds⟩ := a; have hn : n = 50 := hn; subst hn; obtain ⟨hd, h⟩ := dfr_iff h; have hd : ds = [] := hd; subst hd; exact h f rfl rfl rfl rfl,
    fun _ _ _ h => h.elim,
    trivial⟩
    (cast (by kernel_rfl) h)
def S_strings_explode_2 (x0 x1 x6 x7 : Value) (M : Store) (Q : Value → Store → Prop) : Prop :=
  OP (binI .sub x1 (.int .i64 1)) fun t24 =>
  OP (binI .lss x7 t24) fun t25 =>
  BR t25 (
  P_strings_explode_3 x0 x1 x6 x7 M Q
  ) (
  P_strings_explode_4 x0 x1 x6 M Q
  )
theorem T_strings_explode_2 {x0 x1 x6 x7 : Value} {M : Store} {Q : Value → Store → Prop} (h : S_strings_explode_2 x0 x1 x6 x7 M Q) : P_strings_explode_2 x0 x1 x6 x7 M Q := by
  intro f h0 h1 h6 h7; subst h0; subst h1; subst h6; subst h7
  unfold At
  refine cast (by kernel_rfl) (CW.loop (P := Tryd.prog) (E := Ex) (rd := none) (x := sub (bodyOf Tryd.f60) [1, 1, 1, 1, 0, 1, 0, 0]) (a := ⟨⟨50, f⟩, []⟩) (M := M) (K := kcont Tryd.prog Ex none (bodyOf Tryd.f60) [1, 1, 1, 1, 0, 1, 0] (kfin Tryd.prog Tryd.f60.results.toList Q)) ?_)
  exact rule (B := 1000) (N := 50) (ct := (.two .no (.here 1000)))
    [⟨1002, fun a M => dfr a.defers (P_strings_explode_3 (a.get 0) (a.get 1) (a.get 6) (a.get 7) M Q), fun a M => At Tryd.prog Ex none Tryd.f60 [1, 1, 1, 1, 0, 1, 0, 0, 1] a M Q⟩,
    ⟨2, fun a M => dfr a.defers (P_strings_explode_4 (a.get 0) (a.get 1) (a.get 6) M Q), fun a M => At Tryd.prog Ex none Tryd.f60 [1, 1, 1, 1, 1] a M Q⟩]
    [1000] [2] (by kernel_rfl) (by kernel_rfl) (by kernel_rfl) (by kernel_rfl) (by kernel_rfl)
    ⟨fun a M hn h => by obtain ⟨⟨n, f⟩, ds⟩ := a; have hn : n = 50 := hn; subst hn; obtain ⟨hd, h⟩ := dfr_iff h; have hd : ds = [] := hd; subst hd; exact h f rfl rfl rfl rfl,
    fun a M hn h => by obtain ⟨⟨n, f⟩, ds⟩ := a; have hn : n = 50 := hn; subst hn; obtain ⟨hd, h⟩ := dfr_iff h; have hd : ds = [] := hd; subst hd; exact h f rfl rfl rfl,
    trivial⟩
    (cast (by kernel_rfl) h)
def S_strings_explode_3 (x0 x1 x6 x7 : Value) (M : Store) (Q : Value → Store → Prop) : Prop :=
  R F.unicode_utf8_DecodeRuneInString #[x0] M fun t30 M1 =>
  OP (tup t30 0) fun t31 =>
  OP (tup t30 1) fun t32 =>
  OP (slS x0 none (some t32)) fun t37 =>
  OP (ixA 1 x6 x7) fun t38 =>
  OP (st 1 t38 t37 M1) fun M2 =>
  OP (slS x0 (some t32) none) fun t41 =>
  OP (binI .add x7 (.int .i64 1)) fun t27 =>
  P_strings_explode_2 t41 x1 x6 t27 M2 Q
theorem T_strings_explode_3 {x0 x1 x6 x7 : Value} {M : Store} {Q : Value → Store → Prop} (h : S_strings_explode_3 x0 x1 x6 x7 M Q) : P_strings_explode_3 x0 x1 x6 x7 M Q := by
  intro f h0 h1 h6 h7; subst h0; subst h1; subst h6; subst h7
  unfold At
  exact rule (B := 1000) (N := 50) (ct := .no)
    [⟨0, fun a M => dfr a.defers (P_strings_explode_2 (a.get 0) (a.get 1) (a.get 6) (a.get 7) M Q), fun a M => At Tryd.prog Ex none Tryd.f60 [1, 1, 1, 1, 0, 1, 0] a M Q⟩]
    [] [0] (by kernel_rfl) (by kernel_rfl) (by kernel_rfl) (by kernel_rfl) (by kernel_rfl)
    ⟨fun a M hn h => by obtain ⟨⟨n, f⟩, ds⟩ := a; have hn : n = 50 := hn; subst hn; obtain ⟨hd, h⟩ := dfr_iff h; have hd : ds = [] := hd; subst hd; exact h f rfl rfl rfl rfl,
    trivial⟩
    (cast (by kernel_rfl) h)
def S_strings_explode_4 (x0 x1 x6 : Value) (M : Store) (Q : Value → Store → Prop) : Prop :=
  OP (binI .gtr x1 (.int .i64 0)) fun t43 =>
  BR t43 (
  OP (binI .sub x1 (.int .i64 1)) fun t46 =>
  OP (ixA 1 x6 t46) fun t48 =>
  OP (st 1 t48 x0 M) fun M1 =>
  NTs [x6] ∧ Q x6 M1
  ) (
  NTs [x6] ∧ Q x6 M
  )
theorem T_strings_explode_4 {x0 x1 x6 : Value} {M : Store} {Q : Value → Store → Prop} (h : S_strings_explode_4 x0 x1 x6 M Q) : P_strings_explode_4 x0 x1 x6 M Q := by
  intro f h0 h1 h6; subst h0; subst h1; subst h6
  unfold At
  exact rule (B := 1000) (N := 50) (ct := .no)
    [⟨1, fun a M => kfin Tryd.prog Tryd.f60.results.toList Q 1 a M, fun a M => kfin Tryd.prog Tryd.f60.results.toList Q 1 a M⟩]
    [] [1] (by kernel_rfl) (by kernel_rfl) (by kernel_rfl) (by kernel_rfl) (by kernel_rfl)
    ⟨fun _ _ _ h => h,
    trivial⟩
    (cast (by kernel_rfl) h)
def P_strings_Count_1 (x0 x1 x5 : Value) (M : Store) (Q : Value → Store → Prop) : Prop :=
  ∀ f : Nat → Value, f 0 = x0 → f 1 = x1 → f 5 = x5 → At Tryd.prog Ex none Tryd.f61 [1, 1, 1, 1, 0] ⟨⟨34, f⟩, []⟩ M Q
def S_strings_Count (x0 x1 : Value) (M : Store) (Q : Value → Store → Prop) : Prop :=
  OP (lenS x1) fun t8 =>
  OP (binI .eql t8 (.int .i64 0)) fun t9 =>
  BR t9 (
  R F.unicode_utf8_RuneCountInString #[x0] M fun t11 M1 =>
  OP (binI .add t11 (.int .i64 1)) fun t12 =>
  NTs [t12] ∧ Q t12 M1
  ) (
  OP (lenS x1) fun t14 =>
  OP (binI .eql t14 (.int .i64 1)) fun t15 =>
  BR t15 (
  OP (ixS x1 (.int .i64 0)) fun t18 =>
  R F.internal_bytealg_CountString #[x0, t18] M fun t19 M2 =>
  NTs [t19] ∧ Q t19 M2
  ) (
  P_strings_Count_1 x0 x1 (.int .i64 0) M Q
  )
  )
theorem T_strings_Count {x0 x1 : Value} {M : Store} {Q : Value → Store → Prop} (h : S_strings_Count x0 x1 M Q) : R F.strings_Count #[x0, x1] M Q := by
  refine runs_of (c := bodyOf Tryd.f61) Tryd.func61 rfl (by kernel_rfl) (by kernel_rfl) ?_
  unfold At
  exact rule (B := 1000) (N := 34) (ct := (.two .no (.two .no (.two .no (.two .no (.two (.here 1000) .no))))))
    [⟨1002, fun a M => dfr a.defers (P_strings_Count_1 (a.get 0) (a.get 1) (a.get 5) M Q), fun a M => At Tryd.prog Ex none Tryd.f61 [1, 1, 1, 1, 0] a M Q⟩,
    ⟨1, fun a M => kfin Tryd.prog Tryd.f61.results.toList Q 1 a M, fun a M => kfin Tryd.prog Tryd.f61.results.toList Q 1 a M⟩]
    [1000] [1] (by kernel_rfl) (by kernel_rfl) (by kernel_rfl) (by kernel_rfl) (by kernel_rfl)
    ⟨fun a M hn h => by obtain ⟨⟨n, f⟩, ds⟩ := a; have hn : n = 34 := hn; subst hn; obtain ⟨hd, h⟩ := dfr_iff h; have hd : ds = [] := hd; subst hd; exact h f rfl rfl rfl,
    fun _ _ _ h => h,
    trivial⟩
    (cast (by kernel_rfl) h)
def S_strings_Count_1 (x0 x1 x5 : Value) (M : Store) (Q : Value → Store → Prop) : Prop :=
  R F.strings_Index #[x0, x1] M fun t22 M1 =>
  OP (binI .eql t22 (.int .i64 (-1))) fun t24 =>
  BR t24 (
  NTs [x5] ∧ Q x5 M1
  ) (
  OP (binI .add x5 (.int .i64 1)) fun t27 =>
  OP (lenS x1) fun t31 =>
  OP (binI .add t22 t31) fun t32 =>
  OP (slS x0 (some t32) none) fun t33 =>
  P_strings_Count_1 t33 x1 t27 M1 Q
  )
theorem T_strings_Count_1 {x0 x1 x5 : Value} {M : Store} {Q : Value → Store → Prop} (h : S_strings_Count_1 x0 x1 x5 M Q) : P_strings_Count_1 x0 x1 x5 M Q := by
  intro f h0 h1 h5; subst h0; subst h1; subst h5
  unfold At
  refine cast (by kernel_rfl) (CW.loop (P := Tryd.prog) (E := Ex) (rd := none) (x := sub (bodyOf Tryd.f61) [1, 1, 1, 1, 0, 0]) (a := ⟨⟨34, f⟩, []⟩) (M := M) (K := kcont Tryd.prog Ex none (bodyOf Tryd.f61) [1, 1, 1, 1, 0] (kfin Tryd.prog Tryd.f61.results.toList Q)) ?_)
  exact rule (B := 1000) (N := 34) (ct := .no)
    [⟨0, fun a M => dfr a.defers (P_strings_Count_1 (a.get 0) (a.get 1) (a.get 5) M Q), fun a M => At Tryd.prog Ex none Tryd.f61 [1, 1, 1, 1, 0] a M Q⟩,
    ⟨1, fun a M => kfin Tryd.prog Tryd.f61.results.toList Q 1 a M, fun a M => kfin Tryd.prog Tryd.f61.results.toList Q 1 a M⟩]
    [] [0, 1] (by kernel_rfl) (by kernel_rfl) (by kernel_rfl) (by kernel_rfl) (by kernel_rfl)
    ⟨fun a M hn h => by obtain ⟨⟨n, f⟩, ds⟩ := a; have hn : n = 34 := hn; subst hn; obtain ⟨hd, h⟩ := dfr_iff h; have hd : ds = [] := hd; subst hd; exact h f rfl rfl rfl,
    fun _ _ _ h => h,
    trivial⟩
    (cast (by kernel_rfl) h)
def S_strings_Index (x0 x1 : Value) (M : Store) (Q : Value → Store → Prop) : Prop :=
  R F.internal_stringslite_Index #[x0, x1] M fun t7 M1 =>
  NTs [t7] ∧ Q t7 M1
theorem T_strings_Index {x0 x1 : Value} {M : Store} {Q : Value → Store → Prop} (h : S_strings_Index x0 x1 M Q) : R F.strings_Index #[x0, x1] M Q := by
  refine runs_of (c := bodyOf Tryd.f62) Tryd.func62 rfl (by kernel_rfl) (by kernel_rfl) ?_
  unfold At
  exact rule (B := 1000) (N := 8) (ct := .no)
    [⟨1, fun a M => kfin Tryd.prog Tryd.f62.results.toList Q 1 a M, fun a M => kfin Tryd.prog Tryd.f62.results.toList Q 1 a M⟩]
    [] [1] (by kernel_rfl) (by kernel_rfl) (by kernel_rfl) (by kernel_rfl) (by kernel_rfl)
    ⟨fun _ _ _ h => h,
    trivial⟩
    (cast (by kernel_rfl) h)
def S_unicode_utf8_DecodeRuneInString (x0 : Value) (M : Store) (Q : Value → Store → Prop) : Prop :=
  OP (binS .neq x0 (.string ⟨#[]⟩)) fun t5 =>
  BR t5 (
  OP (ixS x0 (.int .i64 0)) fun t8 =>
  OP (binI .lss t8 (.int .u8 128)) fun t9 =>
  BR t9 (
  OP (ixS x0 (.int .i64 0)) fun t12 =>
  OP (cvI .i32 t12) fun t13 =>
  NTs [t13, (.int .i64 1)] ∧ Q (.tuple #[t13, (.int .i64 1)]) M
  ) (
  R F.unicode_utf8_decodeRuneInStringSlow #[x0] M fun t16 M1 =>
  OP (tup t16 0) fun t17 =>
  OP (tup t16 1) fun t18 =>
  NTs [t17, t18] ∧ Q (.tuple #[t17, t18]) M1
  )
  ) (
  R F.unicode_utf8_decodeRuneInStringSlow #[x0] M fun t16_1 M2 =>
  OP (tup t16_1 0) fun t17_1 =>
  OP (tup t16_1 1) fun t18_1 =>
  NTs [t17_1, t18_1] ∧ Q (.tuple #[t17_1, t18_1]) M2
  )
theorem T_unicode_utf8_DecodeRuneInString {x0 : Value} {M : Store} {Q : Value → Store → Prop} (h : S_unicode_utf8_DecodeRuneInString x0 M Q) : R F.unicode_utf8_DecodeRuneInString #[x0] M Q := by
  refine runs_of (c := bodyOf Tryd.f73) Tryd.func73 rfl (by kernel_rfl) (by kernel_rfl) ?_
  unfold At
  exact rule (B := 1000) (N := 19) (ct := .no)
    [⟨1, fun a M => kfin Tryd.prog Tryd.f73.results.toList Q 1 a M, fun a M => kfin Tryd.prog Tryd.f73.results.toList Q 1 a M⟩]
    [] [1] (by kernel_rfl) (by kernel_rfl) (by kernel_rfl) (by kernel_rfl) (by kernel_rfl)
    ⟨fun _ _ _ h => h,
    trivial⟩
    (cast (by kernel_rfl) h)
def P_internal_stringslite_Index_1 (x0 x1 x5 x6 x7 x8 x9 x10 : Value) (M : Store) (Q : Value → Store → Prop) : Prop :=
  ∀ f : Nat → Value, f 0 = x0 → f 1 = x1 → f 5 = x5 → f 6 = x6 → f 7 = x7 → f 8 = x8 → f 9 = x9 → f 10 = x10 → At Tryd.prog Ex none Tryd.f75 [1, 1, 1, 1, 1, 1, 1, 1, 0, 0] ⟨⟨143, f⟩, []⟩ M Q
def P_internal_stringslite_Index_2 (x0 x1 x5 x6 x7 x8 x9 x10 : Value) (M : Store) (Q : Value → Store → Prop) : Prop :=
  ∀ f : Nat → Value, f 0 = x0 → f 1 = x1 → f 5 = x5 → f 6 = x6 → f 7 = x7 → f 8 = x8 → f 9 = x9 → f 10 = x10 → At Tryd.prog Ex none Tryd.f75 [1, 1, 1, 1, 1, 1, 1, 1, 0, 0, 0, 1] ⟨⟨143, f⟩, []⟩ M Q
def P_internal_stringslite_Index_3 (M : Store) (Q : Value → Store → Prop) : Prop :=
  ∀ f : Nat → Value, At Tryd.prog Ex none Tryd.f75 [1, 1, 1, 1, 1, 1, 1, 1, 1] ⟨⟨143, f⟩, []⟩ M Q
def P_internal_stringslite_Index_4 (x0 x1 x5 x6 x7 x8 x9 x10 : Value) (M : Store) (Q : Value → Store → Prop) : Prop :=
  ∀ f : Nat → Value, f 0 = x0 → f 1 = x1 → f 5 = x5 → f 6 = x6 → f 7 = x7 → f 8 = x8 → f 9 = x9 → f 10 = x10 → At Tryd.prog Ex none Tryd.f75 [1, 1, 1, 1, 1, 1, 1, 1, 0, 0, 0, 1, 0, 1] ⟨⟨143, f⟩, []⟩ M Q
def S_internal_stringslite_Index (x0 x1 : Value) (M : Store) (Q : Value → Store → Prop) : Prop :=
  OP (lenS x1) fun t15 =>
  OP (binI .eql t15 (.int .i64 0)) fun t18 =>
  BR t18 (
  NTs [(.int .i64 0)] ∧ Q (.int .i64 0) M
  ) (
  OP (binS .eql x1 x0) fun t22 =>
  BR t22 (
  NTs [(.int .i64 0)] ∧ Q (.int .i64 0) M
  ) (
  OP (binI .eql t15 (.int .i64 1)) fun t26 =>
  BR t26 (
  OP (ixS x1 (.int .i64 0)) fun t29 =>
  R F.internal_stringslite_IndexByte #[x0, t29] M fun t30 M1 =>
  NTs [t30] ∧ Q t30 M1
  ) (
  OP (lenS x0) fun t34 =>
  OP (binI .geq t15 t34) fun t35 =>
  BR t35 (
  NTs [(.int .i64 (-1))] ∧ Q (.int .i64 (-1)) M
  ) (
  OP (ld 1 false (.pointer (some ⟨0, 0, some 0⟩)) M) fun t38 =>
  OP (binI .leq t15 t38) fun t39 =>
  BR t39 (
  OP (lenS x0) fun t42 =>
  OP (binI .leq t42 (.int .i64 64)) fun t43 =>
  BR t43 (
  R F.internal_bytealg_IndexString #[x0, x1] M fun t47 M2 =>
  NTs [t47] ∧ Q t47 M2
  ) (
  OP (ixS x1 (.int .i64 0)) fun t49 =>
  OP (ixS x1 (.int .i64 1)) fun t51 =>
  OP (lenS x0) fun t53 =>
  OP (binI .sub t53 t15) fun t55 =>
  OP (binI .add t55 (.int .i64 1)) fun t56 =>
  P_internal_stringslite_Index_1 x0 x1 t15 t49 t51 (.int .i64 0) t56 (.int .i64 0) M Q
  )
  ) (
  OP (ixS x1 (.int .i64 0)) fun t49_1 =>
  OP (ixS x1 (.int .i64 1)) fun t51_1 =>
  OP (lenS x0) fun t53_1 =>
  OP (binI .sub t53_1 t15) fun t55_1 =>
  OP (binI .add t55_1 (.int .i64 1)) fun t56_1 =>
  P_internal_stringslite_Index_1 x0 x1 t15 t49_1 t51_1 (.int .i64 0) t56_1 (.int .i64 0) M Q
  )
  )
  )
  )
  )
theorem T_internal_stringslite_Index {x0 x1 : Value} {M : Store} {Q : Value → Store → Prop} (h : S_internal_stringslite_Index x0 x1 M Q) : R F.internal_stringslite_Index #[x0, x1] M Q := by
  refine runs_of (c := bodyOf Tryd.f75) Tryd.func75 rfl (by kernel_rfl) (by kernel_rfl) ?_
  unfold At
  exact rule (B := 1000) (N := 143) (ct := (.two .no (.two .no (.two .no (.two .no (.two .no (.two .no (.two .no (.two .no (.two (.two (.here 1000) .no) (.here 1001)))))))))))
    [⟨1002, fun a M => dfr a.defers (P_internal_stringslite_Index_1 (a.get 0) (a.get 1) (a.get 5) (a.get 6) (a.get 7) (a.get 8) (a.get 9) (a.get 10) M Q), fun a M => At Tryd.prog Ex none Tryd.f75 [1, 1, 1, 1, 1, 1, 1, 1, 0, 0] a M Q⟩,
    ⟨1003, fun _ _ => False, fun a M => At Tryd.prog Ex none Tryd.f75 [1, 1, 1, 1, 1, 1, 1, 1, 1] a M Q⟩,
    ⟨1, fun a M => kfin Tryd.prog Tryd.f75.results.toList Q 1 a M, fun a M => kfin Tryd.prog Tryd.f75.results.toList Q 1 a M⟩]
    [1000, 1001] [1] (by kernel_rfl) (by kernel_rfl) (by kernel_rfl) (by kernel_rfl) (by kernel_rfl)
    ⟨fun a M hn h => by obtain ⟨⟨n, f⟩, ds⟩ := a; have hn : n = 143 := hn; subst hn; obtain ⟨hd, h⟩ := dfr_iff h; have hd : ds = [] := hd; subst hd; exact h f rfl rfl rfl rfl rfl rfl rfl rfl,
    fun _ _ _ h => h.elim,
    fun _ _ _ h => h,
    trivial⟩
    (cast (by kernel_rfl) h)
def S_internal_stringslite_Index_1 (x0 x1 x5 x6 x7 x8 x9 x10 : Value) (M : Store) (Q : Value → Store → Prop) : Prop :=
  OP (binI .lss x8 x9) fun t59 =>
  BR t59 (
  P_internal_stringslite_Index_2 x0 x1 x5 x6 x7 x8 x9 x10 M Q
  ) (
  P_internal_stringslite_Index_3 M Q
  )
theorem T_internal_stringslite_Index_1 {x0 x1 x5 x6 x7 x8 x9 x10 : Value} {M : Store} {Q : Value → Store → Prop} (h : S_internal_stringslite_Index_1 x0 x1 x5 x6 x7 x8 x9 x10 M Q) : P_internal_stringslite_Index_1 x0 x1 x5 x6 x7 x8 x9 x10 M Q := by
  intro f h0 h1 h5 h6 h7 h8 h9 h10; subst h0; subst h1; subst h5; subst h6; subst h7; subst h8; subst h9; subst h10
  unfold At
  refine cast (by kernel_rfl) (CW.loop (P := Tryd.prog) (E := Ex) (rd := none) (x := sub (bodyOf Tryd.f75) [1, 1, 1, 1, 1, 1, 1, 1, 0, 0, 0]) (a := ⟨⟨143, f⟩, []⟩) (M := M) (K := kcont Tryd.prog Ex none (bodyOf Tryd.f75) [1, 1, 1, 1, 1, 1, 1, 1, 0, 0] (kfin Tryd.prog Tryd.f75.results.toList Q)) ?_)
  exact rule (B := 1000) (N := 143) (ct := (.two .no (.here 1000)))
    [⟨1002, fun a M => dfr a.defers (P_internal_stringslite_Index_2 (a.get 0) (a.get 1) (a.get 5) (a.get 6) (a.get 7) (a.get 8) (a.get 9) (a.get 10) M Q), fun a M => At Tryd.prog Ex none Tryd.f75 [1, 1, 1, 1, 1, 1, 1, 1, 0, 0, 0, 1] a M Q⟩,
    ⟨3, fun a M => dfr a.defers (P_internal_stringslite_Index_3 M Q), fun a M => At Tryd.prog Ex none Tryd.f75 [1, 1, 1, 1, 1, 1, 1, 1, 1] a M Q⟩]
    [1000] [3] (by kernel_rfl) (by kernel_rfl) (by kernel_rfl) (by kernel_rfl) (by kernel_rfl)
    ⟨fun a M hn h => by obtain ⟨⟨n, f⟩, ds⟩ := a; have hn : n = 143 := hn; subst hn; obtain ⟨hd, h⟩ := dfr_iff h; have hd : ds = [] := hd; subst hd; exact h f rfl rfl rfl rfl rfl rfl rfl rfl,
    fun a M hn h => by obtain ⟨⟨n, f⟩, ds⟩ := a; have hn : n = 143 := hn; subst hn; obtain ⟨hd, h⟩ := dfr_iff h; have hd : ds = [] := hd; subst hd; exact h f,
    trivial⟩
    (cast (by kernel_rfl) h)
def S_internal_stringslite_Index_2 (x0 x1 x5 x6 x7 x8 x9 x10 : Value) (M : Store) (Q : Value → Store → Prop) : Prop :=
  OP (ixS x0 x8) fun t62 =>
  OP (binI .neq t62 x6) fun t64 =>
  BR t64 (
  OP (binI .add x8 (.int .i64 1)) fun t67 =>
  OP (slS x0 (some t67) (some x9)) fun t69 =>
  R F.internal_stringslite_IndexByte #[t69, x6] M fun t71 M1 =>
  OP (binI .lss t71 (.int .i64 0)) fun t73 =>
  BR t73 (
  NTs [(.int .i64 (-1))] ∧ Q (.int .i64 (-1)) M1
  ) (
  OP (binI .add t71 (.int .i64 1)) fun t76 =>
  OP (binI .add x8 t76) fun t77 =>
  P_internal_stringslite_Index_4 x0 x1 x5 x6 x7 t77 x9 x10 M1 Q
  )
  ) (
  P_internal_stringslite_Index_4 x0 x1 x5 x6 x7 x8 x9 x10 M Q
  )
theorem T_internal_stringslite_Index_2 {x0 x1 x5 x6 x7 x8 x9 x10 : Value} {M : Store} {Q : Value → Store → Prop} (h : S_internal_stringslite_Index_2 x0 x1 x5 x6 x7 x8 x9 x10 M Q) : P_internal_stringslite_Index_2 x0 x1 x5 x6 x7 x8 x9 x10 M Q := by
  intro f h0 h1 h5 h6 h7 h8 h9 h10; subst h0; subst h1; subst h5; subst h6; subst h7; subst h8; subst h9; subst h10
  unfold At
  exact rule (B := 1000) (N := 143) (ct := (.two (.two .no (.here 1000)) .no))
    [⟨1002, fun a M => dfr a.defers (P_internal_stringslite_Index_4 (a.get 0) (a.get 1) (a.get 5) (a.get 6) (a.get 7) (a.get 8) (a.get 9) (a.get 10) M Q), fun a M => At Tryd.prog Ex none Tryd.f75 [1, 1, 1, 1, 1, 1, 1, 1, 0, 0, 0, 1, 0, 1] a M Q⟩,
    ⟨1, fun a M => kfin Tryd.prog Tryd.f75.results.toList Q 1 a M, fun a M => kfin Tryd.prog Tryd.f75.results.toList Q 1 a M⟩]
    [1000] [1] (by kernel_rfl) (by kernel_rfl) (by kernel_rfl) (by kernel_rfl) (by kernel_rfl)
    ⟨fun a M hn h => by obtain ⟨⟨n, f⟩, ds⟩ := a; have hn : n = 143 := hn; subst hn; obtain ⟨hd, h⟩ := dfr_iff h; have hd : ds = [] := hd; subst hd; exact h f rfl rfl rfl rfl rfl rfl rfl rfl,
    fun _ _ _ h => h,
    trivial⟩
    (cast (by kernel_rfl) h)
def S_internal_stringslite_Index_3 (M : Store) (Q : Value → Store → Prop) : Prop :=
  NTs [(.int .i64 (-1))] ∧ Q (.int .i64 (-1)) M
theorem T_internal_stringslite_Index_3 {M : Store} {Q : Value → Store → Prop} (h : S_internal_stringslite_Index_3 M Q) : P_internal_stringslite_Index_3 M Q := by
  intro f 
  unfold At
  exact rule (B := 1000) (N := 143) (ct := .no)
    [⟨1, fun a M => kfin Tryd.prog Tryd.f75.results.toList Q 1 a M, fun a M => kfin Tryd.prog Tryd.f75.results.toList Q 1 a M⟩]
    [] [1] (by kernel_rfl) (by kernel_rfl) (by kernel_rfl) (by kernel_rfl) (by kernel_rfl)
    ⟨fun _ _ _ h => h,
    trivial⟩
    (cast (by kernel_rfl) h)
def S_internal_stringslite_Index_4 (x0 x1 x5 x6 x7 x8 x9 x10 : Value) (M : Store) (Q : Value → Store → Prop) : Prop :=
  OP (binI .add x8 (.int .i64 1)) fun t80 =>
  OP (ixS x0 t80) fun t81 =>
  OP (binI .eql t81 x7) fun t83 =>
  BR t83 (
  OP (binI .add x8 x5) fun t89 =>
  OP (slS x0 (some x8) (some t89)) fun t90 =>
  OP (binS .eql t90 x1) fun t92 =>
  BR t92 (
  NTs [x8] ∧ Q x8 M
  ) (
  OP (binI .add x8 (.int .i64 1)) fun t96 =>
  OP (binI .add x10 (.int .i64 1)) fun t98 =>
  OP (ld 1 false (.pointer (some ⟨0, 0, some 0⟩)) M) fun t100 =>
  OP (binI .leq x5 t100) fun t101 =>
  BR t101 (
  R F.internal_bytealg_Cutover #[t96] M fun t105 M1 =>
  OP (binI .gtr t98 t105) fun t106 =>
  BR t106 (
  OP (slS x0 (some t96) none) fun t110 =>
  R F.internal_bytealg_IndexString #[t110, x1] M1 fun t112 M2 =>
  OP (binI .geq t112 (.int .i64 0)) fun t114 =>
  BR t114 (
  OP (binI .add t112 t96) fun t117 =>
  NTs [t117] ∧ Q t117 M2
  ) (
  NTs [(.int .i64 (-1))] ∧ Q (.int .i64 (-1)) M2
  )
  ) (
  OP (ld 1 false (.pointer (some ⟨0, 0, some 0⟩)) M1) fun t119 =>
  OP (binI .gtr x5 t119) fun t120 =>
  BR t120 (
  OP (binI .shr t96 (.int .u64 4)) fun t124 =>
  OP (binI .add (.int .i64 4) t124) fun t125 =>
  OP (binI .geq t98 t125) fun t126 =>
  BR t126 (
  OP (binI .lss t96 x9) fun t131 =>
  BR t131 (
  OP (slS x0 (some t96) none) fun t135 =>
  R F.internal_bytealg_IndexRabinKarp_string #[t135, x1] M1 fun t137 M3 =>
  OP (binI .lss t137 (.int .i64 0)) fun t139 =>
  BR t139 (
  NTs [(.int .i64 (-1))] ∧ Q (.int .i64 (-1)) M3
  ) (
  OP (binI .add t96 t137) fun t142 =>
  NTs [t142] ∧ Q t142 M3
  )
  ) (
  P_internal_stringslite_Index_1 x0 x1 x5 x6 x7 t96 x9 t98 M1 Q
  )
  ) (
  P_internal_stringslite_Index_1 x0 x1 x5 x6 x7 t96 x9 t98 M1 Q
  )
  ) (
  P_internal_stringslite_Index_1 x0 x1 x5 x6 x7 t96 x9 t98 M1 Q
  )
  )
  ) (
  OP (ld 1 false (.pointer (some ⟨0, 0, some 0⟩)) M) fun t119_1 =>
  OP (binI .gtr x5 t119_1) fun t120_1 =>
  BR t120_1 (
  OP (binI .shr t96 (.int .u64 4)) fun t124_1 =>
  OP (binI .add (.int .i64 4) t124_1) fun t125_1 =>
  OP (binI .geq t98 t125_1) fun t126_1 =>
  BR t126_1 (
  OP (binI .lss t96 x9) fun t131_1 =>
  BR t131_1 (
  OP (slS x0 (some t96) none) fun t135_1 =>
  R F.internal_bytealg_IndexRabinKarp_string #[t135_1, x1] M fun t137_1 M4 =>
  OP (binI .lss t137_1 (.int .i64 0)) fun t139_1 =>
  BR t139_1 (
  NTs [(.int .i64 (-1))] ∧ Q (.int .i64 (-1)) M4
  ) (
  OP (binI .add t96 t137_1) fun t142_1 =>
  NTs [t142_1] ∧ Q t142_1 M4
  )
  ) (
  P_internal_stringslite_Index_1 x0 x1 x5 x6 x7 t96 x9 t98 M Q
  )
  ) (
  P_internal_stringslite_Index_1 x0 x1 x5 x6 x7 t96 x9 t98 M Q
  )
  ) (
  P_internal_stringslite_Index_1 x0 x1 x5 x6 x7 t96 x9 t98 M Q
  )
  )
  )
  ) (
  OP (binI .add x8 (.int .i64 1)) fun t96_1 =>
  OP (binI .add x10 (.int .i64 1)) fun t98_1 =>
  OP (ld 1 false (.pointer (some ⟨0, 0, some 0⟩)) M) fun t100_1 =>
  OP (binI .leq x5 t100_1) fun t101_1 =>
  BR t101_1 (
  R F.internal_bytealg_Cutover #[t96_1] M fun t105_1 M5 =>
  OP (binI .gtr t98_1 t105_1) fun t106_1 =>
  BR t106_1 (
  OP (slS x0 (some t96_1) none) fun t110_1 =>
  R F.internal_bytealg_IndexString #[t110_1, x1] M5 fun t112_1 M6 =>
  OP (binI .geq t112_1 (.int .i64 0)) fun t114_1 =>
  BR t114_1 (
  OP (binI .add t112_1 t96_1) fun t117_1 =>
  NTs [t117_1] ∧ Q t117_1 M6
  ) (
  NTs [(.int .i64 (-1))] ∧ Q (.int .i64 (-1)) M6
  )
  ) (
  OP (ld 1 false (.pointer (some ⟨0, 0, some 0⟩)) M5) fun t119_2 =>
  OP (binI .gtr x5 t119_2) fun t120_2 =>
  BR t120_2 (
  OP (binI .shr t96_1 (.int .u64 4)) fun t124_2 =>
  OP (binI .add (.int .i64 4) t124_2) fun t125_2 =>
  OP (binI .geq t98_1 t125_2) fun t126_2 =>
  BR t126_2 (
  OP (binI .lss t96_1 x9) fun t131_2 =>
  BR t131_2 (
  OP (slS x0 (some t96_1) none) fun t135_2 =>
  R F.internal_bytealg_IndexRabinKarp_string #[t135_2, x1] M5 fun t137_2 M7 =>
  OP (binI .lss t137_2 (.int .i64 0)) fun t139_2 =>
  BR t139_2 (
  NTs [(.int .i64 (-1))] ∧ Q (.int .i64 (-1)) M7
  ) (
  OP (binI .add t96_1 t137_2) fun t142_2 =>
  NTs [t142_2] ∧ Q t142_2 M7
  )
  ) (
  P_internal_stringslite_Index_1 x0 x1 x5 x6 x7 t96_1 x9 t98_1 M5 Q
  )
  ) (
  P_internal_stringslite_Index_1 x0 x1 x5 x6 x7 t96_1 x9 t98_1 M5 Q
  )
  ) (
  P_internal_stringslite_Index_1 x0 x1 x5 x6 x7 t96_1 x9 t98_1 M5 Q
  )
  )
  ) (
  OP (ld 1 false (.pointer (some ⟨0, 0, some 0⟩)) M) fun t119_3 =>
  OP (binI .gtr x5 t119_3) fun t120_3 =>
  BR t120_3 (
  OP (binI .shr t96_1 (.int .u64 4)) fun t124_3 =>
  OP (binI .add (.int .i64 4) t124_3) fun t125_3 =>
  OP (binI .geq t98_1 t125_3) fun t126_3 =>
  BR t126_3 (
  OP (binI .lss t96_1 x9) fun t131_3 =>
  BR t131_3 (
  OP (slS x0 (some t96_1) none) fun t135_3 =>
  R F.internal_bytealg_IndexRabinKarp_string #[t135_3, x1] M fun t137_3 M8 =>
  OP (binI .lss t137_3 (.int .i64 0)) fun t139_3 =>
  BR t139_3 (
  NTs [(.int .i64 (-1))] ∧ Q (.int .i64 (-1)) M8
  ) (
  OP (binI .add t96_1 t137_3) fun t142_3 =>
  NTs [t142_3] ∧ Q t142_3 M8
  )
  ) (
  P_internal_stringslite_Index_1 x0 x1 x5 x6 x7 t96_1 x9 t98_1 M Q
  )
  ) (
  P_internal_stringslite_Index_1 x0 x1 x5 x6 x7 t96_1 x9 t98_1 M Q
  )
  ) (
  P_internal_stringslite_Index_1 x0 x1 x5 x6 x7 t96_1 x9 t98_1 M Q
  )
  )
  )
theorem T_internal_stringslite_Index_4 {x0 x1 x5 x6 x7 x8 x9 x10 : Value} {M : Store} {Q : Value → Store → Prop} (h : S_internal_stringslite_Index_4 x0 x1 x5 x6 x7 x8 x9 x10 M Q) : P_internal_stringslite_Index_4 x0 x1 x5 x6 x7 x8 x9 x10 M Q := by
  intro f h0 h1 h5 h6 h7 h8 h9 h10; subst h0; subst h1; subst h5; subst h6; subst h7; subst h8; subst h9; subst h10
  unfold At
  exact rule (B := 1000) (N := 143) (ct := .no)
    [⟨0, fun a M => dfr a.defers (P_internal_stringslite_Index_1 (a.get 0) (a.get 1) (a.get 5) (a.get 6) (a.get 7) (a.get 8) (a.get 9) (a.get 10) M Q), fun a M => At Tryd.prog Ex none Tryd.f75 [1, 1, 1, 1, 1, 1, 1, 1, 0, 0] a M Q⟩,
    ⟨1, fun a M => kfin Tryd.prog Tryd.f75.results.toList Q 1 a M, fun a M => kfin Tryd.prog Tryd.f75.results.toList Q 1 a M⟩]
    [] [0, 1] (by kernel_rfl) (by kernel_rfl) (by kernel_rfl) (by kernel_rfl) (by kernel_rfl)
    ⟨fun a M hn h => by obtain ⟨⟨n, f⟩, ds⟩ := a; have hn : n = 143 := hn; subst hn; obtain ⟨hd, h⟩ := dfr_iff h; have hd : ds = [] := hd; subst hd; exact h f rfl rfl rfl rfl rfl rfl rfl rfl,
    fun _ _ _ h => h,
    trivial⟩
    (cast (by kernel_rfl) h)
def S_unicode_utf8_decodeRuneInStringSlow (x0 : Value) (M : Store) (Q : Value → Store → Prop) : Prop :=
  OP (lenS x0) fun t14 =>
  OP (binI .lss t14 (.int .i64 1)) fun t16 =>
  BR t16 (
  NTs [(.int .i32 65533), (.int .i64 0)] ∧ Q (.tuple #[(.int .i32 65533), (.int .i64 0)]) M
  ) (
  OP (ixS x0 (.int .i64 0)) fun t18 =>
  OP (ixP 1 256 (.pointer (some ⟨1, 0, some 0⟩)) t18) fun t20 =>
  OP (ld 1 false t20 M) fun t21 =>
  OP (binI .geq t21 (.int .u8 240)) fun t23 =>
  BR t23 (
  OP (cvI .i32 t21) fun t25 =>
  OP (binI .shl t25 (.int .u64 31)) fun t26 =>
  OP (binI .shr t26 (.int .u64 31)) fun t27 =>
  OP (ixS x0 (.int .i64 0)) fun t29 =>
  OP (cvI .i32 t29) fun t30 =>
  OP (binI .andNot t30 t27) fun t32 =>
  OP (binI .and (.int .i32 65533) t27) fun t34 =>
  OP (binI .or t32 t34) fun t35 =>
  NTs [t35, (.int .i64 1)] ∧ Q (.tuple #[t35, (.int .i64 1)]) M
  ) (
  OP (binI .and t21 (.int .u8 7)) fun t37 =>
  OP (cvI .i64 t37) fun t38 =>
  OP (binI .shr t21 (.int .u64 4)) fun t40 =>
  OP (ixP 2 16 (.pointer (some ⟨2, 0, some 0⟩)) t40) fun t41 =>
  OP (ld 2 true t41 M) fun t42 =>
  LT (.pointer (some ⟨M.n, 0, none⟩)) (M.push (some (.inl ([(.int .u8 0), (.int .u8 0)], Ty.utf8_acceptRange, true)))) fun t9 M1 =>
  OP (st 2 t9 t42 M1) fun M2 =>
  OP (binI .lss t14 t38) fun t45 =>
  BR t45 (
  NTs [(.int .i32 65533), (.int .i64 1)] ∧ Q (.tuple #[(.int .i32 65533), (.int .i64 1)]) M2
  ) (
  OP (ixS x0 (.int .i64 1)) fun t47 =>
  OP (fad 0 t9) fun t49 =>
  OP (ld 1 false t49 M2) fun t50 =>
  OP (binI .lss t47 t50) fun t51 =>
  BR t51 (
  NTs [(.int .i32 65533), (.int .i64 1)] ∧ Q (.tuple #[(.int .i32 65533), (.int .i64 1)]) M2
  ) (
  OP (fad 1 t9) fun t53 =>
  OP (ld 1 false t53 M2) fun t54 =>
  OP (binI .lss t54 t47) fun t56 =>
  BR t56 (
  NTs [(.int .i32 65533), (.int .i64 1)] ∧ Q (.tuple #[(.int .i32 65533), (.int .i64 1)]) M2
  ) (
  OP (binI .leq t38 (.int .i64 2)) fun t59 =>
  BR t59 (
  OP (binI .and t18 (.int .u8 31)) fun t61 =>
  OP (cvI .i32 t61) fun t62 =>
  OP (binI .shl t62 (.int .u64 6)) fun t63 =>
  OP (binI .and t47 (.int .u8 63)) fun t65 =>
  OP (cvI .i32 t65) fun t66 =>
  OP (binI .or t63 t66) fun t67 =>
  NTs [t67, (.int .i64 2)] ∧ Q (.tuple #[t67, (.int .i64 2)]) M2
  ) (
  OP (ixS x0 (.int .i64 2)) fun t69 =>
  OP (binI .lss t69 (.int .u8 128)) fun t71 =>
  BR t71 (
  NTs [(.int .i32 65533), (.int .i64 1)] ∧ Q (.tuple #[(.int .i32 65533), (.int .i64 1)]) M2
  ) (
  OP (binI .lss (.int .u8 191) t69) fun t74 =>
  BR t74 (
  NTs [(.int .i32 65533), (.int .i64 1)] ∧ Q (.tuple #[(.int .i32 65533), (.int .i64 1)]) M2
  ) (
  OP (binI .leq t38 (.int .i64 3)) fun t77 =>
  BR t77 (
  OP (binI .and t18 (.int .u8 15)) fun t79 =>
  OP (cvI .i32 t79) fun t80 =>
  OP (binI .shl t80 (.int .u64 12)) fun t81 =>
  OP (binI .and t47 (.int .u8 63)) fun t83 =>
  OP (cvI .i32 t83) fun t84 =>
  OP (binI .shl t84 (.int .u64 6)) fun t85 =>
  OP (binI .or t81 t85) fun t86 =>
  OP (binI .and t69 (.int .u8 63)) fun t88 =>
  OP (cvI .i32 t88) fun t89 =>
  OP (binI .or t86 t89) fun t90 =>
  NTs [t90, (.int .i64 3)] ∧ Q (.tuple #[t90, (.int .i64 3)]) M2
  ) (
  OP (ixS x0 (.int .i64 3)) fun t92 =>
  OP (binI .lss t92 (.int .u8 128)) fun t94 =>
  BR t94 (
  NTs [(.int .i32 65533), (.int .i64 1)] ∧ Q (.tuple #[(.int .i32 65533), (.int .i64 1)]) M2
  ) (
  OP (binI .lss (.int .u8 191) t92) fun t97 =>
  BR t97 (
  NTs [(.int .i32 65533), (.int .i64 1)] ∧ Q (.tuple #[(.int .i32 65533), (.int .i64 1)]) M2
  ) (
  OP (binI .and t18 (.int .u8 7)) fun t100 =>
  OP (cvI .i32 t100) fun t101 =>
  OP (binI .shl t101 (.int .u64 18)) fun t102 =>
  OP (binI .and t47 (.int .u8 63)) fun t104 =>
  OP (cvI .i32 t104) fun t105 =>
  OP (binI .shl t105 (.int .u64 12)) fun t106 =>
  OP (binI .or t102 t106) fun t107 =>
  OP (binI .and t69 (.int .u8 63)) fun t109 =>
  OP (cvI .i32 t109) fun t110 =>
  OP (binI .shl t110 (.int .u64 6)) fun t111 =>
  OP (binI .or t107 t111) fun t112 =>
  OP (binI .and t92 (.int .u8 63)) fun t114 =>
  OP (cvI .i32 t114) fun t115 =>
  OP (binI .or t112 t115) fun t116 =>
  NTs [t116, (.int .i64 4)] ∧ Q (.tuple #[t116, (.int .i64 4)]) M2
  )
  )
  )
  )
  )
  )
  )
  )
  )
  )
  )
theorem T_unicode_utf8_decodeRuneInStringSlow {x0 : Value} {M : Store} {Q : Value → Store → Prop} (h : S_unicode_utf8_decodeRuneInStringSlow x0 M Q) : R F.unicode_utf8_decodeRuneInStringSlow #[x0] M Q := by
  refine runs_of (c := bodyOf Tryd.f80) Tryd.func80 rfl (by kernel_rfl) (by kernel_rfl) ?_
  unfold At
  exact rule (B := 1000) (N := 117) (ct := .no)
    [⟨1, fun a M => kfin Tryd.prog Tryd.f80.results.toList Q 1 a M, fun a M => kfin Tryd.prog Tryd.f80.results.toList Q 1 a M⟩]
    [] [1] (by kernel_rfl) (by kernel_rfl) (by kernel_rfl) (by kernel_rfl) (by kernel_rfl)
    ⟨fun _ _ _ h => h,
    trivial⟩
    (cast (by kernel_rfl) h)
def S_internal_stringslite_IndexByte (x0 x1 : Value) (M : Store) (Q : Value → Store → Prop) : Prop :=
  R F.internal_bytealg_IndexByteString #[x0, x1] M fun t7 M1 =>
  NTs [t7] ∧ Q t7 M1
theorem T_internal_stringslite_IndexByte {x0 x1 : Value} {M : Store} {Q : Value → Store → Prop} (h : S_internal_stringslite_IndexByte x0 x1 M Q) : R F.internal_stringslite_IndexByte #[x0, x1] M Q := by
  refine runs_of (c := bodyOf Tryd.f81) Tryd.func81 rfl (by kernel_rfl) (by kernel_rfl) ?_
  unfold At
  exact rule (B := 1000) (N := 8) (ct := .no)
    [⟨1, fun a M => kfin Tryd.prog Tryd.f81.results.toList Q 1 a M, fun a M => kfin Tryd.prog Tryd.f81.results.toList Q 1 a M⟩]
    [] [1] (by kernel_rfl) (by kernel_rfl) (by kernel_rfl) (by kernel_rfl) (by kernel_rfl)
    ⟨fun _ _ _ h => h,
    trivial⟩
    (cast (by kernel_rfl) h)
def S_internal_bytealg_Cutover (x0 : Value) (M : Store) (Q : Value → Store → Prop) : Prop :=
  OP (binI .add x0 (.int .i64 16)) fun t4 =>
  OP (binI .quo t4 (.int .i64 8)) fun t5 =>
  NTs [t5] ∧ Q t5 M
theorem T_internal_bytealg_Cutover {x0 : Value} {M : Store} {Q : Value → Store → Prop} (h : S_internal_bytealg_Cutover x0 M Q) : R F.internal_bytealg_Cutover #[x0] M Q := by
  refine runs_of (c := bodyOf Tryd.f83) Tryd.func83 rfl (by kernel_rfl) (by kernel_rfl) ?_
  unfold At
  exact rule (B := 1000) (N := 6) (ct := .no)
    [⟨1, fun a M => kfin Tryd.prog Tryd.f83.results.toList Q 1 a M, fun a M => kfin Tryd.prog Tryd.f83.results.toList Q 1 a M⟩]
    [] [1] (by kernel_rfl) (by kernel_rfl) (by kernel_rfl) (by kernel_rfl) (by kernel_rfl)
    ⟨fun _ _ _ h => h,
    trivial⟩
    (cast (by kernel_rfl) h)
def P_internal_bytealg_IndexRabinKarp_string_1 (x0 x1 x5 x6 x7 x8 x9 : Value) (M : Store) (Q : Value → Store → Prop) : Prop :=
  ∀ f : Nat → Value, f 0 = x0 → f 1 = x1 → f 5 = x5 → f 6 = x6 → f 7 = x7 → f 8 = x8 → f 9 = x9 → At Tryd.prog Ex none Tryd.f84 [1, 1, 1, 1, 0, 1, 0] ⟨⟨81, f⟩, []⟩ M Q
def P_internal_bytealg_IndexRabinKarp_string_2 (x0 x1 x5 x6 x7 x8 : Value) (M : Store) (Q : Value → Store → Prop) : Prop :=
  ∀ f : Nat → Value, f 0 = x0 → f 1 = x1 → f 5 = x5 → f 6 = x6 → f 7 = x7 → f 8 = x8 → At Tryd.prog Ex none Tryd.f84 [1, 1, 1, 1, 1] ⟨⟨81, f⟩, []⟩ M Q
def P_internal_bytealg_IndexRabinKarp_string_3 (x0 x1 x5 x6 x7 x8 x10 : Value) (M : Store) (Q : Value → Store → Prop) : Prop :=
  ∀ f : Nat → Value, f 0 = x0 → f 1 = x1 → f 5 = x5 → f 6 = x6 → f 7 = x7 → f 8 = x8 → f 10 = x10 → At Tryd.prog Ex none Tryd.f84 [1, 1, 1, 1, 1, 1, 0, 1, 0] ⟨⟨81, f⟩, []⟩ M Q
def P_internal_bytealg_IndexRabinKarp_string_4 (x0 x1 x5 x6 x7 x8 x10 : Value) (M : Store) (Q : Value → Store → Prop) : Prop :=
  ∀ f : Nat → Value, f 0 = x0 → f 1 = x1 → f 5 = x5 → f 6 = x6 → f 7 = x7 → f 8 = x8 → f 10 = x10 → At Tryd.prog Ex none Tryd.f84 [1, 1, 1, 1, 1, 1, 0, 1, 0, 0, 1] ⟨⟨81, f⟩, []⟩ M Q
def P_internal_bytealg_IndexRabinKarp_string_5 (M : Store) (Q : Value → Store → Prop) : Prop :=
  ∀ f : Nat → Value, At Tryd.prog Ex none Tryd.f84 [1, 1, 1, 1, 1, 1, 1] ⟨⟨81, f⟩, []⟩ M Q
def S_internal_bytealg_IndexRabinKarp_string (x0 x1 : Value) (M : Store) (Q : Value → Store → Prop) : Prop :=
  R F.internal_bytealg_hashStr_string #[x1] M fun t13 M1 =>
  OP (tup t13 0) fun t14 =>
  OP (tup t13 1) fun t15 =>
  OP (lenS x1) fun t17 =>
  P_internal_bytealg_IndexRabinKarp_string_1 x0 x1 t14 t15 t17 (.int .u32 0) (.int .i64 0) M1 Q
theorem T_internal_bytealg_IndexRabinKarp_string {x0 x1 : Value} {M : Store} {Q : Value → Store → Prop} (h : S_internal_bytealg_IndexRabinKarp_string x0 x1 M Q) : R F.internal_bytealg_IndexRabinKarp_string #[x0, x1] M Q := by
  refine runs_of (c := bodyOf Tryd.f84) Tryd.func84 rfl (by kernel_rfl) (by kernel_rfl) ?_
  unfold At
  exact rule (B := 1000) (N := 81) (ct := (.two .no (.two .no (.two .no (.two .no (.two (.two .no (.two (.here 1000) .no)) (.here 1001)))))))
    [⟨1002, fun a M => dfr a.defers (P_internal_bytealg_IndexRabinKarp_string_1 (a.get 0) (a.get 1) (a.get 5) (a.get 6) (a.get 7) (a.get 8) (a.get 9) M Q), fun a M => At Tryd.prog Ex none Tryd.f84 [1, 1, 1, 1, 0, 1, 0] a M Q⟩,
    ⟨1003, fun _ _ => False, fun a M => At Tryd.prog Ex none Tryd.f84 [1, 1, 1, 1, 1] a M Q⟩]
    [1000, 1001] [] (by kernel_rfl) (by kernel_rfl) (by kernel_rfl) (by kernel_rfl) (by kernel_rfl)
    ⟨fun a M hn h => by obtain ⟨⟨n, f⟩, ds⟩ := a; have hn : n = 81 := hn; subst hn; obtain ⟨hd, h⟩ := dfr_iff h; have hd : ds = [] := hd; subst hd; exact h f rfl rfl rfl rfl rfl rfl rfl,
    fun _ _ _ h => h.elim,
    trivial⟩
    (cast (by kernel_rfl) h)
def S_internal_bytealg_IndexRabinKarp_string_1 (x0 x1 x5 x6 x7 x8 x9 : Value) (M : Store) (Q : Value → Store → Prop) : Prop :=
  OP (binI .lss x9 x7) fun t20 =>
  BR t20 (
  OP (binI .mul x8 (.int .u32 16777619)) fun t24 =>
  OP (ixS x0 x9) fun t27 =>
  OP (cvI .u32 t27) fun t28 =>
  OP (binI .add t24 t28) fun t29 =>
  OP (binI .add x9 (.int .i64 1)) fun t22 =>
  P_internal_bytealg_IndexRabinKarp_string_1 x0 x1 x5 x6 x7 t29 t22 M Q
  ) (
  P_internal_bytealg_IndexRabinKarp_string_2 x0 x1 x5 x6 x7 x8 M Q
  )
theorem T_internal_bytealg_IndexRabinKarp_string_1 {x0 x1 x5 x6 x7 x8 x9 : Value} {M : Store} {Q : Value → Store → Prop} (h : S_internal_bytealg_IndexRabinKarp_string_1 x0 x1 x5 x6 x7 x8 x9 M Q) : P_internal_bytealg_IndexRabinKarp_string_1 x0 x1 x5 x6 x7 x8 x9 M Q := by
  intro f h0 h1 h5 h6 h7 h8 h9; subst h0; subst h1; subst h5; subst h6; subst h7; subst h8; subst h9
  unfold At
  refine cast (by kernel_rfl) (CW.loop (P := Tryd.prog) (E := Ex) (rd := none) (x := sub (bodyOf Tryd.f84) [1, 1, 1, 1, 0, 1, 0, 0]) (a := ⟨⟨81, f⟩, []⟩) (M := M) (K := kcont Tryd.prog Ex none (bodyOf Tryd.f84) [1, 1, 1, 1, 0, 1, 0] (kfin Tryd.prog Tryd.f84.results.toList Q)) ?_)
  exact rule (B := 1000) (N := 81) (ct := .no)
    [⟨0, fun a M => dfr a.defers (P_internal_bytealg_IndexRabinKarp_string_1 (a.get 0) (a.get 1) (a.get 5) (a.get 6) (a.get 7) (a.get 8) (a.get 9) M Q), fun a M => At Tryd.prog Ex none Tryd.f84 [1, 1, 1, 1, 0, 1, 0] a M Q⟩,
    ⟨2, fun a M => dfr a.defers (P_internal_bytealg_IndexRabinKarp_string_2 (a.get 0) (a.get 1) (a.get 5) (a.get 6) (a.get 7) (a.get 8) M Q), fun a M => At Tryd.prog Ex none Tryd.f84 [1, 1, 1, 1, 1] a M Q⟩]
    [] [0, 2] (by kernel_rfl) (by kernel_rfl) (by kernel_rfl) (by kernel_rfl) (by kernel_rfl)
    ⟨fun a M hn h => by obtain ⟨⟨n, f⟩, ds⟩ := a; have hn : n = 81 := hn; subst hn; obtain ⟨hd, h⟩ := dfr_iff h; have hd : ds = [] := hd; subst hd; exact h f rfl rfl rfl rfl rfl rfl rfl,
    fun a M hn h => by obtain ⟨⟨n, f⟩, ds⟩ := a; have hn : n = 81 := hn; subst hn; obtain ⟨hd, h⟩ := dfr_iff h; have hd : ds = [] := hd; subst hd; exact h f rfl rfl rfl rfl rfl rfl,
    trivial⟩
    (cast (by kernel_rfl) h)
def S_internal_bytealg_IndexRabinKarp_string_2 (x0 x1 x5 x6 x7 x8 : Value) (M : Store) (Q : Value → Store → Prop) : Prop :=
  OP (binI .eql x8 x5) fun t32 =>
  BR t32 (
  OP (slS x0 none (some x7)) fun t36 =>
  OP (binS .eql t36 x1) fun t38 =>
  BR t38 (
  NTs [(.int .i64 0)] ∧ Q (.int .i64 0) M
  ) (
  P_internal_bytealg_IndexRabinKarp_string_3 x0 x1 x5 x6 x7 x8 x7 M Q
  )
  ) (
  P_internal_bytealg_IndexRabinKarp_string_3 x0 x1 x5 x6 x7 x8 x7 M Q
  )
theorem T_internal_bytealg_IndexRabinKarp_string_2 {x0 x1 x5 x6 x7 x8 : Value} {M : Store} {Q : Value → Store → Prop} (h : S_internal_bytealg_IndexRabinKarp_string_2 x0 x1 x5 x6 x7 x8 M Q) : P_internal_bytealg_IndexRabinKarp_string_2 x0 x1 x5 x6 x7 x8 M Q := by
  intro f h0 h1 h5 h6 h7 h8; subst h0; subst h1; subst h5; subst h6; subst h7; subst h8
  unfold At
  exact rule (B := 1000) (N := 81) (ct := (.two .no (.two (.two .no (.two (.here 1000) .no)) (.here 1001))))
    [⟨1002, fun a M => dfr a.defers (P_internal_bytealg_IndexRabinKarp_string_3 (a.get 0) (a.get 1) (a.get 5) (a.get 6) (a.get 7) (a.get 8) (a.get 10) M Q), fun a M => At Tryd.prog Ex none Tryd.f84 [1, 1, 1, 1, 1, 1, 0, 1, 0] a M Q⟩,
    ⟨1003, fun _ _ => False, fun a M => At Tryd.prog Ex none Tryd.f84 [1, 1, 1, 1, 1, 1, 1] a M Q⟩,
    ⟨1, fun a M => kfin Tryd.prog Tryd.f84.results.toList Q 1 a M, fun a M => kfin Tryd.prog Tryd.f84.results.toList Q 1 a M⟩]
    [1000, 1001] [1] (by kernel_rfl) (by kernel_rfl) (by kernel_rfl) (by kernel_rfl) (by kernel_rfl)
    ⟨fun a M hn h => by obtain ⟨⟨n, f⟩, ds⟩ := a; have hn : n = 81 := hn; subst hn; obtain ⟨hd, h⟩ := dfr_iff h; have hd : ds = [] := hd; subst hd; exact h f rfl rfl rfl rfl rfl rfl rfl,
    fun _ _ _ h => h.elim,
    fun _ _ _ h => h,
    trivial⟩
    (cast (by kernel_rfl) h)
def S_internal_bytealg_IndexRabinKarp_string_3 (x0 x1 x5 x6 x7 x8 x10 : Value) (M : Store) (Q : Value → Store → Prop) : Prop :=
  OP (lenS x0) fun t43 =>
  OP (binI .lss x10 t43) fun t44 =>
  BR t44 (
  P_internal_bytealg_IndexRabinKarp_string_4 x0 x1 x5 x6 x7 x8 x10 M Q
  ) (
  P_internal_bytealg_IndexRabinKarp_string_5 M Q
  )
theorem T_internal_bytealg_IndexRabinKarp_string_3 {x0 x1 x5 x6 x7 x8 x10 : Value} {M : Store} {Q : Value → Store → Prop} (h : S_internal_bytealg_IndexRabinKarp_string_3 x0 x1 x5 x6 x7 x8 x10 M Q) : P_internal_bytealg_IndexRabinKarp_string_3 x0 x1 x5 x6 x7 x8 x10 M Q := by
  intro f h0 h1 h5 h6 h7 h8 h10; subst h0; subst h1; subst h5; subst h6; subst h7; subst h8; subst h10
  unfold At
  refine cast (by kernel_rfl) (CW.loop (P := Tryd.prog) (E := Ex) (rd := none) (x := sub (bodyOf Tryd.f84) [1, 1, 1, 1, 1, 1, 0, 1, 0, 0]) (a := ⟨⟨81, f⟩, []⟩) (M := M) (K := kcont Tryd.prog Ex none (bodyOf Tryd.f84) [1, 1, 1, 1, 1, 1, 0, 1, 0] (kfin Tryd.prog Tryd.f84.results.toList Q)) ?_)
  exact rule (B := 1000) (N := 81) (ct := (.two .no (.here 1000)))
    [⟨1002, fun a M => dfr a.defers (P_internal_bytealg_IndexRabinKarp_string_4 (a.get 0) (a.get 1) (a.get 5) (a.get 6) (a.get 7) (a.get 8) (a.get 10) M Q), fun a M => At Tryd.prog Ex none Tryd.f84 [1, 1, 1, 1, 1, 1, 0, 1, 0, 0, 1] a M Q⟩,
    ⟨4, fun a M => dfr a.defers (P_internal_bytealg_IndexRabinKarp_string_5 M Q), fun a M => At Tryd.prog Ex none Tryd.f84 [1, 1, 1, 1, 1, 1, 1] a M Q⟩]
    [1000] [4] (by kernel_rfl) (by kernel_rfl) (by kernel_rfl) (by kernel_rfl) (by kernel_rfl)
    ⟨fun a M hn h => by obtain ⟨⟨n, f⟩, ds⟩ := a; have hn : n = 81 := hn; subst hn; obtain ⟨hd, h⟩ := dfr_iff h; have hd : ds = [] := hd; subst hd; exact h f rfl rfl rfl rfl rfl rfl rfl,
    fun a M hn h => by obtain ⟨⟨n, f⟩, ds⟩ := a; have hn : n = 81 := hn; subst hn; obtain ⟨hd, h⟩ := dfr_iff h; have hd : ds = [] := hd; subst hd; exact h f,
    trivial⟩
    (cast (by kernel_rfl) h)
def S_internal_bytealg_IndexRabinKarp_string_4 (x0 x1 x5 x6 x7 x8 x10 : Value) (M : Store) (Q : Value → Store → Prop) : Prop :=
  OP (binI .mul x8 (.int .u32 16777619)) fun t46 =>
  OP (ixS x0 x10) fun t50 =>
  OP (cvI .u32 t50) fun t51 =>
  OP (binI .add t46 t51) fun t52 =>
  OP (binI .sub x10 x7) fun t58 =>
  OP (ixS x0 t58) fun t59 =>
  OP (cvI .u32 t59) fun t60 =>
  OP (binI .mul x6 t60) fun t61 =>
  OP (binI .sub t52 t61) fun t62 =>
  OP (binI .add x10 (.int .i64 1)) fun t64 =>
  OP (binI .eql t62 x5) fun t67 =>
  BR t67 (
  OP (binI .sub t64 x7) fun t72 =>
  OP (slS x0 (some t72) (some t64)) fun t74 =>
  OP (binS .eql t74 x1) fun t76 =>
  BR t76 (
  OP (binI .sub t64 x7) fun t80 =>
  NTs [t80] ∧ Q t80 M
  ) (
  P_internal_bytealg_IndexRabinKarp_string_3 x0 x1 x5 x6 x7 t62 t64 M Q
  )
  ) (
  P_internal_bytealg_IndexRabinKarp_string_3 x0 x1 x5 x6 x7 t62 t64 M Q
  )
theorem T_internal_bytealg_IndexRabinKarp_string_4 {x0 x1 x5 x6 x7 x8 x10 : Value} {M : Store} {Q : Value → Store → Prop} (h : S_internal_bytealg_IndexRabinKarp_string_4 x0 x1 x5 x6 x7 x8 x10 M Q) : P_internal_bytealg_IndexRabinKarp_string_4 x0 x1 x5 x6 x7 x8 x10 M Q := by
  intro f h0 h1 h5 h6 h7 h8 h10; subst h0; subst h1; subst h5; subst h6; subst h7; subst h8; subst h10
  unfold At
  exact rule (B := 1000) (N := 81) (ct := .no)
    [⟨0, fun a M => dfr a.defers (P_internal_bytealg_IndexRabinKarp_string_3 (a.get 0) (a.get 1) (a.get 5) (a.get 6) (a.get 7) (a.get 8) (a.get 10) M Q), fun a M => At Tryd.prog Ex none Tryd.f84 [1, 1, 1, 1, 1, 1, 0, 1, 0] a M Q⟩,
    ⟨1, fun a M => kfin Tryd.prog Tryd.f84.results.toList Q 1 a M, fun a M => kfin Tryd.prog Tryd.f84.results.toList Q 1 a M⟩]
    [] [0, 1] (by kernel_rfl) (by kernel_rfl) (by kernel_rfl) (by kernel_rfl) (by kernel_rfl)
    ⟨fun a M hn h => by obtain ⟨⟨n, f⟩, ds⟩ := a; have hn : n = 81 := hn; subst hn; obtain ⟨hd, h⟩ := dfr_iff h; have hd : ds = [] := hd; subst hd; exact h f rfl rfl rfl rfl rfl rfl rfl,
    fun _ _ _ h => h,
    trivial⟩
    (cast (by kernel_rfl) h)
def S_internal_bytealg_IndexRabinKarp_string_5 (M : Store) (Q : Value → Store → Prop) : Prop :=
  NTs [(.int .i64 (-1))] ∧ Q (.int .i64 (-1)) M
theorem T_internal_bytealg_IndexRabinKarp_string_5 {M : Store} {Q : Value → Store → Prop} (h : S_internal_bytealg_IndexRabinKarp_string_5 M Q) : P_internal_bytealg_IndexRabinKarp_string_5 M Q := by
  intro f 
  unfold At
  exact rule (B := 1000) (N := 81) (ct := .no)
    [⟨1, fun a M => kfin Tryd.prog Tryd.f84.results.toList Q 1 a M, fun a M => kfin Tryd.prog Tryd.f84.results.toList Q 1 a M⟩]
    [] [1] (by kernel_rfl) (by kernel_rfl) (by kernel_rfl) (by kernel_rfl) (by kernel_rfl)
    ⟨fun _ _ _ h => h,
    trivial⟩
    (cast (by kernel_rfl) h)
def P_internal_bytealg_hashStr_string_1 (x0 x4 x5 : Value) (M : Store) (Q : Value → Store → Prop) : Prop :=
  ∀ f : Nat → Value, f 0 = x0 → f 4 = x4 → f 5 = x5 → At Tryd.prog Ex none Tryd.f92 [1, 1, 0, 1, 0] ⟨⟨39, f⟩, []⟩ M Q
def P_internal_bytealg_hashStr_string_2 (x0 x4 : Value) (M : Store) (Q : Value → Store → Prop) : Prop :=
  ∀ f : Nat → Value, f 0 = x0 → f 4 = x4 → At Tryd.prog Ex none Tryd.f92 [1, 1, 1] ⟨⟨39, f⟩, []⟩ M Q
def P_internal_bytealg_hashStr_string_3 (x4 x6 x7 x8 : Value) (M : Store) (Q : Value → Store → Prop) : Prop :=
  ∀ f : Nat → Value, f 4 = x4 → f 6 = x6 → f 7 = x7 → f 8 = x8 → At Tryd.prog Ex none Tryd.f92 [1, 1, 1, 1, 0, 1, 0] ⟨⟨39, f⟩, []⟩ M Q
def P_internal_bytealg_hashStr_string_4 (x4 x6 : Value) (M : Store) (Q : Value → Store → Prop) : Prop :=
  ∀ f : Nat → Value, f 4 = x4 → f 6 = x6 → At Tryd.prog Ex none Tryd.f92 [1, 1, 1, 1, 1] ⟨⟨39, f⟩, []⟩ M Q
def S_internal_bytealg_hashStr_string (x0 : Value) (M : Store) (Q : Value → Store → Prop) : Prop :=
  P_internal_bytealg_hashStr_string_1 x0 (.int .u32 0) (.int .i64 0) M Q
theorem T_internal_bytealg_hashStr_string {x0 : Value} {M : Store} {Q : Value → Store → Prop} (h : S_internal_bytealg_hashStr_string x0 M Q) : R F.internal_bytealg_hashStr_string #[x0] M Q := by
  refine runs_of (c := bodyOf Tryd.f92) Tryd.func92 rfl (by kernel_rfl) (by kernel_rfl) ?_
  unfold At
  exact rule (B := 1000) (N := 39) (ct := (.two .no (.two .no (.two (.two .no (.two (.here 1000) .no)) (.here 1001)))))
    [⟨1002, fun a M => dfr a.defers (P_internal_bytealg_hashStr_string_1 (a.get 0) (a.get 4) (a.get 5) M Q), fun a M => At Tryd.prog Ex none Tryd.f92 [1, 1, 0, 1, 0] a M Q⟩,
    ⟨1003, fun _ _ => False, fun a M => At Tryd.prog Ex none Tryd.f92 [1, 1, 1] a M Q⟩]
    [1000, 1001] [] (by kernel_rfl) (by kernel_rfl) (by kernel_rfl) (by kernel_rfl) (by kernel_rfl)
    ⟨fun a M hn h => by obtain ⟨⟨n, f⟩, ds⟩ := a; have hn : n = 39 := hn; subst hn; obtain ⟨hd, h⟩ := dfr_iff h; have hd : ds = [] := hd; subst hd; exact h f rfl rfl rfl,
    fun _ _ _ h => h.elim,
    trivial⟩
    (cast (by kernel_rfl) h)
def S_internal_bytealg_hashStr_string_1 (x0 x4 x5 : Value) (M : Store) (Q : Value → Store → Prop) : Prop :=
  OP (lenS x0) fun t11 =>
  OP (binI .lss x5 t11) fun t12 =>
  BR t12 (
  OP (binI .mul x4 (.int .u32 16777619)) fun t16 =>
  OP (ixS x0 x5) fun t19 =>
  OP (cvI .u32 t19) fun t20 =>
  OP (binI .add t16 t20) fun t21 =>
  OP (binI .add x5 (.int .i64 1)) fun t14 =>
  P_internal_bytealg_hashStr_string_1 x0 t21 t14 M Q
  ) (
  P_internal_bytealg_hashStr_string_2 x0 x4 M Q
  )
theorem T_internal_bytealg_hashStr_string_1 {x0 x4 x5 : Value} {M : Store} {Q : Value → Store → Prop} (h : S_internal_bytealg_hashStr_string_1 x0 x4 x5 M Q) : P_internal_bytealg_hashStr_string_1 x0 x4 x5 M Q := by
  intro f h0 h4 h5; subst h0; subst h4; subst h5
  unfold At
  refine cast (by kernel_rfl) (CW.loop (P := Tryd.prog) (E := Ex) (rd := none) (x := sub (bodyOf Tryd.f92) [1, 1, 0, 1, 0, 0]) (a := ⟨⟨39, f⟩, []⟩) (M := M) (K := kcont Tryd.prog Ex none (bodyOf Tryd.f92) [1, 1, 0, 1, 0] (kfin Tryd.prog Tryd.f92.results.toList Q)) ?_)
  exact rule (B := 1000) (N := 39) (ct := .no)
    [⟨0, fun a M => dfr a.defers (P_internal_bytealg_hashStr_string_1 (a.get 0) (a.get 4) (a.get 5) M Q), fun a M => At Tryd.prog Ex none Tryd.f92 [1, 1, 0, 1, 0] a M Q⟩,
    ⟨2, fun a M => dfr a.defers (P_internal_bytealg_hashStr_string_2 (a.get 0) (a.get 4) M Q), fun a M => At Tryd.prog Ex none Tryd.f92 [1, 1, 1] a M Q⟩]
    [] [0, 2] (by kernel_rfl) (by kernel_rfl) (by kernel_rfl) (by kernel_rfl) (by kernel_rfl)
    ⟨fun a M hn h => by obtain ⟨⟨n, f⟩, ds⟩ := a; have hn : n = 39 := hn; subst hn; obtain ⟨hd, h⟩ := dfr_iff h; have hd : ds = [] := hd; subst hd; exact h f rfl rfl rfl,
    fun a M hn h => by obtain ⟨⟨n, f⟩, ds⟩ := a; have hn : n = 39 := hn; subst hn; obtain ⟨hd, h⟩ := dfr_iff h; have hd : ds = [] := hd; subst hd; exact h f rfl rfl,
    trivial⟩
    (cast (by kernel_rfl) h)
def S_internal_bytealg_hashStr_string_2 (x0 x4 : Value) (M : Store) (Q : Value → Store → Prop) : Prop :=
  OP (lenS x0) fun t23 =>
  P_internal_bytealg_hashStr_string_3 x4 (.int .u32 1) (.int .u32 16777619) t23 M Q
theorem T_internal_bytealg_hashStr_string_2 {x0 x4 : Value} {M : Store} {Q : Value → Store → Prop} (h : S_internal_bytealg_hashStr_string_2 x0 x4 M Q) : P_internal_bytealg_hashStr_string_2 x0 x4 M Q := by
  intro f h0 h4; subst h0; subst h4
  unfold At
  exact rule (B := 1000) (N := 39) (ct := (.two .no (.two (.two .no (.two (.here 1000) .no)) (.here 1001))))
    [⟨1002, fun a M => dfr a.defers (P_internal_bytealg_hashStr_string_3 (a.get 4) (a.get 6) (a.get 7) (a.get 8) M Q), fun a M => At Tryd.prog Ex none Tryd.f92 [1, 1, 1, 1, 0, 1, 0] a M Q⟩,
    ⟨1003, fun _ _ => False, fun a M => At Tryd.prog Ex none Tryd.f92 [1, 1, 1, 1, 1] a M Q⟩]
    [1000, 1001] [] (by kernel_rfl) (by kernel_rfl) (by kernel_rfl) (by kernel_rfl) (by kernel_rfl)
    ⟨fun a M hn h => by obtain ⟨⟨n, f⟩, ds⟩ := a; have hn : n = 39 := hn; subst hn; obtain ⟨hd, h⟩ := dfr_iff h; have hd : ds = [] := hd; subst hd; exact h f rfl rfl rfl rfl,
    fun _ _ _ h => h.elim,
    trivial⟩
    (cast (by kernel_rfl) h)
def S_internal_bytealg_hashStr_string_3 (x4 x6 x7 x8 : Value) (M : Store) (Q : Value → Store → Prop) : Prop :=
  OP (binI .gtr x8 (.int .i64 0)) fun t25 =>
  BR t25 (
  OP (binI .and x8 (.int .i64 1)) fun t29 =>
  OP (binI .neq t29 (.int .i64 0)) fun t30 =>
  BR t30 (
  OP (binI .mul x6 x7) fun t33 =>
  OP (binI .mul x7 x7) fun t36 =>
  OP (binI .shr x8 (.int .u64 1)) fun t27 =>
  P_internal_bytealg_hashStr_string_3 x4 t33 t36 t27 M Q
  ) (
  OP (binI .mul x7 x7) fun t36_1 =>
  OP (binI .shr x8 (.int .u64 1)) fun t27_1 =>
  P_internal_bytealg_hashStr_string_3 x4 x6 t36_1 t27_1 M Q
  )
  ) (
  P_internal_bytealg_hashStr_string_4 x4 x6 M Q
  )
theorem T_internal_bytealg_hashStr_string_3 {x4 x6 x7 x8 : Value} {M : Store} {Q : Value → Store → Prop} (h : S_internal_bytealg_hashStr_string_3 x4 x6 x7 x8 M Q) : P_internal_bytealg_hashStr_string_3 x4 x6 x7 x8 M Q := by
  intro f h4 h6 h7 h8; subst h4; subst h6; subst h7; subst h8
  unfold At
  refine cast (by kernel_rfl) (CW.loop (P := Tryd.prog) (E := Ex) (rd := none) (x := sub (bodyOf Tryd.f92) [1, 1, 1, 1, 0, 1, 0, 0]) (a := ⟨⟨39, f⟩, []⟩) (M := M) (K := kcont Tryd.prog Ex none (bodyOf Tryd.f92) [1, 1, 1, 1, 0, 1, 0] (kfin Tryd.prog Tryd.f92.results.toList Q)) ?_)
  exact rule (B := 1000) (N := 39) (ct := .no)
    [⟨0, fun a M => dfr a.defers (P_internal_bytealg_hashStr_string_3 (a.get 4) (a.get 6) (a.get 7) (a.get 8) M Q), fun a M => At Tryd.prog Ex none Tryd.f92 [1, 1, 1, 1, 0, 1, 0] a M Q⟩,
    ⟨4, fun a M => dfr a.defers (P_internal_bytealg_hashStr_string_4 (a.get 4) (a.get 6) M Q), fun a M => At Tryd.prog Ex none Tryd.f92 [1, 1, 1, 1, 1] a M Q⟩]
    [] [0, 4] (by kernel_rfl) (by kernel_rfl) (by kernel_rfl) (by kernel_rfl) (by kernel_rfl)
    ⟨fun a M hn h => by obtain ⟨⟨n, f⟩, ds⟩ := a; have hn : n = 39 := hn; subst hn; obtain ⟨hd, h⟩ := dfr_iff h; have hd : ds = [] := hd; subst hd; exact h f rfl rfl rfl rfl,
    fun a M hn h => by obtain ⟨⟨n, f⟩, ds⟩ := a; have hn : n = 39 := hn; subst hn; obtain ⟨hd, h⟩ := dfr_iff h; have hd : ds = [] := hd; subst hd; exact h f rfl rfl,
    trivial⟩
    (cast (by kernel_rfl) h)
def S_internal_bytealg_hashStr_string_4 (x4 x6 : Value) (M : Store) (Q : Value → Store → Prop) : Prop :=
  NTs [x4, x6] ∧ Q (.tuple #[x4, x6]) M
theorem T_internal_bytealg_hashStr_string_4 {x4 x6 : Value} {M : Store} {Q : Value → Store → Prop} (h : S_internal_bytealg_hashStr_string_4 x4 x6 M Q) : P_internal_bytealg_hashStr_string_4 x4 x6 M Q := by
  intro f h4 h6; subst h4; subst h6
  unfold At
  exact rule (B := 1000) (N := 39) (ct := .no)
    [⟨1, fun a M => kfin Tryd.prog Tryd.f92.results.toList Q 1 a M, fun a M => kfin Tryd.prog Tryd.f92.results.toList Q 1 a M⟩]
    [] [1] (by kernel_rfl) (by kernel_rfl) (by kernel_rfl) (by kernel_rfl) (by kernel_rfl)
    ⟨fun _ _ _ h => h,
    trivial⟩
    (cast (by kernel_rfl) h)
end Go.G
