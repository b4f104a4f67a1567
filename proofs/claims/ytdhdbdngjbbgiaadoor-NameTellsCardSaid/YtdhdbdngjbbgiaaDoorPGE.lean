/-  -/
import Derived.Test.YtdhdbdngjbbgiaaDoorPGN
open Go.RowKit
namespace Go.G
open Go.Ab Go.Proofs
set_option linter.unusedVariables false
set_option maxRecDepth 100000
def P_name_Of_1 (x0 x8 x25 x26 x27 : Value) (M : Store) (Q : Value → Store → Prop) : Prop :=
  ∀ f : Nat → Value, f 0 = x0 → f 8 = x8 → f 25 = x25 → f 26 = x26 → f 27 = x27 → At Tryd.prog Ex none Tryd.f25 [1, 1, 1, 1, 1, 0, 1, 0] ⟨⟨53, f⟩, []⟩ M Q
def P_name_Of_2 (x0 x8 x25 x26 x27 : Value) (M : Store) (Q : Value → Store → Prop) : Prop :=
  ∀ f : Nat → Value, f 0 = x0 → f 8 = x8 → f 25 = x25 → f 26 = x26 → f 27 = x27 → At Tryd.prog Ex none Tryd.f25 [1, 1, 1, 1, 1, 0, 1, 0, 0, 1, 1] ⟨⟨53, f⟩, []⟩ M Q
def P_name_Of_3 (x0 x8 : Value) (M : Store) (Q : Value → Store → Prop) : Prop :=
  ∀ f : Nat → Value, f 0 = x0 → f 8 = x8 → At Tryd.prog Ex none Tryd.f25 [1, 1, 1, 1, 1, 1] ⟨⟨53, f⟩, []⟩ M Q
def S_name_Of (x0 : Value) (M : Store) (Q : Value → Store → Prop) : Prop :=
  R F.strings_CutPrefix #[x0, (.string ⟨#[116, 109, 112, 47]⟩)] M fun t13 M1 =>
  OP (tup t13 0) fun t14 =>
  OP (tup t13 1) fun t15 =>
  R F.strings_Split #[t14, (.string ⟨#[46]⟩)] M1 fun t17 M2 =>
  OP (aun .not t15) fun t19 =>
  BR t19 (
  NTs [(.int .i64 0), (.int .i64 0), (.bool false)] ∧ Q (.tuple #[(.int .i64 0), (.int .i64 0), (.bool false)]) M2
  ) (
  OP (lenV t17) fun t22 =>
  OP (binI .neq t22 (.int .i64 3)) fun t23 =>
  BR t23 (
  NTs [(.int .i64 0), (.int .i64 0), (.bool false)] ∧ Q (.tuple #[(.int .i64 0), (.int .i64 0), (.bool false)]) M2
  ) (
  LT (.pointer (some ⟨M2.n, 0, none⟩)) (M2.push (some (.inl ([(.int .i64 0), (.int .i64 0), (.int .i64 0)], Ty.a3_int, true)))) fun t8 M3 =>
  OP (lenV t17) fun t26 =>
  P_name_Of_1 x0 t8 t17 t26 (.int .i64 0) M3 Q
  )
  )
theorem T_name_Of {x0 : Value} {M : Store} {Q : Value → Store → Prop} (h : S_name_Of x0 M Q) : R F.name_Of #[x0] M Q := by
  refine runs_of (c := bodyOf Tryd.f25) Tryd.func25 rfl (by kernel_rfl) (by kernel_rfl) ?_
  unfold At
  exact rule (B := 1000) (N := 53) (ct := (.two .no (.two .no (.two .no (.two .no (.two .no (.two (.two .no (.two (.here 1000) .no)) (.here 1001))))))))
    [⟨1002, fun a M => dfr a.defers (P_name_Of_1 (a.get 0) (a.get 8) (a.get 25) (a.get 26) (a.get 27) M Q), fun a M => At Tryd.prog Ex none Tryd.f25 [1, 1, 1, 1, 1, 0, 1, 0] a M Q⟩,
    ⟨1003, fun _ _ => False, fun a M => At Tryd.prog Ex none Tryd.f25 [1, 1, 1, 1, 1, 1] a M Q⟩,
    ⟨1, fun a M => kfin Tryd.prog Tryd.f25.results.toList Q 1 a M, fun a M => kfin Tryd.prog Tryd.f25.results.toList Q 1 a M⟩]
    [1000, 1001] [1] (by kernel_rfl) (by kernel_rfl) (by kernel_rfl) (by kernel_rfl) (by kernel_rfl)
    ⟨fun a M hn h => by obtain ⟨⟨n, f⟩, ds⟩ := a; have hn : n = 53 := hn; subst hn; obtain ⟨hd, h⟩ := dfr_iff h; have hd : ds = [] := hd; subst hd; exact h f rfl rfl rfl rfl rfl,
    fun _ _ _ h => h.elim,
    fun _ _ _ h => h,
    trivial⟩
    (cast (by kernel_rfl) h)
def S_name_Of_1 (x0 x8 x25 x26 x27 : Value) (M : Store) (Q : Value → Store → Prop) : Prop :=
  OP (binI .lss x27 x26) fun t28 =>
  BR t28 (
  P_name_Of_2 x0 x8 x25 x26 x27 M Q
  ) (
  P_name_Of_3 x0 x8 M Q
  )
theorem T_name_Of_1 {x0 x8 x25 x26 x27 : Value} {M : Store} {Q : Value → Store → Prop} (h : S_name_Of_1 x0 x8 x25 x26 x27 M Q) : P_name_Of_1 x0 x8 x25 x26 x27 M Q := by
  intro f h0 h8 h25 h26 h27; subst h0; subst h8; subst h25; subst h26; subst h27
  unfold At
  refine cast (by kernel_rfl) (CW.loop (P := Tryd.prog) (E := Ex) (rd := none) (x := sub (bodyOf Tryd.f25) [1, 1, 1, 1, 1, 0, 1, 0, 0]) (a := ⟨⟨53, f⟩, []⟩) (M := M) (K := kcont Tryd.prog Ex none (bodyOf Tryd.f25) [1, 1, 1, 1, 1, 0, 1, 0] (kfin Tryd.prog Tryd.f25.results.toList Q)) ?_)
  exact rule (B := 1000) (N := 53) (ct := (.two .no (.two .no (.here 1000))))
    [⟨1002, fun a M => dfr a.defers (P_name_Of_2 (a.get 0) (a.get 8) (a.get 25) (a.get 26) (a.get 27) M Q), fun a M => At Tryd.prog Ex none Tryd.f25 [1, 1, 1, 1, 1, 0, 1, 0, 0, 1, 1] a M Q⟩,
    ⟨2, fun a M => dfr a.defers (P_name_Of_3 (a.get 0) (a.get 8) M Q), fun a M => At Tryd.prog Ex none Tryd.f25 [1, 1, 1, 1, 1, 1] a M Q⟩]
    [1000] [2] (by kernel_rfl) (by kernel_rfl) (by kernel_rfl) (by kernel_rfl) (by kernel_rfl)
    ⟨fun a M hn h => by obtain ⟨⟨n, f⟩, ds⟩ := a; have hn : n = 53 := hn; subst hn; obtain ⟨hd, h⟩ := dfr_iff h; have hd : ds = [] := hd; subst hd; exact h f rfl rfl rfl rfl rfl,
    fun a M hn h => by obtain ⟨⟨n, f⟩, ds⟩ := a; have hn : n = 53 := hn; subst hn; obtain ⟨hd, h⟩ := dfr_iff h; have hd : ds = [] := hd; subst hd; exact h f rfl rfl,
    trivial⟩
    (cast (by kernel_rfl) h)
def S_name_Of_2 (x0 x8 x25 x26 x27 : Value) (M : Store) (Q : Value → Store → Prop) : Prop :=
  OP (ixA 1 x25 x27) fun t30 =>
  OP (ld 1 false t30 M) fun t31 =>
  R F.strconv_Atoi #[t31] M fun t35 M1 =>
  OP (tup t35 0) fun t36 =>
  OP (tup t35 1) fun t37 =>
  OP (ixP 1 3 x8 x27) fun t38 =>
  OP (st 1 t38 t36 M1) fun M2 =>
  OP (binI .add x27 (.int .i64 1)) fun t39 =>
  P_name_Of_1 x0 x8 x25 x26 t39 M2 Q
theorem T_name_Of_2 {x0 x8 x25 x26 x27 : Value} {M : Store} {Q : Value → Store → Prop} (h : S_name_Of_2 x0 x8 x25 x26 x27 M Q) : P_name_Of_2 x0 x8 x25 x26 x27 M Q := by
  intro f h0 h8 h25 h26 h27; subst h0; subst h8; subst h25; subst h26; subst h27
  unfold At
  exact rule (B := 1000) (N := 53) (ct := .no)
    [⟨0, fun a M => dfr a.defers (P_name_Of_1 (a.get 0) (a.get 8) (a.get 25) (a.get 26) (a.get 27) M Q), fun a M => At Tryd.prog Ex none Tryd.f25 [1, 1, 1, 1, 1, 0, 1, 0] a M Q⟩]
    [] [0] (by kernel_rfl) (by kernel_rfl) (by kernel_rfl) (by kernel_rfl) (by kernel_rfl)
    ⟨fun a M hn h => by obtain ⟨⟨n, f⟩, ds⟩ := a; have hn : n = 53 := hn; subst hn; obtain ⟨hd, h⟩ := dfr_iff h; have hd : ds = [] := hd; subst hd; exact h f rfl rfl rfl rfl rfl,
    trivial⟩
    (cast (by kernel_rfl) h)
def S_name_Of_3 (x0 x8 : Value) (M : Store) (Q : Value → Store → Prop) : Prop :=
  OP (ixP 1 3 x8 (.int .i64 0)) fun t40 =>
  OP (ld 1 false t40 M) fun t41 =>
  OP (ixP 1 3 x8 (.int .i64 1)) fun t42 =>
  OP (ld 1 false t42 M) fun t43 =>
  OP (ixP 1 3 x8 (.int .i64 2)) fun t44 =>
  OP (ld 1 false t44 M) fun t45 =>
  R F.name_Temp #[t41, t43, t45] M fun t46 M1 =>
  OP (binS .neq t46 x0) fun t48 =>
  BR t48 (
  NTs [(.int .i64 0), (.int .i64 0), (.bool false)] ∧ Q (.tuple #[(.int .i64 0), (.int .i64 0), (.bool false)]) M1
  ) (
  OP (ixP 1 3 x8 (.int .i64 0)) fun t49 =>
  OP (ld 1 false t49 M1) fun t50 =>
  OP (ixP 1 3 x8 (.int .i64 1)) fun t51 =>
  OP (ld 1 false t51 M1) fun t52 =>
  NTs [t50, t52, (.bool true)] ∧ Q (.tuple #[t50, t52, (.bool true)]) M1
  )
theorem T_name_Of_3 {x0 x8 : Value} {M : Store} {Q : Value → Store → Prop} (h : S_name_Of_3 x0 x8 M Q) : P_name_Of_3 x0 x8 M Q := by
  intro f h0 h8; subst h0; subst h8
  unfold At
  exact rule (B := 1000) (N := 53) (ct := .no)
    [⟨1, fun a M => kfin Tryd.prog Tryd.f25.results.toList Q 1 a M, fun a M => kfin Tryd.prog Tryd.f25.results.toList Q 1 a M⟩]
    [] [1] (by kernel_rfl) (by kernel_rfl) (by kernel_rfl) (by kernel_rfl) (by kernel_rfl)
    ⟨fun _ _ _ h => h,
    trivial⟩
    (cast (by kernel_rfl) h)
def P_name_Ok_1 (x0 x5 x6 : Value) (M : Store) (Q : Value → Store → Prop) : Prop :=
  ∀ f : Nat → Value, f 0 = x0 → f 5 = x5 → f 6 = x6 → At Tryd.prog Ex none Tryd.f26 [1, 0, 1, 0] ⟨⟨23, f⟩, []⟩ M Q
def P_name_Ok_2 (x0 : Value) (M : Store) (Q : Value → Store → Prop) : Prop :=
  ∀ f : Nat → Value, f 0 = x0 → At Tryd.prog Ex none Tryd.f26 [1, 1] ⟨⟨23, f⟩, []⟩ M Q
def S_name_Ok (x0 : Value) (M : Store) (Q : Value → Store → Prop) : Prop :=
  OP (lenS x0) fun t5 =>
  P_name_Ok_1 x0 t5 (.int .i64 0) M Q
theorem T_name_Ok {x0 : Value} {M : Store} {Q : Value → Store → Prop} (h : S_name_Ok x0 M Q) : R F.name_Ok #[x0] M Q := by
  refine runs_of (c := bodyOf Tryd.f26) Tryd.func26 rfl (by kernel_rfl) (by kernel_rfl) ?_
  unfold At
  exact rule (B := 1000) (N := 23) (ct := (.two .no (.two (.two .no (.two (.here 1000) .no)) (.here 1001))))
    [⟨1002, fun a M => dfr a.defers (P_name_Ok_1 (a.get 0) (a.get 5) (a.get 6) M Q), fun a M => At Tryd.prog Ex none Tryd.f26 [1, 0, 1, 0] a M Q⟩,
    ⟨1003, fun _ _ => False, fun a M => At Tryd.prog Ex none Tryd.f26 [1, 1] a M Q⟩]
    [1000, 1001] [] (by kernel_rfl) (by kernel_rfl) (by kernel_rfl) (by kernel_rfl) (by kernel_rfl)
    ⟨fun a M hn h => by obtain ⟨⟨n, f⟩, ds⟩ := a; have hn : n = 23 := hn; subst hn; obtain ⟨hd, h⟩ := dfr_iff h; have hd : ds = [] := hd; subst hd; exact h f rfl rfl rfl,
    fun _ _ _ h => h.elim,
    trivial⟩
    (cast (by kernel_rfl) h)
def S_name_Ok_1 (x0 x5 x6 : Value) (M : Store) (Q : Value → Store → Prop) : Prop :=
  OP (binI .lss x6 x5) fun t7 =>
  BR t7 (
  OP (ixS x0 x6) fun t11 =>
  R F.name_letter #[t11] M fun t12 M1 =>
  OP (aun .not t12) fun t13 =>
  BR t13 (
  NTs [(.bool false)] ∧ Q (.bool false) M1
  ) (
  OP (binI .add x6 (.int .i64 1)) fun t14 =>
  P_name_Ok_1 x0 x5 t14 M1 Q
  )
  ) (
  P_name_Ok_2 x0 M Q
  )
theorem T_name_Ok_1 {x0 x5 x6 : Value} {M : Store} {Q : Value → Store → Prop} (h : S_name_Ok_1 x0 x5 x6 M Q) : P_name_Ok_1 x0 x5 x6 M Q := by
  intro f h0 h5 h6; subst h0; subst h5; subst h6
  unfold At
  refine cast (by kernel_rfl) (CW.loop (P := Tryd.prog) (E := Ex) (rd := none) (x := sub (bodyOf Tryd.f26) [1, 0, 1, 0, 0]) (a := ⟨⟨23, f⟩, []⟩) (M := M) (K := kcont Tryd.prog Ex none (bodyOf Tryd.f26) [1, 0, 1, 0] (kfin Tryd.prog Tryd.f26.results.toList Q)) ?_)
  exact rule (B := 1000) (N := 23) (ct := .no)
    [⟨0, fun a M => dfr a.defers (P_name_Ok_1 (a.get 0) (a.get 5) (a.get 6) M Q), fun a M => At Tryd.prog Ex none Tryd.f26 [1, 0, 1, 0] a M Q⟩,
    ⟨1, fun a M => kfin Tryd.prog Tryd.f26.results.toList Q 1 a M, fun a M => kfin Tryd.prog Tryd.f26.results.toList Q 1 a M⟩,
    ⟨2, fun a M => dfr a.defers (P_name_Ok_2 (a.get 0) M Q), fun a M => At Tryd.prog Ex none Tryd.f26 [1, 1] a M Q⟩]
    [] [0, 1, 2] (by kernel_rfl) (by kernel_rfl) (by kernel_rfl) (by kernel_rfl) (by kernel_rfl)
    ⟨fun a M hn h => by obtain ⟨⟨n, f⟩, ds⟩ := a; have hn : n = 23 := hn; subst hn; obtain ⟨hd, h⟩ := dfr_iff h; have hd : ds = [] := hd; subst hd; exact h f rfl rfl rfl,
    fun _ _ _ h => h,
    fun a M hn h => by obtain ⟨⟨n, f⟩, ds⟩ := a; have hn : n = 23 := hn; subst hn; obtain ⟨hd, h⟩ := dfr_iff h; have hd : ds = [] := hd; subst hd; exact h f rfl,
    trivial⟩
    (cast (by kernel_rfl) h)
def S_name_Ok_2 (x0 : Value) (M : Store) (Q : Value → Store → Prop) : Prop :=
  OP (lenS x0) fun t16 =>
  OP (binI .geq t16 (.int .i64 1)) fun t17 =>
  BR t17 (
  OP (lenS x0) fun t20 =>
  OP (binI .leq t20 (.int .i64 16)) fun t21 =>
  NTs [t21] ∧ Q t21 M
  ) (
  NTs [(.bool false)] ∧ Q (.bool false) M
  )
theorem T_name_Ok_2 {x0 : Value} {M : Store} {Q : Value → Store → Prop} (h : S_name_Ok_2 x0 M Q) : P_name_Ok_2 x0 M Q := by
  intro f h0; subst h0
  unfold At
  exact rule (B := 1000) (N := 23) (ct := .no)
    [⟨1, fun a M => kfin Tryd.prog Tryd.f26.results.toList Q 1 a M, fun a M => kfin Tryd.prog Tryd.f26.results.toList Q 1 a M⟩]
    [] [1] (by kernel_rfl) (by kernel_rfl) (by kernel_rfl) (by kernel_rfl) (by kernel_rfl)
    ⟨fun _ _ _ h => h,
    trivial⟩
    (cast (by kernel_rfl) h)
def S_name_File (x0 : Value) (M : Store) (Q : Value → Store → Prop) : Prop :=
  R F.strings_Cut #[x0, (.string ⟨#[47]⟩)] M fun t8 M1 =>
  OP (tup t8 0) fun t9 =>
  OP (tup t8 1) fun t10 =>
  OP (tup t8 2) fun t11 =>
  R F.name_Ok #[t9] M1 fun t13 M2 =>
  BR t13 (
  OP (aun .not t11) fun t16 =>
  BR3 t16 (
  NTs [(.bool true)] ∧ Q (.bool true) M2
  ) (
  R F.name_Ok #[t10] M2 fun t19 M3 =>
  NTs [t19] ∧ Q t19 M3
  ) (
  BR t16 (
  NTs [(.bool true)] ∧ Q (.bool true) M2
  ) (
  NTs [undef] ∧ Q undef M2
  )
  )
  ) (
  NTs [(.bool false)] ∧ Q (.bool false) M2
  )
theorem T_name_File {x0 : Value} {M : Store} {Q : Value → Store → Prop} (h : S_name_File x0 M Q) : R F.name_File #[x0] M Q := by
  refine runs_of (c := bodyOf Tryd.f27) Tryd.func27 rfl (by kernel_rfl) (by kernel_rfl) ?_
  unfold At
  exact rule (B := 1000) (N := 22) (ct := .no)
    [⟨1, fun a M => kfin Tryd.prog Tryd.f27.results.toList Q 1 a M, fun a M => kfin Tryd.prog Tryd.f27.results.toList Q 1 a M⟩]
    [] [1] (by kernel_rfl) (by kernel_rfl) (by kernel_rfl) (by kernel_rfl) (by kernel_rfl)
    ⟨fun _ _ _ h => h,
    trivial⟩
    (cast (by kernel_rfl) h)
def S_name_Temp (x0 x1 x2 : Value) (M : Store) (Q : Value → Store → Prop) : Prop :=
  R F.name_Temp_c1 #[x0, (.int .i64 999)] M fun t10 M1 =>
  OP (binS .add (.string ⟨#[116, 109, 112, 47]⟩) t10) fun t11 =>
  OP (binS .add t11 (.string ⟨#[46]⟩)) fun t12 =>
  R F.name_Temp_c1 #[x1, (.int .i64 99999)] M1 fun t15 M2 =>
  OP (binS .add t12 t15) fun t16 =>
  OP (binS .add t16 (.string ⟨#[46]⟩)) fun t17 =>
  R F.name_Temp_c1 #[x2, (.int .i64 99999)] M2 fun t20 M3 =>
  OP (binS .add t17 t20) fun t21 =>
  NTs [t21] ∧ Q t21 M3
theorem T_name_Temp {x0 x1 x2 : Value} {M : Store} {Q : Value → Store → Prop} (h : S_name_Temp x0 x1 x2 M Q) : R F.name_Temp #[x0, x1, x2] M Q := by
  refine runs_of (c := bodyOf Tryd.f29) Tryd.func29 rfl (by kernel_rfl) (by kernel_rfl) ?_
  unfold At
  exact rule (B := 1000) (N := 22) (ct := .no)
    [⟨1, fun a M => kfin Tryd.prog Tryd.f29.results.toList Q 1 a M, fun a M => kfin Tryd.prog Tryd.f29.results.toList Q 1 a M⟩]
    [] [1] (by kernel_rfl) (by kernel_rfl) (by kernel_rfl) (by kernel_rfl) (by kernel_rfl)
    ⟨fun _ _ _ h => h,
    trivial⟩
    (cast (by kernel_rfl) h)
def S_name_Claim (x0 : Value) (M : Store) (Q : Value → Store → Prop) : Prop :=
  OP (binS .add (.string ⟨#[99, 108, 97, 105, 109, 47]⟩) x0) fun t4 =>
  NTs [t4] ∧ Q t4 M
theorem T_name_Claim {x0 : Value} {M : Store} {Q : Value → Store → Prop} (h : S_name_Claim x0 M Q) : R F.name_Claim #[x0] M Q := by
  refine runs_of (c := bodyOf Tryd.f34) Tryd.func34 rfl (by kernel_rfl) (by kernel_rfl) ?_
  unfold At
  exact rule (B := 1000) (N := 5) (ct := .no)
    [⟨1, fun a M => kfin Tryd.prog Tryd.f34.results.toList Q 1 a M, fun a M => kfin Tryd.prog Tryd.f34.results.toList Q 1 a M⟩]
    [] [1] (by kernel_rfl) (by kernel_rfl) (by kernel_rfl) (by kernel_rfl) (by kernel_rfl)
    ⟨fun _ _ _ h => h,
    trivial⟩
    (cast (by kernel_rfl) h)
def S_strings_CutPrefix (x0 x1 : Value) (M : Store) (Q : Value → Store → Prop) : Prop :=
  R F.internal_stringslite_CutPrefix #[x0, x1] M fun t8 M1 =>
  OP (tup t8 0) fun t9 =>
  OP (tup t8 1) fun t10 =>
  NTs [t9, t10] ∧ Q (.tuple #[t9, t10]) M1
theorem T_strings_CutPrefix {x0 x1 : Value} {M : Store} {Q : Value → Store → Prop} (h : S_strings_CutPrefix x0 x1 M Q) : R F.strings_CutPrefix #[x0, x1] M Q := by
  refine runs_of (c := bodyOf Tryd.f45) Tryd.func45 rfl (by kernel_rfl) (by kernel_rfl) ?_
  unfold At
  exact rule (B := 1000) (N := 11) (ct := .no)
    [⟨1, fun a M => kfin Tryd.prog Tryd.f45.results.toList Q 1 a M, fun a M => kfin Tryd.prog Tryd.f45.results.toList Q 1 a M⟩]
    [] [1] (by kernel_rfl) (by kernel_rfl) (by kernel_rfl) (by kernel_rfl) (by kernel_rfl)
    ⟨fun _ _ _ h => h,
    trivial⟩
    (cast (by kernel_rfl) h)
def S_name_letter (x0 : Value) (M : Store) (Q : Value → Store → Prop) : Prop :=
  OP (binI .geq x0 (.int .u8 97)) fun t5 =>
  BR t5 (
  OP (binI .leq x0 (.int .u8 122)) fun t8 =>
  BR t8 (
  BR t8 (
  NTs [(.bool true)] ∧ Q (.bool true) M
  ) (
  NTs [(.bool false)] ∧ Q (.bool false) M
  )
  ) (
  OP (binI .geq x0 (.int .u8 48)) fun t11 =>
  BR t11 (
  OP (binI .leq x0 (.int .u8 57)) fun t14 =>
  BR t14 (
  BR t14 (
  NTs [(.bool true)] ∧ Q (.bool true) M
  ) (
  NTs [(.bool false)] ∧ Q (.bool false) M
  )
  ) (
  OP (binI .eql x0 (.int .u8 46)) fun t17 =>
  BR t17 (
  BR t17 (
  NTs [(.bool true)] ∧ Q (.bool true) M
  ) (
  NTs [(.bool false)] ∧ Q (.bool false) M
  )
  ) (
  OP (binI .eql x0 (.int .u8 45)) fun t19 =>
  BR t19 (
  BR t19 (
  NTs [(.bool true)] ∧ Q (.bool true) M
  ) (
  NTs [(.bool false)] ∧ Q (.bool false) M
  )
  ) (
  OP (binI .eql x0 (.int .u8 95)) fun t21 =>
  BR t21 (
  NTs [(.bool true)] ∧ Q (.bool true) M
  ) (
  NTs [(.bool false)] ∧ Q (.bool false) M
  )
  )
  )
  )
  ) (
  OP (binI .eql x0 (.int .u8 46)) fun t17_1 =>
  BR t17_1 (
  BR t17_1 (
  NTs [(.bool true)] ∧ Q (.bool true) M
  ) (
  NTs [(.bool false)] ∧ Q (.bool false) M
  )
  ) (
  OP (binI .eql x0 (.int .u8 45)) fun t19_1 =>
  BR t19_1 (
  BR t19_1 (
  NTs [(.bool true)] ∧ Q (.bool true) M
  ) (
  NTs [(.bool false)] ∧ Q (.bool false) M
  )
  ) (
  OP (binI .eql x0 (.int .u8 95)) fun t21_1 =>
  BR t21_1 (
  NTs [(.bool true)] ∧ Q (.bool true) M
  ) (
  NTs [(.bool false)] ∧ Q (.bool false) M
  )
  )
  )
  )
  )
  ) (
  OP (binI .geq x0 (.int .u8 48)) fun t11_1 =>
  BR t11_1 (
  OP (binI .leq x0 (.int .u8 57)) fun t14_1 =>
  BR t14_1 (
  BR t14_1 (
  NTs [(.bool true)] ∧ Q (.bool true) M
  ) (
  NTs [(.bool false)] ∧ Q (.bool false) M
  )
  ) (
  OP (binI .eql x0 (.int .u8 46)) fun t17_2 =>
  BR t17_2 (
  BR t17_2 (
  NTs [(.bool true)] ∧ Q (.bool true) M
  ) (
  NTs [(.bool false)] ∧ Q (.bool false) M
  )
  ) (
  OP (binI .eql x0 (.int .u8 45)) fun t19_2 =>
  BR t19_2 (
  BR t19_2 (
  NTs [(.bool true)] ∧ Q (.bool true) M
  ) (
  NTs [(.bool false)] ∧ Q (.bool false) M
  )
  ) (
  OP (binI .eql x0 (.int .u8 95)) fun t21_2 =>
  BR t21_2 (
  NTs [(.bool true)] ∧ Q (.bool true) M
  ) (
  NTs [(.bool false)] ∧ Q (.bool false) M
  )
  )
  )
  )
  ) (
  OP (binI .eql x0 (.int .u8 46)) fun t17_3 =>
  BR t17_3 (
  BR t17_3 (
  NTs [(.bool true)] ∧ Q (.bool true) M
  ) (
  NTs [(.bool false)] ∧ Q (.bool false) M
  )
  ) (
  OP (binI .eql x0 (.int .u8 45)) fun t19_3 =>
  BR t19_3 (
  BR t19_3 (
  NTs [(.bool true)] ∧ Q (.bool true) M
  ) (
  NTs [(.bool false)] ∧ Q (.bool false) M
  )
  ) (
  OP (binI .eql x0 (.int .u8 95)) fun t21_3 =>
  BR t21_3 (
  NTs [(.bool true)] ∧ Q (.bool true) M
  ) (
  NTs [(.bool false)] ∧ Q (.bool false) M
  )
  )
  )
  )
  )
theorem T_name_letter {x0 : Value} {M : Store} {Q : Value → Store → Prop} (h : S_name_letter x0 M Q) : R F.name_letter #[x0] M Q := by
  refine runs_of (c := bodyOf Tryd.f47) Tryd.func47 rfl (by kernel_rfl) (by kernel_rfl) ?_
  unfold At
  exact rule (B := 1000) (N := 22) (ct := .no)
    [⟨1, fun a M => kfin Tryd.prog Tryd.f47.results.toList Q 1 a M, fun a M => kfin Tryd.prog Tryd.f47.results.toList Q 1 a M⟩]
    [] [1] (by kernel_rfl) (by kernel_rfl) (by kernel_rfl) (by kernel_rfl) (by kernel_rfl)
    ⟨fun _ _ _ h => h,
    trivial⟩
    (cast (by kernel_rfl) h)
def S_strings_Cut (x0 x1 : Value) (M : Store) (Q : Value → Store → Prop) : Prop :=
  R F.internal_stringslite_Cut #[x0, x1] M fun t9 M1 =>
  OP (tup t9 0) fun t10 =>
  OP (tup t9 1) fun t11 =>
  OP (tup t9 2) fun t12 =>
  NTs [t10, t11, t12] ∧ Q (.tuple #[t10, t11, t12]) M1
theorem T_strings_Cut {x0 x1 : Value} {M : Store} {Q : Value → Store → Prop} (h : S_strings_Cut x0 x1 M Q) : R F.strings_Cut #[x0, x1] M Q := by
  refine runs_of (c := bodyOf Tryd.f48) Tryd.func48 rfl (by kernel_rfl) (by kernel_rfl) ?_
  unfold At
  exact rule (B := 1000) (N := 13) (ct := .no)
    [⟨1, fun a M => kfin Tryd.prog Tryd.f48.results.toList Q 1 a M, fun a M => kfin Tryd.prog Tryd.f48.results.toList Q 1 a M⟩]
    [] [1] (by kernel_rfl) (by kernel_rfl) (by kernel_rfl) (by kernel_rfl) (by kernel_rfl)
    ⟨fun _ _ _ h => h,
    trivial⟩
    (cast (by kernel_rfl) h)
def S_name_Temp_c1 (x0 x1 : Value) (M : Store) (Q : Value → Store → Prop) : Prop :=
  OP (amax2 x0 (.int .i64 0)) fun t6 =>
  OP (amin2 t6 x1) fun t8 =>
  R F.strconv_Itoa #[t8] M fun t9 M1 =>
  NTs [t9] ∧ Q t9 M1
theorem T_name_Temp_c1 {x0 x1 : Value} {M : Store} {Q : Value → Store → Prop} (h : S_name_Temp_c1 x0 x1 M Q) : R F.name_Temp_c1 #[x0, x1] M Q := by
  refine runs_of (c := bodyOf Tryd.f49) Tryd.func49 rfl (by kernel_rfl) (by kernel_rfl) ?_
  unfold At
  exact rule (B := 1000) (N := 10) (ct := .no)
    [⟨1, fun a M => kfin Tryd.prog Tryd.f49.results.toList Q 1 a M, fun a M => kfin Tryd.prog Tryd.f49.results.toList Q 1 a M⟩]
    [] [1] (by kernel_rfl) (by kernel_rfl) (by kernel_rfl) (by kernel_rfl) (by kernel_rfl)
    ⟨fun _ _ _ h => h,
    trivial⟩
    (cast (by kernel_rfl) h)
def S_internal_stringslite_CutPrefix (x0 x1 : Value) (M : Store) (Q : Value → Store → Prop) : Prop :=
  R F.internal_stringslite_HasPrefix #[x0, x1] M fun t8 M1 =>
  OP (aun .not t8) fun t9 =>
  BR t9 (
  NTs [x0, (.bool false)] ∧ Q (.tuple #[x0, (.bool false)]) M1
  ) (
  OP (lenS x1) fun t13 =>
  OP (slS x0 (some t13) none) fun t14 =>
  NTs [t14, (.bool true)] ∧ Q (.tuple #[t14, (.bool true)]) M1
  )
theorem T_internal_stringslite_CutPrefix {x0 x1 : Value} {M : Store} {Q : Value → Store → Prop} (h : S_internal_stringslite_CutPrefix x0 x1 M Q) : R F.internal_stringslite_CutPrefix #[x0, x1] M Q := by
  refine runs_of (c := bodyOf Tryd.f60) Tryd.func60 rfl (by kernel_rfl) (by kernel_rfl) ?_
  unfold At
  exact rule (B := 1000) (N := 15) (ct := .no)
    [⟨1, fun a M => kfin Tryd.prog Tryd.f60.results.toList Q 1 a M, fun a M => kfin Tryd.prog Tryd.f60.results.toList Q 1 a M⟩]
    [] [1] (by kernel_rfl) (by kernel_rfl) (by kernel_rfl) (by kernel_rfl) (by kernel_rfl)
    ⟨fun _ _ _ h => h,
    trivial⟩
    (cast (by kernel_rfl) h)
def S_internal_stringslite_Cut (x0 x1 : Value) (M : Store) (Q : Value → Store → Prop) : Prop :=
  R F.internal_stringslite_Index #[x0, x1] M fun t10 M1 =>
  OP (binI .geq t10 (.int .i64 0)) fun t12 =>
  BR t12 (
  OP (slS x0 none (some t10)) fun t15 =>
  OP (lenS x1) fun t19 =>
  OP (binI .add t10 t19) fun t20 =>
  OP (slS x0 (some t20) none) fun t21 =>
  NTs [t15, t21, (.bool true)] ∧ Q (.tuple #[t15, t21, (.bool true)]) M1
  ) (
  NTs [x0, (.string ⟨#[]⟩), (.bool false)] ∧ Q (.tuple #[x0, (.string ⟨#[]⟩), (.bool false)]) M1
  )
theorem T_internal_stringslite_Cut {x0 x1 : Value} {M : Store} {Q : Value → Store → Prop} (h : S_internal_stringslite_Cut x0 x1 M Q) : R F.internal_stringslite_Cut #[x0, x1] M Q := by
  refine runs_of (c := bodyOf Tryd.f63) Tryd.func63 rfl (by kernel_rfl) (by kernel_rfl) ?_
  unfold At
  exact rule (B := 1000) (N := 23) (ct := .no)
    [⟨1, fun a M => kfin Tryd.prog Tryd.f63.results.toList Q 1 a M, fun a M => kfin Tryd.prog Tryd.f63.results.toList Q 1 a M⟩]
    [] [1] (by kernel_rfl) (by kernel_rfl) (by kernel_rfl) (by kernel_rfl) (by kernel_rfl)
    ⟨fun _ _ _ h => h,
    trivial⟩
    (cast (by kernel_rfl) h)
def S_internal_stringslite_HasPrefix (x0 x1 : Value) (M : Store) (Q : Value → Store → Prop) : Prop :=
  OP (lenS x0) fun t6 =>
  OP (lenS x1) fun t8 =>
  OP (binI .geq t6 t8) fun t9 =>
  BR t9 (
  OP (lenS x1) fun t13 =>
  OP (slS x0 none (some t13)) fun t14 =>
  OP (binS .eql t14 x1) fun t16 =>
  NTs [t16] ∧ Q t16 M
  ) (
  NTs [(.bool false)] ∧ Q (.bool false) M
  )
theorem T_internal_stringslite_HasPrefix {x0 x1 : Value} {M : Store} {Q : Value → Store → Prop} (h : S_internal_stringslite_HasPrefix x0 x1 M Q) : R F.internal_stringslite_HasPrefix #[x0, x1] M Q := by
  refine runs_of (c := bodyOf Tryd.f74) Tryd.func74 rfl (by kernel_rfl) (by kernel_rfl) ?_
  unfold At
  exact rule (B := 1000) (N := 18) (ct := .no)
    [⟨1, fun a M => kfin Tryd.prog Tryd.f74.results.toList Q 1 a M, fun a M => kfin Tryd.prog Tryd.f74.results.toList Q 1 a M⟩]
    [] [1] (by kernel_rfl) (by kernel_rfl) (by kernel_rfl) (by kernel_rfl) (by kernel_rfl)
    ⟨fun _ _ _ h => h,
    trivial⟩
    (cast (by kernel_rfl) h)
end Go.G
