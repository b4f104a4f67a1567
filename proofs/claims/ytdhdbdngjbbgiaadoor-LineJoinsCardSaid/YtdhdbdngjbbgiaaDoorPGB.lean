/-  -/
import Derived.Test.YtdhdbdngjbbgiaaDoorPGN
open Go.RowKit
namespace Go.G
open Go.Ab Go.Proofs
set_option linter.unusedVariables false
set_option maxRecDepth 100000
def P_line_Split_1 (x3 x4 x11 x12 x13 : Value) (M : Store) (Q : Value → Store → Prop) : Prop :=
  ∀ f : Nat → Value, f 3 = x3 → f 4 = x4 → f 11 = x11 → f 12 = x12 → f 13 = x13 → At Tryd.prog Ex none Tryd.f16 [1, 1, 0, 1, 0] ⟨⟨39, f⟩, []⟩ M Q
def P_line_Split_2 (x3 x4 x11 x12 x13 : Value) (M : Store) (Q : Value → Store → Prop) : Prop :=
  ∀ f : Nat → Value, f 3 = x3 → f 4 = x4 → f 11 = x11 → f 12 = x12 → f 13 = x13 → At Tryd.prog Ex none Tryd.f16 [1, 1, 0, 1, 0, 0, 1, 1] ⟨⟨39, f⟩, []⟩ M Q
def P_line_Split_3 (x3 x4 : Value) (M : Store) (Q : Value → Store → Prop) : Prop :=
  ∀ f : Nat → Value, f 3 = x3 → f 4 = x4 → At Tryd.prog Ex none Tryd.f16 [1, 1, 1] ⟨⟨39, f⟩, []⟩ M Q
def S_line_Split (x0 : Value) (M : Store) (Q : Value → Store → Prop) : Prop :=
  LT (.pointer (some ⟨M.n, 0, none⟩)) (M.push (some (.inl ([(.int .i64 0), (.int .i64 0), (.int .i64 0)], Ty.api_Fault, true)))) fun t3 M1 =>
  OP (cvBS x0 M1) fun t10 =>
  R F.strings_Split #[t10, (.string ⟨#[10]⟩)] M1 fun t11 M2 =>
  OP (lenV t11) fun t12 =>
  P_line_Split_1 t3 (.slice none 0 0) t11 t12 (.int .i64 0) M2 Q
theorem T_line_Split {x0 : Value} {M : Store} {Q : Value → Store → Prop} (h : S_line_Split x0 M Q) : R F.line_Split #[x0] M Q := by
  refine runs_of (c := bodyOf Tryd.f16) Tryd.func16 rfl (by kernel_rfl) (by kernel_rfl) ?_
  unfold At
  exact rule (B := 1000) (N := 39) (ct := (.two .no (.two .no (.two (.two .no (.two (.here 1000) .no)) (.here 1001)))))
    [⟨1002, fun a M => dfr a.defers (P_line_Split_1 (a.get 3) (a.get 4) (a.get 11) (a.get 12) (a.get 13) M Q), fun a M => At Tryd.prog Ex none Tryd.f16 [1, 1, 0, 1, 0] a M Q⟩,
    ⟨1003, fun _ _ => False, fun a M => At Tryd.prog Ex none Tryd.f16 [1, 1, 1] a M Q⟩]
    [1000, 1001] [] (by kernel_rfl) (by kernel_rfl) (by kernel_rfl) (by kernel_rfl) (by kernel_rfl)
    ⟨fun a M hn h => by obtain ⟨⟨n, f⟩, ds⟩ := a; have hn : n = 39 := hn; subst hn; obtain ⟨hd, h⟩ := dfr_iff h; have hd : ds = [] := hd; subst hd; exact h f rfl rfl rfl rfl rfl,
    fun _ _ _ h => h.elim,
    trivial⟩
    (cast (by kernel_rfl) h)
def S_line_Split_1 (x3 x4 x11 x12 x13 : Value) (M : Store) (Q : Value → Store → Prop) : Prop :=
  OP (binI .lss x13 x12) fun t14 =>
  BR t14 (
  P_line_Split_2 x3 x4 x11 x12 x13 M Q
  ) (
  P_line_Split_3 x3 x4 M Q
  )
theorem T_line_Split_1 {x3 x4 x11 x12 x13 : Value} {M : Store} {Q : Value → Store → Prop} (h : S_line_Split_1 x3 x4 x11 x12 x13 M Q) : P_line_Split_1 x3 x4 x11 x12 x13 M Q := by
  intro f h3 h4 h11 h12 h13; subst h3; subst h4; subst h11; subst h12; subst h13
  unfold At
  refine cast (by kernel_rfl) (CW.loop (P := Tryd.prog) (E := Ex) (rd := none) (x := sub (bodyOf Tryd.f16) [1, 1, 0, 1, 0, 0]) (a := ⟨⟨39, f⟩, []⟩) (M := M) (K := kcont Tryd.prog Ex none (bodyOf Tryd.f16) [1, 1, 0, 1, 0] (kfin Tryd.prog Tryd.f16.results.toList Q)) ?_)
  exact rule (B := 1000) (N := 39) (ct := (.two .no (.two .no (.here 1000))))
    [⟨1002, fun a M => dfr a.defers (P_line_Split_2 (a.get 3) (a.get 4) (a.get 11) (a.get 12) (a.get 13) M Q), fun a M => At Tryd.prog Ex none Tryd.f16 [1, 1, 0, 1, 0, 0, 1, 1] a M Q⟩,
    ⟨2, fun a M => dfr a.defers (P_line_Split_3 (a.get 3) (a.get 4) M Q), fun a M => At Tryd.prog Ex none Tryd.f16 [1, 1, 1] a M Q⟩]
    [1000] [2] (by kernel_rfl) (by kernel_rfl) (by kernel_rfl) (by kernel_rfl) (by kernel_rfl)
    ⟨fun a M hn h => by obtain ⟨⟨n, f⟩, ds⟩ := a; have hn : n = 39 := hn; subst hn; obtain ⟨hd, h⟩ := dfr_iff h; have hd : ds = [] := hd; subst hd; exact h f rfl rfl rfl rfl rfl,
    fun a M hn h => by obtain ⟨⟨n, f⟩, ds⟩ := a; have hn : n = 39 := hn; subst hn; obtain ⟨hd, h⟩ := dfr_iff h; have hd : ds = [] := hd; subst hd; exact h f rfl rfl,
    trivial⟩
    (cast (by kernel_rfl) h)
def S_line_Split_2 (x3 x4 x11 x12 x13 : Value) (M : Store) (Q : Value → Store → Prop) : Prop :=
  OP (ixA 1 x11 x13) fun t16 =>
  OP (ld 1 false t16 M) fun t17 =>
  OP (binI .add x13 (.int .i64 1)) fun t21 =>
  R F.line_words #[t17, t21] M fun t22 M1 =>
  OP (tup t22 0) fun t23 =>
  OP (tup t22 1) fun t24 =>
  LT (.pointer (some ⟨M1.n, 0, none⟩)) (M1.push (some (.inl ([(.int .i64 0), (.int .i64 0), (.int .i64 0)], Ty.api_Fault, true)))) fun t8 M2 =>
  OP (st 3 t8 t24 M2) fun M3 =>
  OP (fad 0 t8) fun t25 =>
  OP (ld 1 false t25 M3) fun t26 =>
  OP (binI .neq t26 (.int .i64 0)) fun t27 =>
  BR t27 (
  OP (ld 3 true t8 M3) fun t28 =>
  OP (st 3 x3 t28 M3) fun M4 =>
  TDx [0, 0, 3] [M3.n, M3.n, M3.n] 2 M3 M4 ∧
  OP (ld 3 true x3 M4) fun r3 =>
  NTs [(.slice none 0 0), r3] ∧ Q (.tuple #[(.slice none 0 0), r3]) M4
  ) (
  OP (lenV t23) fun t30 =>
  OP (binI .gtr t30 (.int .i64 0)) fun t31 =>
  BR t31 (
  OP (bldL (.slice none 0 0) 1 1 [(0, t23)]) fun c =>
  LT (.slice (some ⟨M3.n, 0, none⟩) 1 1) (M3.push (some (.inl (c, Ty.sl_api_Word, true)))) fun t34 M5 =>
  OP2 (appV 1 Ty.sl_api_Word x4 t34 M5) fun t35 M6 =>
  OP (binI .add x13 (.int .i64 1)) fun t36 =>
  P_line_Split_1 x3 t35 x11 x12 t36 M6 Q
  ) (
  OP (binI .add x13 (.int .i64 1)) fun t36_1 =>
  P_line_Split_1 x3 x4 x11 x12 t36_1 M3 Q
  )
  )
theorem T_line_Split_2 {x3 x4 x11 x12 x13 : Value} {M : Store} {Q : Value → Store → Prop} (h : S_line_Split_2 x3 x4 x11 x12 x13 M Q) : P_line_Split_2 x3 x4 x11 x12 x13 M Q := by
  intro f h3 h4 h11 h12 h13; subst h3; subst h4; subst h11; subst h12; subst h13
  unfold At
  exact rule (B := 1000) (N := 39) (ct := .no)
    [⟨0, fun a M => dfr a.defers (P_line_Split_1 (a.get 3) (a.get 4) (a.get 11) (a.get 12) (a.get 13) M Q), fun a M => At Tryd.prog Ex none Tryd.f16 [1, 1, 0, 1, 0] a M Q⟩,
    ⟨1, fun a M => kfin Tryd.prog Tryd.f16.results.toList Q 1 a M, fun a M => kfin Tryd.prog Tryd.f16.results.toList Q 1 a M⟩]
    [] [0, 1] (by kernel_rfl) (by kernel_rfl) (by kernel_rfl) (by kernel_rfl) (by kernel_rfl)
    ⟨fun a M hn h => by obtain ⟨⟨n, f⟩, ds⟩ := a; have hn : n = 39 := hn; subst hn; obtain ⟨hd, h⟩ := dfr_iff h; have hd : ds = [] := hd; subst hd; exact h f rfl rfl rfl rfl rfl,
    fun _ _ _ h => h,
    trivial⟩
    (cast (by kernel_rfl) h)
def S_line_Split_3 (x3 x4 : Value) (M : Store) (Q : Value → Store → Prop) : Prop :=
  OP (bldS #[(.int .i64 0), (.int .i64 0), (.int .i64 0)] [(0, 1), (1, 1), (2, 1)] []) fun t38 =>
  OP (st 3 x3 t38 M) fun M1 =>
  OP (ld 3 true x3 M1) fun r3 =>
  NTs [x4, r3] ∧ Q (.tuple #[x4, r3]) M1
theorem T_line_Split_3 {x3 x4 : Value} {M : Store} {Q : Value → Store → Prop} (h : S_line_Split_3 x3 x4 M Q) : P_line_Split_3 x3 x4 M Q := by
  intro f h3 h4; subst h3; subst h4
  unfold At
  exact rule (B := 1000) (N := 39) (ct := .no)
    [⟨1, fun a M => kfin Tryd.prog Tryd.f16.results.toList Q 1 a M, fun a M => kfin Tryd.prog Tryd.f16.results.toList Q 1 a M⟩]
    [] [1] (by kernel_rfl) (by kernel_rfl) (by kernel_rfl) (by kernel_rfl) (by kernel_rfl)
    ⟨fun _ _ _ h => h,
    trivial⟩
    (cast (by kernel_rfl) h)
def P_line_words_1 (x0 x5 x6 x7 : Value) (M : Store) (Q : Value → Store → Prop) : Prop :=
  ∀ f : Nat → Value, f 0 = x0 → f 5 = x5 → f 6 = x6 → f 7 = x7 → At Tryd.prog Ex none Tryd.f36 [1, 1, 1, 0] ⟨⟨68, f⟩, []⟩ M Q
def P_line_words_2 (x0 x5 x6 x7 : Value) (M : Store) (Q : Value → Store → Prop) : Prop :=
  ∀ f : Nat → Value, f 0 = x0 → f 5 = x5 → f 6 = x6 → f 7 = x7 → At Tryd.prog Ex none Tryd.f36 [1, 1, 1, 0, 0, 0, 0, 0] ⟨⟨68, f⟩, []⟩ M Q
def P_line_words_3 (x0 x5 x6 x7 : Value) (M : Store) (Q : Value → Store → Prop) : Prop :=
  ∀ f : Nat → Value, f 0 = x0 → f 5 = x5 → f 6 = x6 → f 7 = x7 → At Tryd.prog Ex none Tryd.f36 [1, 1, 1, 0, 0, 0, 0, 0, 0, 1] ⟨⟨68, f⟩, []⟩ M Q
def P_line_words_4 (x0 x5 x6 x7 : Value) (M : Store) (Q : Value → Store → Prop) : Prop :=
  ∀ f : Nat → Value, f 0 = x0 → f 5 = x5 → f 6 = x6 → f 7 = x7 → At Tryd.prog Ex none Tryd.f36 [1, 1, 1, 0, 0, 0, 1] ⟨⟨68, f⟩, []⟩ M Q
def S_line_words (x0 x1 : Value) (M : Store) (Q : Value → Store → Prop) : Prop :=
  LT (.pointer (some ⟨M.n, 0, none⟩)) (M.push (some (.inl ([(.int .i64 0), (.int .i64 0), (.int .i64 0)], Ty.api_Fault, true)))) fun t5 M1 =>
  OP (bldS #[(.string ⟨#[]⟩), (.int .i64 0), (.int .i64 0)] [(0, 1), (1, 1), (2, 1)] [(0, x0), (1, x1)]) fun t12 =>
  OP (boxv t12) fun c =>
  LT (.pointer (some ⟨M1.n, 0, none⟩)) (M1.push (some (.inl (c, Ty.line_scan, true)))) fun t13 M2 =>
  P_line_words_1 x0 t5 t13 (.slice none 0 0) M2 Q
theorem T_line_words {x0 x1 : Value} {M : Store} {Q : Value → Store → Prop} (h : S_line_words x0 x1 M Q) : R F.line_words #[x0, x1] M Q := by
  refine runs_of (c := bodyOf Tryd.f36) Tryd.func36 rfl (by kernel_rfl) (by kernel_rfl) ?_
  unfold At
  exact rule (B := 1000) (N := 68) (ct := (.two .no (.two .no (.two .no (.two (.here 1000) .no)))))
    [⟨1002, fun a M => dfr a.defers (P_line_words_1 (a.get 0) (a.get 5) (a.get 6) (a.get 7) M Q), fun a M => At Tryd.prog Ex none Tryd.f36 [1, 1, 1, 0] a M Q⟩]
    [1000] [] (by kernel_rfl) (by kernel_rfl) (by kernel_rfl) (by kernel_rfl) (by kernel_rfl)
    ⟨fun a M hn h => by obtain ⟨⟨n, f⟩, ds⟩ := a; have hn : n = 68 := hn; subst hn; obtain ⟨hd, h⟩ := dfr_iff h; have hd : ds = [] := hd; subst hd; exact h f rfl rfl rfl rfl,
    trivial⟩
    (cast (by kernel_rfl) h)
def S_line_words_1 (x0 x5 x6 x7 : Value) (M : Store) (Q : Value → Store → Prop) : Prop :=
  P_line_words_2 x0 x5 x6 x7 M Q
theorem T_line_words_1 {x0 x5 x6 x7 : Value} {M : Store} {Q : Value → Store → Prop} (h : S_line_words_1 x0 x5 x6 x7 M Q) : P_line_words_1 x0 x5 x6 x7 M Q := by
  intro f h0 h5 h6 h7; subst h0; subst h5; subst h6; subst h7
  unfold At
  refine cast (by kernel_rfl) (CW.loop (P := Tryd.prog) (E := Ex) (rd := none) (x := sub (bodyOf Tryd.f36) [1, 1, 1, 0, 0]) (a := ⟨⟨68, f⟩, []⟩) (M := M) (K := kcont Tryd.prog Ex none (bodyOf Tryd.f36) [1, 1, 1, 0] (kfin Tryd.prog Tryd.f36.results.toList Q)) ?_)
  exact rule (B := 1000) (N := 68) (ct := (.two (.two (.two (.here 1000) .no) (.here 1001)) .no))
    [⟨1002, fun a M => dfr a.defers (P_line_words_2 (a.get 0) (a.get 5) (a.get 6) (a.get 7) M Q), fun a M => At Tryd.prog Ex none Tryd.f36 [1, 1, 1, 0, 0, 0, 0, 0] a M Q⟩,
    ⟨1003, fun _ _ => False, fun a M => At Tryd.prog Ex none Tryd.f36 [1, 1, 1, 0, 0, 0, 1] a M Q⟩]
    [1000, 1001] [] (by kernel_rfl) (by kernel_rfl) (by kernel_rfl) (by kernel_rfl) (by kernel_rfl)
    ⟨fun a M hn h => by obtain ⟨⟨n, f⟩, ds⟩ := a; have hn : n = 68 := hn; subst hn; obtain ⟨hd, h⟩ := dfr_iff h; have hd : ds = [] := hd; subst hd; exact h f rfl rfl rfl rfl,
    fun _ _ _ h => h.elim,
    trivial⟩
    (cast (by kernel_rfl) h)
def S_line_words_2 (x0 x5 x6 x7 : Value) (M : Store) (Q : Value → Store → Prop) : Prop :=
  OP (nilc x6) fun t15 =>
  OP (fad 2 t15) fun t16 =>
  OP (ld 1 false t16 M) fun t17 =>
  OP (lenS x0) fun t19 =>
  OP (binI .lss t17 t19) fun t20 =>
  BR t20 (
  OP (nilc x6) fun t24 =>
  OP (fad 2 t24) fun t25 =>
  OP (ld 1 false t25 M) fun t26 =>
  OP (ixS x0 t26) fun t27 =>
  R F.line_blank #[t27] M fun t28 M1 =>
  BR t28 (
  P_line_words_3 x0 x5 x6 x7 M1 Q
  ) (
  P_line_words_4 x0 x5 x6 x7 M1 Q
  )
  ) (
  P_line_words_4 x0 x5 x6 x7 M Q
  )
theorem T_line_words_2 {x0 x5 x6 x7 : Value} {M : Store} {Q : Value → Store → Prop} (h : S_line_words_2 x0 x5 x6 x7 M Q) : P_line_words_2 x0 x5 x6 x7 M Q := by
  intro f h0 h5 h6 h7; subst h0; subst h5; subst h6; subst h7
  unfold At
  refine cast (by kernel_rfl) (CW.loop (P := Tryd.prog) (E := Ex) (rd := none) (x := sub (bodyOf Tryd.f36) [1, 1, 1, 0, 0, 0, 0, 0, 0]) (a := ⟨⟨68, f⟩, []⟩) (M := M) (K := kcont Tryd.prog Ex none (bodyOf Tryd.f36) [1, 1, 1, 0, 0, 0, 0, 0] (kfin Tryd.prog Tryd.f36.results.toList Q)) ?_)
  exact rule (B := 1000) (N := 68) (ct := (.two .no (.here 1000)))
    [⟨1002, fun a M => dfr a.defers (P_line_words_3 (a.get 0) (a.get 5) (a.get 6) (a.get 7) M Q), fun a M => At Tryd.prog Ex none Tryd.f36 [1, 1, 1, 0, 0, 0, 0, 0, 0, 1] a M Q⟩,
    ⟨4, fun a M => dfr a.defers (P_line_words_4 (a.get 0) (a.get 5) (a.get 6) (a.get 7) M Q), fun a M => At Tryd.prog Ex none Tryd.f36 [1, 1, 1, 0, 0, 0, 1] a M Q⟩]
    [1000] [4] (by kernel_rfl) (by kernel_rfl) (by kernel_rfl) (by kernel_rfl) (by kernel_rfl)
    ⟨fun a M hn h => by obtain ⟨⟨n, f⟩, ds⟩ := a; have hn : n = 68 := hn; subst hn; obtain ⟨hd, h⟩ := dfr_iff h; have hd : ds = [] := hd; subst hd; exact h f rfl rfl rfl rfl,
    fun a M hn h => by obtain ⟨⟨n, f⟩, ds⟩ := a; have hn : n = 68 := hn; subst hn; obtain ⟨hd, h⟩ := dfr_iff h; have hd : ds = [] := hd; subst hd; exact h f rfl rfl rfl rfl,
    trivial⟩
    (cast (by kernel_rfl) h)
def S_line_words_3 (x0 x5 x6 x7 : Value) (M : Store) (Q : Value → Store → Prop) : Prop :=
  OP (nilc x6) fun t31 =>
  OP (fad 2 t31) fun t32 =>
  OP (ld 1 false t32 M) fun t33 =>
  OP (binI .add t33 (.int .i64 1)) fun t34 =>
  OP (nilc x6) fun t35 =>
  OP (fad 2 t35) fun t36 =>
  OP (st 1 t36 t34 M) fun M1 =>
  P_line_words_2 x0 x5 x6 x7 M1 Q
theorem T_line_words_3 {x0 x5 x6 x7 : Value} {M : Store} {Q : Value → Store → Prop} (h : S_line_words_3 x0 x5 x6 x7 M Q) : P_line_words_3 x0 x5 x6 x7 M Q := by
  intro f h0 h5 h6 h7; subst h0; subst h5; subst h6; subst h7
  unfold At
  exact rule (B := 1000) (N := 68) (ct := .no)
    [⟨0, fun a M => dfr a.defers (P_line_words_2 (a.get 0) (a.get 5) (a.get 6) (a.get 7) M Q), fun a M => At Tryd.prog Ex none Tryd.f36 [1, 1, 1, 0, 0, 0, 0, 0] a M Q⟩]
    [] [0] (by kernel_rfl) (by kernel_rfl) (by kernel_rfl) (by kernel_rfl) (by kernel_rfl)
    ⟨fun a M hn h => by obtain ⟨⟨n, f⟩, ds⟩ := a; have hn : n = 68 := hn; subst hn; obtain ⟨hd, h⟩ := dfr_iff h; have hd : ds = [] := hd; subst hd; exact h f rfl rfl rfl rfl,
    trivial⟩
    (cast (by kernel_rfl) h)
def S_line_words_4 (x0 x5 x6 x7 : Value) (M : Store) (Q : Value → Store → Prop) : Prop :=
  OP (nilc x6) fun t38 =>
  OP (fad 2 t38) fun t39 =>
  OP (ld 1 false t39 M) fun t40 =>
  OP (lenS x0) fun t42 =>
  OP (binI .eql t40 t42) fun t43 =>
  BR t43 (
  OP (bldS #[(.int .i64 0), (.int .i64 0), (.int .i64 0)] [(0, 1), (1, 1), (2, 1)] []) fun t54 =>
  OP (st 3 x5 t54 M) fun M1 =>
  OP (ld 3 true x5 M1) fun r5 =>
  NTs [x7, r5] ∧ Q (.tuple #[x7, r5]) M1
  ) (
  OP (nilc x6) fun t47 =>
  OP (fad 2 t47) fun t48 =>
  OP (ld 1 false t48 M) fun t49 =>
  OP (ixS x0 t49) fun t50 =>
  OP (binI .eql t50 (.int .u8 35)) fun t51 =>
  BR t51 (
  OP (bldS #[(.int .i64 0), (.int .i64 0), (.int .i64 0)] [(0, 1), (1, 1), (2, 1)] []) fun t54_1 =>
  OP (st 3 x5 t54_1 M) fun M2 =>
  OP (ld 3 true x5 M2) fun r5_1 =>
  NTs [x7, r5_1] ∧ Q (.tuple #[x7, r5_1]) M2
  ) (
  R F.line_scan_next #[x6] M fun t57 M3 =>
  OP (tup t57 0) fun t58 =>
  OP (tup t57 1) fun t59 =>
  LT (.pointer (some ⟨M3.n, 0, none⟩)) (M3.push (some (.inl ([(.string ⟨#[]⟩), (.int .i64 0), (.int .i64 0), (.bool false)], Ty.api_Word, true)))) fun t8 M4 =>
  LT (.pointer (some ⟨M4.n, 0, none⟩)) (M4.push (some (.inl ([(.int .i64 0), (.int .i64 0), (.int .i64 0)], Ty.api_Fault, true)))) fun t9 M5 =>
  OP (st 4 t8 t58 M5) fun M6 =>
  OP (st 3 t9 t59 M6) fun M7 =>
  OP (fad 0 t9) fun t60 =>
  OP (ld 1 false t60 M7) fun t61 =>
  OP (binI .neq t61 (.int .i64 0)) fun t62 =>
  BR t62 (
  OP (ld 3 true t9 M7) fun t63 =>
  OP (st 3 x5 t63 M7) fun M8 =>
  TDx [0, 0, 3] [M7.n, M7.n, M7.n] 2 M7 M8 ∧
  OP (ld 3 true x5 M8) fun r5_2 =>
  NTs [(.slice none 0 0), r5_2] ∧ Q (.tuple #[(.slice none 0 0), r5_2]) M8
  ) (
  OP (ld 4 true t8 M7) fun t65 =>
  OP (bldL (.agg #[(.string ⟨#[]⟩), (.int .i64 0), (.int .i64 0), (.bool false)]) 4 1 [(0, t65)]) fun c =>
  LT (.slice (some ⟨M7.n, 0, none⟩) 1 1) (M7.push (some (.inl (c, Ty.api_Word, true)))) fun t66 M9 =>
  OP2 (appV 4 Ty.api_Word x7 t66 M9) fun t67 M10 =>
  P_line_words_1 x0 x5 x6 t67 M10 Q
  )
  )
  )
theorem T_line_words_4 {x0 x5 x6 x7 : Value} {M : Store} {Q : Value → Store → Prop} (h : S_line_words_4 x0 x5 x6 x7 M Q) : P_line_words_4 x0 x5 x6 x7 M Q := by
  intro f h0 h5 h6 h7; subst h0; subst h5; subst h6; subst h7
  unfold At
  exact rule (B := 1000) (N := 68) (ct := .no)
    [⟨0, fun a M => dfr a.defers (P_line_words_1 (a.get 0) (a.get 5) (a.get 6) (a.get 7) M Q), fun a M => At Tryd.prog Ex none Tryd.f36 [1, 1, 1, 0] a M Q⟩,
    ⟨1, fun a M => kfin Tryd.prog Tryd.f36.results.toList Q 1 a M, fun a M => kfin Tryd.prog Tryd.f36.results.toList Q 1 a M⟩]
    [] [0, 1] (by kernel_rfl) (by kernel_rfl) (by kernel_rfl) (by kernel_rfl) (by kernel_rfl)
    ⟨fun a M hn h => by obtain ⟨⟨n, f⟩, ds⟩ := a; have hn : n = 68 := hn; subst hn; obtain ⟨hd, h⟩ := dfr_iff h; have hd : ds = [] := hd; subst hd; exact h f rfl rfl rfl rfl,
    fun _ _ _ h => h,
    trivial⟩
    (cast (by kernel_rfl) h)
def S_line_blank (x0 : Value) (M : Store) (Q : Value → Store → Prop) : Prop :=
  OP (binI .eql x0 (.int .u8 32)) fun t4 =>
  BR t4 (
  NTs [(.bool true)] ∧ Q (.bool true) M
  ) (
  OP (binI .eql x0 (.int .u8 9)) fun t7 =>
  NTs [t7] ∧ Q t7 M
  )
theorem T_line_blank {x0 : Value} {M : Store} {Q : Value → Store → Prop} (h : S_line_blank x0 M Q) : R F.line_blank #[x0] M Q := by
  refine runs_of (c := bodyOf Tryd.f54) Tryd.func54 rfl (by kernel_rfl) (by kernel_rfl) ?_
  unfold At
  exact rule (B := 1000) (N := 9) (ct := .no)
    [⟨1, fun a M => kfin Tryd.prog Tryd.f54.results.toList Q 1 a M, fun a M => kfin Tryd.prog Tryd.f54.results.toList Q 1 a M⟩]
    [] [1] (by kernel_rfl) (by kernel_rfl) (by kernel_rfl) (by kernel_rfl) (by kernel_rfl)
    ⟨fun _ _ _ h => h,
    trivial⟩
    (cast (by kernel_rfl) h)
def S_line_scan_next (x0 : Value) (M : Store) (Q : Value → Store → Prop) : Prop :=
  LT (.pointer (some ⟨M.n, 0, none⟩)) (M.push (some (.inl ([(.string ⟨#[]⟩), (.int .i64 0), (.int .i64 0), (.bool false)], Ty.api_Word, true)))) fun t2 M1 =>
  LT (.pointer (some ⟨M1.n, 0, none⟩)) (M1.push (some (.inl ([(.int .i64 0), (.int .i64 0), (.int .i64 0)], Ty.api_Fault, true)))) fun t3 M2 =>
  OP (nilc x0) fun t6 =>
  OP (fad 0 t6) fun t7 =>
  OP (ld 1 false t7 M2) fun t8 =>
  OP (nilc x0) fun t10 =>
  OP (fad 2 t10) fun t11 =>
  OP (ld 1 false t11 M2) fun t12 =>
  OP (ixS t8 t12) fun t13 =>
  OP (binI .eql t13 (.int .u8 34)) fun t16 =>
  BR t16 (
  R F.line_scan_quote #[x0] M2 fun t18 M3 =>
  OP (tup t18 0) fun t19 =>
  OP (tup t18 1) fun t20 =>
  OP (st 4 t2 t19 M3) fun M4 =>
  OP (st 3 t3 t20 M4) fun M5 =>
  OP (ld 4 true t2 M5) fun r2 =>
  OP (ld 3 true t3 M5) fun r3 =>
  NTs [r2, r3] ∧ Q (.tuple #[r2, r3]) M5
  ) (
  R F.line_sign #[t13] M2 fun t23 M6 =>
  BR t23 (
  OP (nilc x0) fun t25 =>
  OP (fad 2 t25) fun t26 =>
  OP (ld 1 false t26 M6) fun t27 =>
  OP (binI .add t27 (.int .i64 1)) fun t28 =>
  OP (nilc x0) fun t29 =>
  OP (fad 2 t29) fun t30 =>
  OP (st 1 t30 t28 M6) fun M7 =>
  OP (bldL (.int .u8 0) 1 1 [(0, t13)]) fun c =>
  LT (.slice (some ⟨M7.n, 0, none⟩) 1 1) (M7.push (some (.inl (c, Ty.uint8, true)))) fun t33 M8 =>
  OP (cvBS t33 M8) fun t34 =>
  OP (nilc x0) fun t36 =>
  OP (fad 2 t36) fun t37 =>
  OP (ld 1 false t37 M8) fun t38 =>
  OP (binI .sub t38 (.int .i64 1)) fun t39 =>
  R F.line_scan_word #[x0, t34, t39, (.bool false)] M8 fun t40 M9 =>
  TDx [0, 0, 2, 6, 0, 16, 48, 112, 240, 511, 0, 1023, 4095] [M7.n, M7.n, M7.n, M8.n, M8.n, M8.n, M8.n, M8.n, M8.n, M8.n] 9 M8 M9 ∧
  OP (bldS #[(.int .i64 0), (.int .i64 0), (.int .i64 0)] [(0, 1), (1, 1), (2, 1)] []) fun t41 =>
  OP (st 4 t2 t40 M9) fun M10 =>
  TDx [0, 0, 2, 6, 0, 16, 48, 112, 240, 511, 0, 1023, 4095] [M7.n, M7.n, M7.n, M8.n, M8.n, M8.n, M8.n, M8.n, M8.n, M8.n, M9.n, M9.n] 11 M9 M10 ∧
  OP (st 3 t3 t41 M10) fun M11 =>
  TDx [0, 0, 2, 6, 0, 16, 48, 112, 240, 511, 0, 1023, 4095] [M7.n, M7.n, M7.n, M8.n, M8.n, M8.n, M8.n, M8.n, M8.n, M8.n, M9.n, M9.n, M10.n] 12 M10 M11 ∧
  OP (ld 4 true t2 M11) fun r2_1 =>
  OP (ld 3 true t3 M11) fun r3_1 =>
  NTs [r2_1, r3_1] ∧ Q (.tuple #[r2_1, r3_1]) M11
  ) (
  R F.line_scan_run #[x0] M6 fun t43 M12 =>
  OP (tup t43 0) fun t44 =>
  OP (tup t43 1) fun t45 =>
  OP (st 4 t2 t44 M12) fun M13 =>
  OP (st 3 t3 t45 M13) fun M14 =>
  OP (ld 4 true t2 M14) fun r2_2 =>
  OP (ld 3 true t3 M14) fun r3_2 =>
  NTs [r2_2, r3_2] ∧ Q (.tuple #[r2_2, r3_2]) M14
  )
  )
theorem T_line_scan_next {x0 : Value} {M : Store} {Q : Value → Store → Prop} (h : S_line_scan_next x0 M Q) : R F.line_scan_next #[x0] M Q := by
  refine runs_of (c := bodyOf Tryd.f55) Tryd.func55 rfl (by kernel_rfl) (by kernel_rfl) ?_
  unfold At
  exact rule (B := 1000) (N := 46) (ct := .no)
    [⟨1, fun a M => kfin Tryd.prog Tryd.f55.results.toList Q 1 a M, fun a M => kfin Tryd.prog Tryd.f55.results.toList Q 1 a M⟩]
    [] [1] (by kernel_rfl) (by kernel_rfl) (by kernel_rfl) (by kernel_rfl) (by kernel_rfl)
    ⟨fun _ _ _ h => h,
    trivial⟩
    (cast (by kernel_rfl) h)
def P_line_scan_quote_1 (x0 x2 x3 x4 x5 x6 x44 x45 : Value) (M : Store) (Q : Value → Store → Prop) : Prop :=
  ∀ f : Nat → Value, f 0 = x0 → f 2 = x2 → f 3 = x3 → f 4 = x4 → f 5 = x5 → f 6 = x6 → f 44 = x44 → f 45 = x45 → At Tryd.prog Ex none Tryd.f68 [1, 1, 1, 1, 1, 1, 0, 1, 0] ⟨⟨73, f⟩, []⟩ M Q
def P_line_scan_quote_2 (x0 x2 x3 x4 x5 x6 x44 x45 : Value) (M : Store) (Q : Value → Store → Prop) : Prop :=
  ∀ f : Nat → Value, f 0 = x0 → f 2 = x2 → f 3 = x3 → f 4 = x4 → f 5 = x5 → f 6 = x6 → f 44 = x44 → f 45 = x45 → At Tryd.prog Ex none Tryd.f68 [1, 1, 1, 1, 1, 1, 0, 1, 0, 0, 1, 1] ⟨⟨73, f⟩, []⟩ M Q
def P_line_scan_quote_3 (x0 x2 x3 x4 x5 x6 : Value) (M : Store) (Q : Value → Store → Prop) : Prop :=
  ∀ f : Nat → Value, f 0 = x0 → f 2 = x2 → f 3 = x3 → f 4 = x4 → f 5 = x5 → f 6 = x6 → At Tryd.prog Ex none Tryd.f68 [1, 1, 1, 1, 1, 1, 1] ⟨⟨73, f⟩, []⟩ M Q
def S_line_scan_quote (x0 : Value) (M : Store) (Q : Value → Store → Prop) : Prop :=
  LT (.pointer (some ⟨M.n, 0, none⟩)) (M.push (some (.inl ([(.string ⟨#[]⟩), (.int .i64 0), (.int .i64 0), (.bool false)], Ty.api_Word, true)))) fun t2 M1 =>
  LT (.pointer (some ⟨M1.n, 0, none⟩)) (M1.push (some (.inl ([(.int .i64 0), (.int .i64 0), (.int .i64 0)], Ty.api_Fault, true)))) fun t3 M2 =>
  OP (nilc x0) fun t9 =>
  OP (fad 2 t9) fun t10 =>
  OP (ld 1 false t10 M2) fun t11 =>
  OP (nilc x0) fun t13 =>
  OP (fad 0 t13) fun t14 =>
  OP (ld 1 false t14 M2) fun t15 =>
  OP (binI .add t11 (.int .i64 1)) fun t17 =>
  OP (slS t15 (some t17) none) fun t18 =>
  R F.strings_IndexByte #[t18, (.int .u8 34)] M2 fun t19 M3 =>
  OP (binI .lss t19 (.int .i64 0)) fun t21 =>
  BR t21 (
  OP (bldS #[(.string ⟨#[]⟩), (.int .i64 0), (.int .i64 0), (.bool false)] [(0, 1), (1, 1), (2, 1), (3, 1)] []) fun t22 =>
  R F.line_scan_fault #[x0, (.int .i64 2), t11] M3 fun t25 M4 =>
  OP (st 4 t2 t22 M4) fun M5 =>
  OP (st 3 t3 t25 M5) fun M6 =>
  OP (ld 4 true t2 M6) fun r2 =>
  OP (ld 3 true t3 M6) fun r3 =>
  NTs [r2, r3] ∧ Q (.tuple #[r2, r3]) M6
  ) (
  OP (nilc x0) fun t27 =>
  OP (fad 0 t27) fun t28 =>
  OP (ld 1 false t28 M3) fun t29 =>
  OP (binI .add t11 (.int .i64 1)) fun t31 =>
  OP (binI .add t11 (.int .i64 1)) fun t33 =>
  OP (binI .add t33 t19) fun t35 =>
  OP (slS t29 (some t31) (some t35)) fun t36 =>
  OP (binI .gtr t19 (.int .i64 64)) fun t38 =>
  BR t38 (
  OP (bldS #[(.string ⟨#[]⟩), (.int .i64 0), (.int .i64 0), (.bool false)] [(0, 1), (1, 1), (2, 1), (3, 1)] []) fun t39 =>
  R F.line_scan_fault #[x0, (.int .i64 3), t11] M3 fun t42 M7 =>
  OP (st 4 t2 t39 M7) fun M8 =>
  OP (st 3 t3 t42 M8) fun M9 =>
  OP (ld 4 true t2 M9) fun r2_1 =>
  OP (ld 3 true t3 M9) fun r3_1 =>
  NTs [r2_1, r3_1] ∧ Q (.tuple #[r2_1, r3_1]) M9
  ) (
  OP (lenS t36) fun t44 =>
  P_line_scan_quote_1 x0 t2 t3 t11 t19 t36 t44 (.int .i64 0) M3 Q
  )
  )
theorem T_line_scan_quote {x0 : Value} {M : Store} {Q : Value → Store → Prop} (h : S_line_scan_quote x0 M Q) : R F.line_scan_quote #[x0] M Q := by
  refine runs_of (c := bodyOf Tryd.f68) Tryd.func68 rfl (by kernel_rfl) (by kernel_rfl) ?_
  unfold At
  exact rule (B := 1000) (N := 73) (ct := (.two .no (.two .no (.two .no (.two .no (.two .no (.two .no (.two (.two .no (.two (.here 1000) .no)) (.here 1001)))))))))
    [⟨1002, fun a M => dfr a.defers (P_line_scan_quote_1 (a.get 0) (a.get 2) (a.get 3) (a.get 4) (a.get 5) (a.get 6) (a.get 44) (a.get 45) M Q), fun a M => At Tryd.prog Ex none Tryd.f68 [1, 1, 1, 1, 1, 1, 0, 1, 0] a M Q⟩,
    ⟨1003, fun _ _ => False, fun a M => At Tryd.prog Ex none Tryd.f68 [1, 1, 1, 1, 1, 1, 1] a M Q⟩,
    ⟨1, fun a M => kfin Tryd.prog Tryd.f68.results.toList Q 1 a M, fun a M => kfin Tryd.prog Tryd.f68.results.toList Q 1 a M⟩]
    [1000, 1001] [1] (by kernel_rfl) (by kernel_rfl) (by kernel_rfl) (by kernel_rfl) (by kernel_rfl)
    ⟨fun a M hn h => by obtain ⟨⟨n, f⟩, ds⟩ := a; have hn : n = 73 := hn; subst hn; obtain ⟨hd, h⟩ := dfr_iff h; have hd : ds = [] := hd; subst hd; exact h f rfl rfl rfl rfl rfl rfl rfl rfl,
    fun _ _ _ h => h.elim,
    fun _ _ _ h => h,
    trivial⟩
    (cast (by kernel_rfl) h)
def S_line_scan_quote_1 (x0 x2 x3 x4 x5 x6 x44 x45 : Value) (M : Store) (Q : Value → Store → Prop) : Prop :=
  OP (binI .lss x45 x44) fun t46 =>
  BR t46 (
  P_line_scan_quote_2 x0 x2 x3 x4 x5 x6 x44 x45 M Q
  ) (
  P_line_scan_quote_3 x0 x2 x3 x4 x5 x6 M Q
  )
theorem T_line_scan_quote_1 {x0 x2 x3 x4 x5 x6 x44 x45 : Value} {M : Store} {Q : Value → Store → Prop} (h : S_line_scan_quote_1 x0 x2 x3 x4 x5 x6 x44 x45 M Q) : P_line_scan_quote_1 x0 x2 x3 x4 x5 x6 x44 x45 M Q := by
  intro f h0 h2 h3 h4 h5 h6 h44 h45; subst h0; subst h2; subst h3; subst h4; subst h5; subst h6; subst h44; subst h45
  unfold At
  refine cast (by kernel_rfl) (CW.loop (P := Tryd.prog) (E := Ex) (rd := none) (x := sub (bodyOf Tryd.f68) [1, 1, 1, 1, 1, 1, 0, 1, 0, 0]) (a := ⟨⟨73, f⟩, []⟩) (M := M) (K := kcont Tryd.prog Ex none (bodyOf Tryd.f68) [1, 1, 1, 1, 1, 1, 0, 1, 0] (kfin Tryd.prog Tryd.f68.results.toList Q)) ?_)
  exact rule (B := 1000) (N := 73) (ct := (.two .no (.two .no (.here 1000))))
    [⟨1002, fun a M => dfr a.defers (P_line_scan_quote_2 (a.get 0) (a.get 2) (a.get 3) (a.get 4) (a.get 5) (a.get 6) (a.get 44) (a.get 45) M Q), fun a M => At Tryd.prog Ex none Tryd.f68 [1, 1, 1, 1, 1, 1, 0, 1, 0, 0, 1, 1] a M Q⟩,
    ⟨2, fun a M => dfr a.defers (P_line_scan_quote_3 (a.get 0) (a.get 2) (a.get 3) (a.get 4) (a.get 5) (a.get 6) M Q), fun a M => At Tryd.prog Ex none Tryd.f68 [1, 1, 1, 1, 1, 1, 1] a M Q⟩]
    [1000] [2] (by kernel_rfl) (by kernel_rfl) (by kernel_rfl) (by kernel_rfl) (by kernel_rfl)
    ⟨fun a M hn h => by obtain ⟨⟨n, f⟩, ds⟩ := a; have hn : n = 73 := hn; subst hn; obtain ⟨hd, h⟩ := dfr_iff h; have hd : ds = [] := hd; subst hd; exact h f rfl rfl rfl rfl rfl rfl rfl rfl,
    fun a M hn h => by obtain ⟨⟨n, f⟩, ds⟩ := a; have hn : n = 73 := hn; subst hn; obtain ⟨hd, h⟩ := dfr_iff h; have hd : ds = [] := hd; subst hd; exact h f rfl rfl rfl rfl rfl rfl,
    trivial⟩
    (cast (by kernel_rfl) h)
def S_line_scan_quote_2 (x0 x2 x3 x4 x5 x6 x44 x45 : Value) (M : Store) (Q : Value → Store → Prop) : Prop :=
  OP (ixS x6 x45) fun t50 =>
  R F.line_plain #[t50] M fun t51 M1 =>
  OP (aun .not t51) fun t52 =>
  BR t52 (
  OP (bldS #[(.string ⟨#[]⟩), (.int .i64 0), (.int .i64 0), (.bool false)] [(0, 1), (1, 1), (2, 1), (3, 1)] []) fun t53 =>
  OP (binI .add x4 (.int .i64 1)) fun t56 =>
  OP (binI .add t56 x45) fun t58 =>
  R F.line_scan_fault #[x0, (.int .i64 1), t58] M1 fun t59 M2 =>
  OP (st 4 x2 t53 M2) fun M3 =>
  OP (st 3 x3 t59 M3) fun M4 =>
  OP (ld 4 true x2 M4) fun r2 =>
  OP (ld 3 true x3 M4) fun r3 =>
  NTs [r2, r3] ∧ Q (.tuple #[r2, r3]) M4
  ) (
  OP (binI .add x45 (.int .i64 1)) fun t60 =>
  P_line_scan_quote_1 x0 x2 x3 x4 x5 x6 x44 t60 M1 Q
  )
theorem T_line_scan_quote_2 {x0 x2 x3 x4 x5 x6 x44 x45 : Value} {M : Store} {Q : Value → Store → Prop} (h : S_line_scan_quote_2 x0 x2 x3 x4 x5 x6 x44 x45 M Q) : P_line_scan_quote_2 x0 x2 x3 x4 x5 x6 x44 x45 M Q := by
  intro f h0 h2 h3 h4 h5 h6 h44 h45; subst h0; subst h2; subst h3; subst h4; subst h5; subst h6; subst h44; subst h45
  unfold At
  exact rule (B := 1000) (N := 73) (ct := .no)
    [⟨0, fun a M => dfr a.defers (P_line_scan_quote_1 (a.get 0) (a.get 2) (a.get 3) (a.get 4) (a.get 5) (a.get 6) (a.get 44) (a.get 45) M Q), fun a M => At Tryd.prog Ex none Tryd.f68 [1, 1, 1, 1, 1, 1, 0, 1, 0] a M Q⟩,
    ⟨1, fun a M => kfin Tryd.prog Tryd.f68.results.toList Q 1 a M, fun a M => kfin Tryd.prog Tryd.f68.results.toList Q 1 a M⟩]
    [] [0, 1] (by kernel_rfl) (by kernel_rfl) (by kernel_rfl) (by kernel_rfl) (by kernel_rfl)
    ⟨fun a M hn h => by obtain ⟨⟨n, f⟩, ds⟩ := a; have hn : n = 73 := hn; subst hn; obtain ⟨hd, h⟩ := dfr_iff h; have hd : ds = [] := hd; subst hd; exact h f rfl rfl rfl rfl rfl rfl rfl rfl,
    fun _ _ _ h => h,
    trivial⟩
    (cast (by kernel_rfl) h)
def S_line_scan_quote_3 (x0 x2 x3 x4 x5 x6 : Value) (M : Store) (Q : Value → Store → Prop) : Prop :=
  OP (binI .add x4 x5) fun t64 =>
  OP (binI .add t64 (.int .i64 2)) fun t65 =>
  OP (nilc x0) fun t66 =>
  OP (fad 2 t66) fun t67 =>
  OP (st 1 t67 t65 M) fun M1 =>
  R F.line_scan_word #[x0, x6, x4, (.bool true)] M1 fun t71 M2 =>
  OP (bldS #[(.int .i64 0), (.int .i64 0), (.int .i64 0)] [(0, 1), (1, 1), (2, 1)] []) fun t72 =>
  OP (st 4 x2 t71 M2) fun M3 =>
  OP (st 3 x3 t72 M3) fun M4 =>
  OP (ld 4 true x2 M4) fun r2 =>
  OP (ld 3 true x3 M4) fun r3 =>
  NTs [r2, r3] ∧ Q (.tuple #[r2, r3]) M4
theorem T_line_scan_quote_3 {x0 x2 x3 x4 x5 x6 : Value} {M : Store} {Q : Value → Store → Prop} (h : S_line_scan_quote_3 x0 x2 x3 x4 x5 x6 M Q) : P_line_scan_quote_3 x0 x2 x3 x4 x5 x6 M Q := by
  intro f h0 h2 h3 h4 h5 h6; subst h0; subst h2; subst h3; subst h4; subst h5; subst h6
  unfold At
  exact rule (B := 1000) (N := 73) (ct := .no)
    [⟨1, fun a M => kfin Tryd.prog Tryd.f68.results.toList Q 1 a M, fun a M => kfin Tryd.prog Tryd.f68.results.toList Q 1 a M⟩]
    [] [1] (by kernel_rfl) (by kernel_rfl) (by kernel_rfl) (by kernel_rfl) (by kernel_rfl)
    ⟨fun _ _ _ h => h,
    trivial⟩
    (cast (by kernel_rfl) h)
def S_line_sign (x0 : Value) (M : Store) (Q : Value → Store → Prop) : Prop :=
  R F.strings_IndexByte #[(.string ⟨#[58, 124, 61, 59, 44]⟩), x0] M fun t4 M1 =>
  OP (binI .geq t4 (.int .i64 0)) fun t5 =>
  NTs [t5] ∧ Q t5 M1
theorem T_line_sign {x0 : Value} {M : Store} {Q : Value → Store → Prop} (h : S_line_sign x0 M Q) : R F.line_sign #[x0] M Q := by
  refine runs_of (c := bodyOf Tryd.f69) Tryd.func69 rfl (by kernel_rfl) (by kernel_rfl) ?_
  unfold At
  exact rule (B := 1000) (N := 6) (ct := .no)
    [⟨1, fun a M => kfin Tryd.prog Tryd.f69.results.toList Q 1 a M, fun a M => kfin Tryd.prog Tryd.f69.results.toList Q 1 a M⟩]
    [] [1] (by kernel_rfl) (by kernel_rfl) (by kernel_rfl) (by kernel_rfl) (by kernel_rfl)
    ⟨fun _ _ _ h => h,
    trivial⟩
    (cast (by kernel_rfl) h)
def S_line_scan_word (x0 x1 x2 x3 : Value) (M : Store) (Q : Value → Store → Prop) : Prop :=
  LT (.pointer (some ⟨M.n, 0, none⟩)) (M.push (some (.inl ([(.string ⟨#[]⟩), (.int .i64 0), (.int .i64 0), (.bool false)], Ty.api_Word, true)))) fun t8 M1 =>
  OP (nilc x0) fun t11 =>
  OP (fad 1 t11) fun t12 =>
  OP (ld 1 false t12 M1) fun t13 =>
  OP (binI .add x2 (.int .i64 1)) fun t15 =>
  OP (bldS #[(.string ⟨#[]⟩), (.int .i64 0), (.int .i64 0), (.bool false)] [(0, 1), (1, 1), (2, 1), (3, 1)] [(0, x1), (1, t13), (2, t15), (3, x3)]) fun t17 =>
  OP (st 4 t8 t17 M1) fun M2 =>
  OP (ld 4 true t8 M2) fun r8 =>
  NTs [r8] ∧ Q r8 M2
theorem T_line_scan_word {x0 x1 x2 x3 : Value} {M : Store} {Q : Value → Store → Prop} (h : S_line_scan_word x0 x1 x2 x3 M Q) : R F.line_scan_word #[x0, x1, x2, x3] M Q := by
  refine runs_of (c := bodyOf Tryd.f70) Tryd.func70 rfl (by kernel_rfl) (by kernel_rfl) ?_
  unfold At
  exact rule (B := 1000) (N := 18) (ct := .no)
    [⟨1, fun a M => kfin Tryd.prog Tryd.f70.results.toList Q 1 a M, fun a M => kfin Tryd.prog Tryd.f70.results.toList Q 1 a M⟩]
    [] [1] (by kernel_rfl) (by kernel_rfl) (by kernel_rfl) (by kernel_rfl) (by kernel_rfl)
    ⟨fun _ _ _ h => h,
    trivial⟩
    (cast (by kernel_rfl) h)
def P_line_scan_run_1 (x0 x2 x3 x4 : Value) (M : Store) (Q : Value → Store → Prop) : Prop :=
  ∀ f : Nat → Value, f 0 = x0 → f 2 = x2 → f 3 = x3 → f 4 = x4 → At Tryd.prog Ex none Tryd.f71 [1, 1, 0, 0] ⟨⟨73, f⟩, []⟩ M Q
def P_line_scan_run_2 (x0 x2 x3 x4 : Value) (M : Store) (Q : Value → Store → Prop) : Prop :=
  ∀ f : Nat → Value, f 0 = x0 → f 2 = x2 → f 3 = x3 → f 4 = x4 → At Tryd.prog Ex none Tryd.f71 [1, 1, 0, 0, 0, 1] ⟨⟨73, f⟩, []⟩ M Q
def P_line_scan_run_3 (x0 x2 x3 x4 : Value) (M : Store) (Q : Value → Store → Prop) : Prop :=
  ∀ f : Nat → Value, f 0 = x0 → f 2 = x2 → f 3 = x3 → f 4 = x4 → At Tryd.prog Ex none Tryd.f71 [1, 1, 1] ⟨⟨73, f⟩, []⟩ M Q
def S_line_scan_run (x0 : Value) (M : Store) (Q : Value → Store → Prop) : Prop :=
  LT (.pointer (some ⟨M.n, 0, none⟩)) (M.push (some (.inl ([(.string ⟨#[]⟩), (.int .i64 0), (.int .i64 0), (.bool false)], Ty.api_Word, true)))) fun t2 M1 =>
  LT (.pointer (some ⟨M1.n, 0, none⟩)) (M1.push (some (.inl ([(.int .i64 0), (.int .i64 0), (.int .i64 0)], Ty.api_Fault, true)))) fun t3 M2 =>
  OP (nilc x0) fun t7 =>
  OP (fad 2 t7) fun t8 =>
  OP (ld 1 false t8 M2) fun t9 =>
  P_line_scan_run_1 x0 t2 t3 t9 M2 Q
theorem T_line_scan_run {x0 : Value} {M : Store} {Q : Value → Store → Prop} (h : S_line_scan_run x0 M Q) : R F.line_scan_run #[x0] M Q := by
  refine runs_of (c := bodyOf Tryd.f71) Tryd.func71 rfl (by kernel_rfl) (by kernel_rfl) ?_
  unfold At
  exact rule (B := 1000) (N := 73) (ct := (.two .no (.two .no (.two (.two (.here 1000) .no) (.here 1001)))))
    [⟨1002, fun a M => dfr a.defers (P_line_scan_run_1 (a.get 0) (a.get 2) (a.get 3) (a.get 4) M Q), fun a M => At Tryd.prog Ex none Tryd.f71 [1, 1, 0, 0] a M Q⟩,
    ⟨1003, fun _ _ => False, fun a M => At Tryd.prog Ex none Tryd.f71 [1, 1, 1] a M Q⟩]
    [1000, 1001] [] (by kernel_rfl) (by kernel_rfl) (by kernel_rfl) (by kernel_rfl) (by kernel_rfl)
    ⟨fun a M hn h => by obtain ⟨⟨n, f⟩, ds⟩ := a; have hn : n = 73 := hn; subst hn; obtain ⟨hd, h⟩ := dfr_iff h; have hd : ds = [] := hd; subst hd; exact h f rfl rfl rfl rfl,
    fun _ _ _ h => h.elim,
    trivial⟩
    (cast (by kernel_rfl) h)
def S_line_scan_run_1 (x0 x2 x3 x4 : Value) (M : Store) (Q : Value → Store → Prop) : Prop :=
  OP (nilc x0) fun t11 =>
  OP (fad 2 t11) fun t12 =>
  OP (ld 1 false t12 M) fun t13 =>
  OP (nilc x0) fun t15 =>
  OP (fad 0 t15) fun t16 =>
  OP (ld 1 false t16 M) fun t17 =>
  OP (lenS t17) fun t18 =>
  OP (binI .lss t13 t18) fun t19 =>
  BR t19 (
  OP (nilc x0) fun t22 =>
  OP (fad 0 t22) fun t23 =>
  OP (ld 1 false t23 M) fun t24 =>
  OP (nilc x0) fun t26 =>
  OP (fad 2 t26) fun t27 =>
  OP (ld 1 false t27 M) fun t28 =>
  OP (ixS t24 t28) fun t29 =>
  R F.line_loose #[t29] M fun t30 M1 =>
  TDx [0, 1, 3, 7, 0, 16, 48, 112, 240, 511, 1023, 2047, 4095, 8191, 16383, 2047, 34815, 100351, 231423, 524287, 1048575, 2097151] [M.n, M.n, M.n, M.n, M.n, M.n, M.n, M.n, M.n, M.n, M.n, M.n, M.n, M.n, M.n, M.n, M.n, M.n, M.n, M.n, M.n] 20 M M1 ∧
  BR t30 (
  P_line_scan_run_2 x0 x2 x3 x4 M1 Q
  ) (
  P_line_scan_run_3 x0 x2 x3 x4 M1 Q
  )
  ) (
  P_line_scan_run_3 x0 x2 x3 x4 M Q
  )
theorem T_line_scan_run_1 {x0 x2 x3 x4 : Value} {M : Store} {Q : Value → Store → Prop} (h : S_line_scan_run_1 x0 x2 x3 x4 M Q) : P_line_scan_run_1 x0 x2 x3 x4 M Q := by
  intro f h0 h2 h3 h4; subst h0; subst h2; subst h3; subst h4
  unfold At
  refine cast (by kernel_rfl) (CW.loop (P := Tryd.prog) (E := Ex) (rd := none) (x := sub (bodyOf Tryd.f71) [1, 1, 0, 0, 0]) (a := ⟨⟨73, f⟩, []⟩) (M := M) (K := kcont Tryd.prog Ex none (bodyOf Tryd.f71) [1, 1, 0, 0] (kfin Tryd.prog Tryd.f71.results.toList Q)) ?_)
  exact rule (B := 1000) (N := 73) (ct := (.two .no (.here 1000)))
    [⟨1002, fun a M => dfr a.defers (P_line_scan_run_2 (a.get 0) (a.get 2) (a.get 3) (a.get 4) M Q), fun a M => At Tryd.prog Ex none Tryd.f71 [1, 1, 0, 0, 0, 1] a M Q⟩,
    ⟨2, fun a M => dfr a.defers (P_line_scan_run_3 (a.get 0) (a.get 2) (a.get 3) (a.get 4) M Q), fun a M => At Tryd.prog Ex none Tryd.f71 [1, 1, 1] a M Q⟩]
    [1000] [2] (by kernel_rfl) (by kernel_rfl) (by kernel_rfl) (by kernel_rfl) (by kernel_rfl)
    ⟨fun a M hn h => by obtain ⟨⟨n, f⟩, ds⟩ := a; have hn : n = 73 := hn; subst hn; obtain ⟨hd, h⟩ := dfr_iff h; have hd : ds = [] := hd; subst hd; exact h f rfl rfl rfl rfl,
    fun a M hn h => by obtain ⟨⟨n, f⟩, ds⟩ := a; have hn : n = 73 := hn; subst hn; obtain ⟨hd, h⟩ := dfr_iff h; have hd : ds = [] := hd; subst hd; exact h f rfl rfl rfl rfl,
    trivial⟩
    (cast (by kernel_rfl) h)
def S_line_scan_run_2 (x0 x2 x3 x4 : Value) (M : Store) (Q : Value → Store → Prop) : Prop :=
  OP (nilc x0) fun t33 =>
  OP (fad 2 t33) fun t34 =>
  OP (ld 1 false t34 M) fun t35 =>
  OP (binI .add t35 (.int .i64 1)) fun t36 =>
  OP (nilc x0) fun t37 =>
  OP (fad 2 t37) fun t38 =>
  OP (st 1 t38 t36 M) fun M1 =>
  P_line_scan_run_1 x0 x2 x3 x4 M1 Q
theorem T_line_scan_run_2 {x0 x2 x3 x4 : Value} {M : Store} {Q : Value → Store → Prop} (h : S_line_scan_run_2 x0 x2 x3 x4 M Q) : P_line_scan_run_2 x0 x2 x3 x4 M Q := by
  intro f h0 h2 h3 h4; subst h0; subst h2; subst h3; subst h4
  unfold At
  exact rule (B := 1000) (N := 73) (ct := .no)
    [⟨0, fun a M => dfr a.defers (P_line_scan_run_1 (a.get 0) (a.get 2) (a.get 3) (a.get 4) M Q), fun a M => At Tryd.prog Ex none Tryd.f71 [1, 1, 0, 0] a M Q⟩]
    [] [0] (by kernel_rfl) (by kernel_rfl) (by kernel_rfl) (by kernel_rfl) (by kernel_rfl)
    ⟨fun a M hn h => by obtain ⟨⟨n, f⟩, ds⟩ := a; have hn : n = 73 := hn; subst hn; obtain ⟨hd, h⟩ := dfr_iff h; have hd : ds = [] := hd; subst hd; exact h f rfl rfl rfl rfl,
    trivial⟩
    (cast (by kernel_rfl) h)
def S_line_scan_run_3 (x0 x2 x3 x4 : Value) (M : Store) (Q : Value → Store → Prop) : Prop :=
  OP (nilc x0) fun t40 =>
  OP (fad 2 t40) fun t41 =>
  OP (ld 1 false t41 M) fun t42 =>
  OP (binI .sub t42 x4) fun t44 =>
  OP (binI .eql t44 (.int .i64 0)) fun t47 =>
  BR t47 (
  OP (bldS #[(.string ⟨#[]⟩), (.int .i64 0), (.int .i64 0), (.bool false)] [(0, 1), (1, 1), (2, 1), (3, 1)] []) fun t48 =>
  R F.line_scan_fault #[x0, (.int .i64 1), x4] M fun t51 M1 =>
  OP (st 4 x2 t48 M1) fun M2 =>
  OP (st 3 x3 t51 M2) fun M3 =>
  OP (ld 4 true x2 M3) fun r2 =>
  OP (ld 3 true x3 M3) fun r3 =>
  NTs [r2, r3] ∧ Q (.tuple #[r2, r3]) M3
  ) (
  OP (binI .gtr t44 (.int .i64 64)) fun t54 =>
  BR t54 (
  OP (bldS #[(.string ⟨#[]⟩), (.int .i64 0), (.int .i64 0), (.bool false)] [(0, 1), (1, 1), (2, 1), (3, 1)] []) fun t55 =>
  R F.line_scan_fault #[x0, (.int .i64 3), x4] M fun t58 M4 =>
  OP (st 4 x2 t55 M4) fun M5 =>
  OP (st 3 x3 t58 M5) fun M6 =>
  OP (ld 4 true x2 M6) fun r2_1 =>
  OP (ld 3 true x3 M6) fun r3_1 =>
  NTs [r2_1, r3_1] ∧ Q (.tuple #[r2_1, r3_1]) M6
  ) (
  OP (nilc x0) fun t61 =>
  OP (fad 0 t61) fun t62 =>
  OP (ld 1 false t62 M) fun t63 =>
  OP (nilc x0) fun t66 =>
  OP (fad 2 t66) fun t67 =>
  OP (ld 1 false t67 M) fun t68 =>
  OP (slS t63 (some x4) (some t68)) fun t69 =>
  R F.line_scan_word #[x0, t69, x4, (.bool false)] M fun t71 M7 =>
  TDx [0, 0, 2, 6, 14, 0, 0, 64, 192, 448, 1022, 0, 4095, 0, 8191, 32767] [M.n, M.n, M.n, M.n, M.n, M.n, M.n, M.n, M.n, M.n, M.n, M.n, M.n] 12 M M7 ∧
  OP (bldS #[(.int .i64 0), (.int .i64 0), (.int .i64 0)] [(0, 1), (1, 1), (2, 1)] []) fun t72 =>
  OP (st 4 x2 t71 M7) fun M8 =>
  TDx [0, 0, 2, 6, 14, 0, 0, 64, 192, 448, 1022, 0, 4095, 0, 8191, 32767] [M.n, M.n, M.n, M.n, M.n, M.n, M.n, M.n, M.n, M.n, M.n, M.n, M.n, M7.n, M7.n] 14 M7 M8 ∧
  OP (st 3 x3 t72 M8) fun M9 =>
  TDx [0, 0, 2, 6, 14, 0, 0, 64, 192, 448, 1022, 0, 4095, 0, 8191, 32767] [M.n, M.n, M.n, M.n, M.n, M.n, M.n, M.n, M.n, M.n, M.n, M.n, M.n, M7.n, M7.n, M8.n] 15 M8 M9 ∧
  OP (ld 4 true x2 M9) fun r2_2 =>
  OP (ld 3 true x3 M9) fun r3_2 =>
  NTs [r2_2, r3_2] ∧ Q (.tuple #[r2_2, r3_2]) M9
  )
  )
theorem T_line_scan_run_3 {x0 x2 x3 x4 : Value} {M : Store} {Q : Value → Store → Prop} (h : S_line_scan_run_3 x0 x2 x3 x4 M Q) : P_line_scan_run_3 x0 x2 x3 x4 M Q := by
  intro f h0 h2 h3 h4; subst h0; subst h2; subst h3; subst h4
  unfold At
  exact rule (B := 1000) (N := 73) (ct := .no)
    [⟨1, fun a M => kfin Tryd.prog Tryd.f71.results.toList Q 1 a M, fun a M => kfin Tryd.prog Tryd.f71.results.toList Q 1 a M⟩]
    [] [1] (by kernel_rfl) (by kernel_rfl) (by kernel_rfl) (by kernel_rfl) (by kernel_rfl)
    ⟨fun _ _ _ h => h,
    trivial⟩
    (cast (by kernel_rfl) h)
def S_strings_IndexByte (x0 x1 : Value) (M : Store) (Q : Value → Store → Prop) : Prop :=
  R F.internal_stringslite_IndexByte #[x0, x1] M fun t7 M1 =>
  NTs [t7] ∧ Q t7 M1
theorem T_strings_IndexByte {x0 x1 : Value} {M : Store} {Q : Value → Store → Prop} (h : S_strings_IndexByte x0 x1 M Q) : R F.strings_IndexByte #[x0, x1] M Q := by
  refine runs_of (c := bodyOf Tryd.f85) Tryd.func85 rfl (by kernel_rfl) (by kernel_rfl) ?_
  unfold At
  exact rule (B := 1000) (N := 8) (ct := .no)
    [⟨1, fun a M => kfin Tryd.prog Tryd.f85.results.toList Q 1 a M, fun a M => kfin Tryd.prog Tryd.f85.results.toList Q 1 a M⟩]
    [] [1] (by kernel_rfl) (by kernel_rfl) (by kernel_rfl) (by kernel_rfl) (by kernel_rfl)
    ⟨fun _ _ _ h => h,
    trivial⟩
    (cast (by kernel_rfl) h)
def S_line_scan_fault (x0 x1 x2 : Value) (M : Store) (Q : Value → Store → Prop) : Prop :=
  LT (.pointer (some ⟨M.n, 0, none⟩)) (M.push (some (.inl ([(.int .i64 0), (.int .i64 0), (.int .i64 0)], Ty.api_Fault, true)))) fun t6 M1 =>
  OP (nilc x0) fun t9 =>
  OP (fad 1 t9) fun t10 =>
  OP (ld 1 false t10 M1) fun t11 =>
  OP (binI .add x2 (.int .i64 1)) fun t13 =>
  OP (bldS #[(.int .i64 0), (.int .i64 0), (.int .i64 0)] [(0, 1), (1, 1), (2, 1)] [(0, x1), (1, t11), (2, t13)]) fun t14 =>
  OP (st 3 t6 t14 M1) fun M2 =>
  OP (ld 3 true t6 M2) fun r6 =>
  NTs [r6] ∧ Q r6 M2
theorem T_line_scan_fault {x0 x1 x2 : Value} {M : Store} {Q : Value → Store → Prop} (h : S_line_scan_fault x0 x1 x2 M Q) : R F.line_scan_fault #[x0, x1, x2] M Q := by
  refine runs_of (c := bodyOf Tryd.f86) Tryd.func86 rfl (by kernel_rfl) (by kernel_rfl) ?_
  unfold At
  exact rule (B := 1000) (N := 15) (ct := .no)
    [⟨1, fun a M => kfin Tryd.prog Tryd.f86.results.toList Q 1 a M, fun a M => kfin Tryd.prog Tryd.f86.results.toList Q 1 a M⟩]
    [] [1] (by kernel_rfl) (by kernel_rfl) (by kernel_rfl) (by kernel_rfl) (by kernel_rfl)
    ⟨fun _ _ _ h => h,
    trivial⟩
    (cast (by kernel_rfl) h)
def S_line_plain (x0 : Value) (M : Store) (Q : Value → Store → Prop) : Prop :=
  OP (binI .geq x0 (.int .u8 32)) fun t4 =>
  BR t4 (
  OP (binI .leq x0 (.int .u8 126)) fun t7 =>
  NTs [t7] ∧ Q t7 M
  ) (
  NTs [(.bool false)] ∧ Q (.bool false) M
  )
theorem T_line_plain {x0 : Value} {M : Store} {Q : Value → Store → Prop} (h : S_line_plain x0 M Q) : R F.line_plain #[x0] M Q := by
  refine runs_of (c := bodyOf Tryd.f87) Tryd.func87 rfl (by kernel_rfl) (by kernel_rfl) ?_
  unfold At
  exact rule (B := 1000) (N := 9) (ct := .no)
    [⟨1, fun a M => kfin Tryd.prog Tryd.f87.results.toList Q 1 a M, fun a M => kfin Tryd.prog Tryd.f87.results.toList Q 1 a M⟩]
    [] [1] (by kernel_rfl) (by kernel_rfl) (by kernel_rfl) (by kernel_rfl) (by kernel_rfl)
    ⟨fun _ _ _ h => h,
    trivial⟩
    (cast (by kernel_rfl) h)
def S_line_loose (x0 : Value) (M : Store) (Q : Value → Store → Prop) : Prop :=
  OP (binI .gtr x0 (.int .u8 32)) fun t4 =>
  BR t4 (
  OP (binI .leq x0 (.int .u8 126)) fun t7 =>
  BR t7 (
  OP (binI .neq x0 (.int .u8 34)) fun t11 =>
  BR t11 (
  R F.line_sign #[x0] M fun t15 M1 =>
  OP (aun .not t15) fun t16 =>
  NTs [t16] ∧ Q t16 M1
  ) (
  NTs [(.bool false)] ∧ Q (.bool false) M
  )
  ) (
  NTs [(.bool false)] ∧ Q (.bool false) M
  )
  ) (
  NTs [(.bool false)] ∧ Q (.bool false) M
  )
theorem T_line_loose {x0 : Value} {M : Store} {Q : Value → Store → Prop} (h : S_line_loose x0 M Q) : R F.line_loose #[x0] M Q := by
  refine runs_of (c := bodyOf Tryd.f88) Tryd.func88 rfl (by kernel_rfl) (by kernel_rfl) ?_
  unfold At
  exact rule (B := 1000) (N := 18) (ct := .no)
    [⟨1, fun a M => kfin Tryd.prog Tryd.f88.results.toList Q 1 a M, fun a M => kfin Tryd.prog Tryd.f88.results.toList Q 1 a M⟩]
    [] [1] (by kernel_rfl) (by kernel_rfl) (by kernel_rfl) (by kernel_rfl) (by kernel_rfl)
    ⟨fun _ _ _ h => h,
    trivial⟩
    (cast (by kernel_rfl) h)
end Go.G
