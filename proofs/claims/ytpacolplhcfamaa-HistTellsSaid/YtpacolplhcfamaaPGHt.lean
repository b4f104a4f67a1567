/-  -/
import Derived.Test.YtpacolplhcfamaaPGN
open Go.RowKit
namespace Go.G
open Go.Ab Go.Proofs
set_option linter.unusedVariables false
set_option maxRecDepth 100000
def P_fettlelaw25_HistTells_1 (x0 x1 x2 x7 x8 : Value) (M : Store) (Q : Value → Store → Prop) : Prop :=
  ∀ f : Nat → Value, f 0 = x0 → f 1 = x1 → f 2 = x2 → f 7 = x7 → f 8 = x8 → At Try.prog Ex none Try.f13 [1, 1, 1, 0, 1, 0] ⟨⟨228, f⟩, []⟩ M Q
def P_fettlelaw25_HistTells_2 (x0 x1 x2 x7 x8 : Value) (M : Store) (Q : Value → Store → Prop) : Prop :=
  ∀ f : Nat → Value, f 0 = x0 → f 1 = x1 → f 2 = x2 → f 7 = x7 → f 8 = x8 → At Try.prog Ex none Try.f13 [1, 1, 1, 0, 1, 0, 0, 1] ⟨⟨228, f⟩, []⟩ M Q
def P_fettlelaw25_HistTells_3 (x1 x7 : Value) (M : Store) (Q : Value → Store → Prop) : Prop :=
  ∀ f : Nat → Value, f 1 = x1 → f 7 = x7 → At Try.prog Ex none Try.f13 [1, 1, 1, 1] ⟨⟨228, f⟩, []⟩ M Q
def P_fettlelaw25_HistTells_4 (x1 x7 x10 x11 x62 x63 : Value) (M : Store) (Q : Value → Store → Prop) : Prop :=
  ∀ f : Nat → Value, f 1 = x1 → f 7 = x7 → f 10 = x10 → f 11 = x11 → f 62 = x62 → f 63 = x63 → At Try.prog Ex none Try.f13 [1, 1, 1, 1, 1, 0, 1, 0] ⟨⟨228, f⟩, []⟩ M Q
def P_fettlelaw25_HistTells_5 (x1 x7 x10 x11 x62 x63 : Value) (M : Store) (Q : Value → Store → Prop) : Prop :=
  ∀ f : Nat → Value, f 1 = x1 → f 7 = x7 → f 10 = x10 → f 11 = x11 → f 62 = x62 → f 63 = x63 → At Try.prog Ex none Try.f13 [1, 1, 1, 1, 1, 0, 1, 0, 0, 1, 1] ⟨⟨228, f⟩, []⟩ M Q
def P_fettlelaw25_HistTells_6 (x7 x10 x11 : Value) (M : Store) (Q : Value → Store → Prop) : Prop :=
  ∀ f : Nat → Value, f 7 = x7 → f 10 = x10 → f 11 = x11 → At Try.prog Ex none Try.f13 [1, 1, 1, 1, 1, 1] ⟨⟨228, f⟩, []⟩ M Q
def P_fettlelaw25_HistTells_7 (x1 x7 x10 x11 x12 x13 x62 x63 : Value) (M : Store) (Q : Value → Store → Prop) : Prop :=
  ∀ f : Nat → Value, f 1 = x1 → f 7 = x7 → f 10 = x10 → f 11 = x11 → f 12 = x12 → f 13 = x13 → f 62 = x62 → f 63 = x63 → At Try.prog Ex none Try.f13 [1, 1, 1, 1, 1, 0, 1, 0, 0, 1, 1, 0, 0, 1, 1, 1] ⟨⟨228, f⟩, []⟩ M Q
def P_fettlelaw25_HistTells_8 (x7 x149 x150 x151 : Value) (M : Store) (Q : Value → Store → Prop) : Prop :=
  ∀ f : Nat → Value, f 7 = x7 → f 149 = x149 → f 150 = x150 → f 151 = x151 → At Try.prog Ex none Try.f13 [1, 1, 1, 1, 1, 1, 0, 1, 0] ⟨⟨228, f⟩, []⟩ M Q
def P_fettlelaw25_HistTells_9 (x1 x7 x10 x11 x16 x17 x62 x63 : Value) (M : Store) (Q : Value → Store → Prop) : Prop :=
  ∀ f : Nat → Value, f 1 = x1 → f 7 = x7 → f 10 = x10 → f 11 = x11 → f 16 = x16 → f 17 = x17 → f 62 = x62 → f 63 = x63 → At Try.prog Ex none Try.f13 [1, 1, 1, 1, 1, 0, 1, 0, 0, 1, 1, 0, 0, 1, 1, 1, 1, 1, 1] ⟨⟨228, f⟩, []⟩ M Q
def P_fettlelaw25_HistTells_10 (x7 x149 x150 x151 : Value) (M : Store) (Q : Value → Store → Prop) : Prop :=
  ∀ f : Nat → Value, f 7 = x7 → f 149 = x149 → f 150 = x150 → f 151 = x151 → At Try.prog Ex none Try.f13 [1, 1, 1, 1, 1, 1, 0, 1, 0, 0, 1, 1] ⟨⟨228, f⟩, []⟩ M Q
def P_fettlelaw25_HistTells_11 (x7 : Value) (M : Store) (Q : Value → Store → Prop) : Prop :=
  ∀ f : Nat → Value, f 7 = x7 → At Try.prog Ex none Try.f13 [1, 1, 1, 1, 1, 1, 1] ⟨⟨228, f⟩, []⟩ M Q
def P_fettlelaw25_HistTells_12 (x1 x7 x10 x11 x62 x63 : Value) (M : Store) (Q : Value → Store → Prop) : Prop :=
  ∀ f : Nat → Value, f 1 = x1 → f 7 = x7 → f 10 = x10 → f 11 = x11 → f 62 = x62 → f 63 = x63 → At Try.prog Ex none Try.f13 [1, 1, 1, 1, 1, 0, 1, 0, 0, 1, 1, 1] ⟨⟨228, f⟩, []⟩ M Q
def P_fettlelaw25_HistTells_13 (x7 x19 x149 x150 x151 x161 x162 x163 : Value) (M : Store) (Q : Value → Store → Prop) : Prop :=
  ∀ f : Nat → Value, f 7 = x7 → f 19 = x19 → f 149 = x149 → f 150 = x150 → f 151 = x151 → f 161 = x161 → f 162 = x162 → f 163 = x163 → At Try.prog Ex none Try.f13 [1, 1, 1, 1, 1, 1, 0, 1, 0, 0, 1, 1, 0, 0, 1, 1, 0] ⟨⟨228, f⟩, []⟩ M Q
def P_fettlelaw25_HistTells_14 (x7 x22 : Value) (M : Store) (Q : Value → Store → Prop) : Prop :=
  ∀ f : Nat → Value, f 7 = x7 → f 22 = x22 → At Try.prog Ex none Try.f13 [1, 1, 1, 1, 1, 1, 1, 0, 1, 0] ⟨⟨228, f⟩, []⟩ M Q
def P_fettlelaw25_HistTells_15 (x7 x19 x149 x150 x151 x161 x162 x163 : Value) (M : Store) (Q : Value → Store → Prop) : Prop :=
  ∀ f : Nat → Value, f 7 = x7 → f 19 = x19 → f 149 = x149 → f 150 = x150 → f 151 = x151 → f 161 = x161 → f 162 = x162 → f 163 = x163 → At Try.prog Ex none Try.f13 [1, 1, 1, 1, 1, 1, 0, 1, 0, 0, 1, 1, 0, 0, 1, 1, 0, 0, 1, 1] ⟨⟨228, f⟩, []⟩ M Q
def P_fettlelaw25_HistTells_16 (x7 x149 x150 x151 : Value) (M : Store) (Q : Value → Store → Prop) : Prop :=
  ∀ f : Nat → Value, f 7 = x7 → f 149 = x149 → f 150 = x150 → f 151 = x151 → At Try.prog Ex none Try.f13 [1, 1, 1, 1, 1, 1, 0, 1, 0, 0, 1, 1, 1] ⟨⟨228, f⟩, []⟩ M Q
def P_fettlelaw25_HistTells_17 (x7 x22 : Value) (M : Store) (Q : Value → Store → Prop) : Prop :=
  ∀ f : Nat → Value, f 7 = x7 → f 22 = x22 → At Try.prog Ex none Try.f13 [1, 1, 1, 1, 1, 1, 1, 0, 1, 0, 0, 1] ⟨⟨228, f⟩, []⟩ M Q
def P_fettlelaw25_HistTells_18 (M : Store) (Q : Value → Store → Prop) : Prop :=
  ∀ f : Nat → Value, At Try.prog Ex none Try.f13 [1, 1, 1, 1, 1, 1, 1, 1] ⟨⟨228, f⟩, []⟩ M Q
def P_fettlelaw25_HistTells_19 (x7 x22 x182 x183 x184 : Value) (M : Store) (Q : Value → Store → Prop) : Prop :=
  ∀ f : Nat → Value, f 7 = x7 → f 22 = x22 → f 182 = x182 → f 183 = x183 → f 184 = x184 → At Try.prog Ex none Try.f13 [1, 1, 1, 1, 1, 1, 1, 0, 1, 0, 0, 1, 0, 0, 0, 1, 0] ⟨⟨228, f⟩, []⟩ M Q
def P_fettlelaw25_HistTells_20 (x7 x22 x182 x183 x184 : Value) (M : Store) (Q : Value → Store → Prop) : Prop :=
  ∀ f : Nat → Value, f 7 = x7 → f 22 = x22 → f 182 = x182 → f 183 = x183 → f 184 = x184 → At Try.prog Ex none Try.f13 [1, 1, 1, 1, 1, 1, 1, 0, 1, 0, 0, 1, 0, 0, 0, 1, 0, 0, 1, 1] ⟨⟨228, f⟩, []⟩ M Q
def P_fettlelaw25_HistTells_21 (x7 x22 : Value) (M : Store) (Q : Value → Store → Prop) : Prop :=
  ∀ f : Nat → Value, f 7 = x7 → f 22 = x22 → At Try.prog Ex none Try.f13 [1, 1, 1, 1, 1, 1, 1, 0, 1, 0, 0, 1, 0, 0, 1] ⟨⟨228, f⟩, []⟩ M Q
def P_fettlelaw25_HistTells_22 (x7 x22 : Value) (M : Store) (Q : Value → Store → Prop) : Prop :=
  ∀ f : Nat → Value, f 7 = x7 → f 22 = x22 → At Try.prog Ex none Try.f13 [1, 1, 1, 1, 1, 1, 1, 0, 1, 0, 0, 1, 1] ⟨⟨228, f⟩, []⟩ M Q
def S_fettlelaw25_HistTells (x0 x1 x2 : Value) (M : Store) (Q : Value → Store → Prop) : Prop :=
  OP (lenV x2) fun t30 =>
  OP (binI .gtr t30 (.int .i64 200)) fun t31 =>
  BR t31 (
  R F.fettlelaw25_awake #[] M fun t32 M1 =>
  NTs [t32] ∧ Q t32 M1
  ) (
  P_fettlelaw25_HistTells_1 x0 x1 x2 (.slice none 0 0) (.int .i64 0) M Q
  )
theorem T_fettlelaw25_HistTells {x0 x1 x2 : Value} {M : Store} {Q : Value → Store → Prop} (h : S_fettlelaw25_HistTells x0 x1 x2 M Q) : R F.fettlelaw25_HistTells #[x0, x1, x2] M Q := by
  refine runs_of (c := bodyOf Try.f13) Try.func13 rfl (by kernel_rfl) (by kernel_rfl) ?_
  unfold At
  exact rule (B := 1000) (N := 228) (ct := (.two .no (.two .no (.two .no (.two (.two .no (.two (.here 1000) .no)) (.here 1001))))))
    [⟨1002, fun a M => dfr a.defers (P_fettlelaw25_HistTells_1 (a.get 0) (a.get 1) (a.get 2) (a.get 7) (a.get 8) M Q), fun a M => At Try.prog Ex none Try.f13 [1, 1, 1, 0, 1, 0] a M Q⟩,
    ⟨1003, fun _ _ => False, fun a M => At Try.prog Ex none Try.f13 [1, 1, 1, 1] a M Q⟩,
    ⟨1, fun a M => kfin Try.prog Try.f13.results.toList Q 1 a M, fun a M => kfin Try.prog Try.f13.results.toList Q 1 a M⟩]
    [1000, 1001] [1] (by kernel_rfl) (by kernel_rfl) (by kernel_rfl) (by kernel_rfl) (by kernel_rfl)
    ⟨fun a M hn h => by obtain ⟨⟨n, f⟩, ds⟩ := a; have hn : n = 228 := hn; subst hn; obtain ⟨hd, h⟩ := dfr_iff h; have hd : ds = [] := hd; subst hd; exact h f rfl rfl rfl rfl rfl,
    fun _ _ _ h => h.elim,
    fun _ _ _ h => h,
    trivial⟩
    (cast (by kernel_rfl) h)
def S_fettlelaw25_HistTells_1 (x0 x1 x2 x7 x8 : Value) (M : Store) (Q : Value → Store → Prop) : Prop :=
  OP (lenV x0) fun t35 =>
  OP (binI .lss x8 t35) fun t36 =>
  BR t36 (
  OP (binI .lss x8 (.int .i64 12)) fun t39 =>
  BR t39 (
  P_fettlelaw25_HistTells_2 x0 x1 x2 x7 x8 M Q
  ) (
  P_fettlelaw25_HistTells_3 x1 x7 M Q
  )
  ) (
  P_fettlelaw25_HistTells_3 x1 x7 M Q
  )
theorem T_fettlelaw25_HistTells_1 {x0 x1 x2 x7 x8 : Value} {M : Store} {Q : Value → Store → Prop} (h : S_fettlelaw25_HistTells_1 x0 x1 x2 x7 x8 M Q) : P_fettlelaw25_HistTells_1 x0 x1 x2 x7 x8 M Q := by
  intro f h0 h1 h2 h7 h8; subst h0; subst h1; subst h2; subst h7; subst h8
  unfold At
  refine cast (by kernel_rfl) (CW.loop (P := Try.prog) (E := Ex) (rd := none) (x := sub (bodyOf Try.f13) [1, 1, 1, 0, 1, 0, 0]) (a := ⟨⟨228, f⟩, []⟩) (M := M) (K := kcont Try.prog Ex none (bodyOf Try.f13) [1, 1, 1, 0, 1, 0] (kfin Try.prog Try.f13.results.toList Q)) ?_)
  exact rule (B := 1000) (N := 228) (ct := (.two .no (.here 1000)))
    [⟨1002, fun a M => dfr a.defers (P_fettlelaw25_HistTells_2 (a.get 0) (a.get 1) (a.get 2) (a.get 7) (a.get 8) M Q), fun a M => At Try.prog Ex none Try.f13 [1, 1, 1, 0, 1, 0, 0, 1] a M Q⟩,
    ⟨2, fun a M => dfr a.defers (P_fettlelaw25_HistTells_3 (a.get 1) (a.get 7) M Q), fun a M => At Try.prog Ex none Try.f13 [1, 1, 1, 1] a M Q⟩]
    [1000] [2] (by kernel_rfl) (by kernel_rfl) (by kernel_rfl) (by kernel_rfl) (by kernel_rfl)
    ⟨fun a M hn h => by obtain ⟨⟨n, f⟩, ds⟩ := a; have hn : n = 228 := hn; subst hn; obtain ⟨hd, h⟩ := dfr_iff h; have hd : ds = [] := hd; subst hd; exact h f rfl rfl rfl rfl rfl,
    fun a M hn h => by obtain ⟨⟨n, f⟩, ds⟩ := a; have hn : n = 228 := hn; subst hn; obtain ⟨hd, h⟩ := dfr_iff h; have hd : ds = [] := hd; subst hd; exact h f rfl rfl,
    trivial⟩
    (cast (by kernel_rfl) h)
def S_fettlelaw25_HistTells_2 (x0 x1 x2 x7 x8 : Value) (M : Store) (Q : Value → Store → Prop) : Prop :=
  OP (ixA 1 x0 x8) fun t45 =>
  OP (ld 1 false t45 M) fun t46 =>
  R F.fettlelaw25_Commit #[t46] M fun t47 M1 =>
  LT (.pointer (some ⟨M1.n, 0, none⟩)) (M1.push (some (.inl ([(.int .i64 0), (.string ⟨#[]⟩), (.slice none 0 0), (.bool false)], Ty.api_Commit, true)))) fun t9 M2 =>
  OP (st 4 t9 t47 M2) fun M3 =>
  OP (ixA 1 x0 x8) fun t50 =>
  OP (ld 1 false t50 M3) fun t51 =>
  OP (binI .shr t51 (.int .u64 20)) fun t52 =>
  OP (binI .and t52 (.int .i64 15)) fun t53 =>
  OP (binI .eql t53 (.int .i64 0)) fun t54 =>
  BR t54 (
  OP (fad 2 t9) fun t56 =>
  OP (st 1 t56 x2 M3) fun M4 =>
  OP (ld 4 true t9 M4) fun t58 =>
  OP (bldL (.agg #[(.int .i64 0), (.string ⟨#[]⟩), (.slice none 0 0), (.bool false)]) 4 1 [(0, t58)]) fun c =>
  LT (.slice (some ⟨M4.n, 0, none⟩) 1 1) (M4.push (some (.inl (c, Ty.api_Commit, true)))) fun t59 M5 =>
  OP2 (appV 4 Ty.api_Commit x7 t59 M5) fun t60 M6 =>
  OP (binI .add x8 (.int .i64 1)) fun t42 =>
  P_fettlelaw25_HistTells_1 x0 x1 x2 t60 t42 M6 Q
  ) (
  OP (ld 4 true t9 M3) fun t58_1 =>
  OP (bldL (.agg #[(.int .i64 0), (.string ⟨#[]⟩), (.slice none 0 0), (.bool false)]) 4 1 [(0, t58_1)]) fun c_1 =>
  LT (.slice (some ⟨M3.n, 0, none⟩) 1 1) (M3.push (some (.inl (c_1, Ty.api_Commit, true)))) fun t59_1 M7 =>
  OP2 (appV 4 Ty.api_Commit x7 t59_1 M7) fun t60_1 M8 =>
  OP (binI .add x8 (.int .i64 1)) fun t42_1 =>
  P_fettlelaw25_HistTells_1 x0 x1 x2 t60_1 t42_1 M8 Q
  )
theorem T_fettlelaw25_HistTells_2 {x0 x1 x2 x7 x8 : Value} {M : Store} {Q : Value → Store → Prop} (h : S_fettlelaw25_HistTells_2 x0 x1 x2 x7 x8 M Q) : P_fettlelaw25_HistTells_2 x0 x1 x2 x7 x8 M Q := by
  intro f h0 h1 h2 h7 h8; subst h0; subst h1; subst h2; subst h7; subst h8
  unfold At
  exact rule (B := 1000) (N := 228) (ct := .no)
    [⟨0, fun a M => dfr a.defers (P_fettlelaw25_HistTells_1 (a.get 0) (a.get 1) (a.get 2) (a.get 7) (a.get 8) M Q), fun a M => At Try.prog Ex none Try.f13 [1, 1, 1, 0, 1, 0] a M Q⟩]
    [] [0] (by kernel_rfl) (by kernel_rfl) (by kernel_rfl) (by kernel_rfl) (by kernel_rfl)
    ⟨fun a M hn h => by obtain ⟨⟨n, f⟩, ds⟩ := a; have hn : n = 228 := hn; subst hn; obtain ⟨hd, h⟩ := dfr_iff h; have hd : ds = [] := hd; subst hd; exact h f rfl rfl rfl rfl rfl,
    trivial⟩
    (cast (by kernel_rfl) h)
def S_fettlelaw25_HistTells_3 (x1 x7 : Value) (M : Store) (Q : Value → Store → Prop) : Prop :=
  OP (lenV x7) fun t62 =>
  P_fettlelaw25_HistTells_4 x1 x7 (.slice none 0 0) (.slice none 0 0) t62 (.int .i64 0) M Q
theorem T_fettlelaw25_HistTells_3 {x1 x7 : Value} {M : Store} {Q : Value → Store → Prop} (h : S_fettlelaw25_HistTells_3 x1 x7 M Q) : P_fettlelaw25_HistTells_3 x1 x7 M Q := by
  intro f h1 h7; subst h1; subst h7
  unfold At
  exact rule (B := 1000) (N := 228) (ct := (.two .no (.two (.two .no (.two (.here 1000) .no)) (.here 1001))))
    [⟨1002, fun a M => dfr a.defers (P_fettlelaw25_HistTells_4 (a.get 1) (a.get 7) (a.get 10) (a.get 11) (a.get 62) (a.get 63) M Q), fun a M => At Try.prog Ex none Try.f13 [1, 1, 1, 1, 1, 0, 1, 0] a M Q⟩,
    ⟨1003, fun _ _ => False, fun a M => At Try.prog Ex none Try.f13 [1, 1, 1, 1, 1, 1] a M Q⟩]
    [1000, 1001] [] (by kernel_rfl) (by kernel_rfl) (by kernel_rfl) (by kernel_rfl) (by kernel_rfl)
    ⟨fun a M hn h => by obtain ⟨⟨n, f⟩, ds⟩ := a; have hn : n = 228 := hn; subst hn; obtain ⟨hd, h⟩ := dfr_iff h; have hd : ds = [] := hd; subst hd; exact h f rfl rfl rfl rfl rfl rfl,
    fun _ _ _ h => h.elim,
    trivial⟩
    (cast (by kernel_rfl) h)
def S_fettlelaw25_HistTells_4 (x1 x7 x10 x11 x62 x63 : Value) (M : Store) (Q : Value → Store → Prop) : Prop :=
  OP (binI .lss x63 x62) fun t64 =>
  BR t64 (
  P_fettlelaw25_HistTells_5 x1 x7 x10 x11 x62 x63 M Q
  ) (
  P_fettlelaw25_HistTells_6 x7 x10 x11 M Q
  )
theorem T_fettlelaw25_HistTells_4 {x1 x7 x10 x11 x62 x63 : Value} {M : Store} {Q : Value → Store → Prop} (h : S_fettlelaw25_HistTells_4 x1 x7 x10 x11 x62 x63 M Q) : P_fettlelaw25_HistTells_4 x1 x7 x10 x11 x62 x63 M Q := by
  intro f h1 h7 h10 h11 h62 h63; subst h1; subst h7; subst h10; subst h11; subst h62; subst h63
  unfold At
  refine cast (by kernel_rfl) (CW.loop (P := Try.prog) (E := Ex) (rd := none) (x := sub (bodyOf Try.f13) [1, 1, 1, 1, 1, 0, 1, 0, 0]) (a := ⟨⟨228, f⟩, []⟩) (M := M) (K := kcont Try.prog Ex none (bodyOf Try.f13) [1, 1, 1, 1, 1, 0, 1, 0] (kfin Try.prog Try.f13.results.toList Q)) ?_)
  exact rule (B := 1000) (N := 228) (ct := (.two .no (.two .no (.here 1000))))
    [⟨1002, fun a M => dfr a.defers (P_fettlelaw25_HistTells_5 (a.get 1) (a.get 7) (a.get 10) (a.get 11) (a.get 62) (a.get 63) M Q), fun a M => At Try.prog Ex none Try.f13 [1, 1, 1, 1, 1, 0, 1, 0, 0, 1, 1] a M Q⟩,
    ⟨4, fun a M => dfr a.defers (P_fettlelaw25_HistTells_6 (a.get 7) (a.get 10) (a.get 11) M Q), fun a M => At Try.prog Ex none Try.f13 [1, 1, 1, 1, 1, 1] a M Q⟩]
    [1000] [4] (by kernel_rfl) (by kernel_rfl) (by kernel_rfl) (by kernel_rfl) (by kernel_rfl)
    ⟨fun a M hn h => by obtain ⟨⟨n, f⟩, ds⟩ := a; have hn : n = 228 := hn; subst hn; obtain ⟨hd, h⟩ := dfr_iff h; have hd : ds = [] := hd; subst hd; exact h f rfl rfl rfl rfl rfl rfl,
    fun a M hn h => by obtain ⟨⟨n, f⟩, ds⟩ := a; have hn : n = 228 := hn; subst hn; obtain ⟨hd, h⟩ := dfr_iff h; have hd : ds = [] := hd; subst hd; exact h f rfl rfl rfl,
    trivial⟩
    (cast (by kernel_rfl) h)
def S_fettlelaw25_HistTells_5 (x1 x7 x10 x11 x62 x63 : Value) (M : Store) (Q : Value → Store → Prop) : Prop :=
  OP (ixA 4 x7 x63) fun t69 =>
  OP (fad 2 t69) fun t70 =>
  OP (ld 1 false t70 M) fun t71 =>
  R F.fettleref10_Open #[t71] M fun t72 M1 =>
  OP (tup t72 0) fun t73 =>
  OP (tup t72 1) fun t74 =>
  OP (tup t72 2) fun t75 =>
  OP (aun .not t75) fun t77 =>
  BR t77 (
  P_fettlelaw25_HistTells_12 x1 x7 x10 x11 x62 x63 M1 Q
  ) (
  OP (ixA 4 x7 x63) fun t81 =>
  OP (fad 3 t81) fun t82 =>
  OP (ld 1 false t82 M1) fun t83 =>
  BR t83 (
  P_fettlelaw25_HistTells_12 x1 x7 x10 x11 x62 x63 M1 Q
  ) (
  P_fettlelaw25_HistTells_7 x1 x7 x10 x11 x63 t73 x62 x63 M1 Q
  )
  )
theorem T_fettlelaw25_HistTells_5 {x1 x7 x10 x11 x62 x63 : Value} {M : Store} {Q : Value → Store → Prop} (h : S_fettlelaw25_HistTells_5 x1 x7 x10 x11 x62 x63 M Q) : P_fettlelaw25_HistTells_5 x1 x7 x10 x11 x62 x63 M Q := by
  intro f h1 h7 h10 h11 h62 h63; subst h1; subst h7; subst h10; subst h11; subst h62; subst h63
  unfold At
  exact rule (B := 1000) (N := 228) (ct := (.two (.two (.two .no (.two .no (.two .no (.here 1000)))) .no) (.here 1001)))
    [⟨1002, fun a M => dfr a.defers (P_fettlelaw25_HistTells_7 (a.get 1) (a.get 7) (a.get 10) (a.get 11) (a.get 12) (a.get 13) (a.get 62) (a.get 63) M Q), fun a M => At Try.prog Ex none Try.f13 [1, 1, 1, 1, 1, 0, 1, 0, 0, 1, 1, 0, 0, 1, 1, 1] a M Q⟩,
    ⟨1003, fun a M => dfr a.defers (P_fettlelaw25_HistTells_12 (a.get 1) (a.get 7) (a.get 10) (a.get 11) (a.get 62) (a.get 63) M Q), fun a M => At Try.prog Ex none Try.f13 [1, 1, 1, 1, 1, 0, 1, 0, 0, 1, 1, 1] a M Q⟩]
    [1000, 1001] [] (by kernel_rfl) (by kernel_rfl) (by kernel_rfl) (by kernel_rfl) (by kernel_rfl)
    ⟨fun a M hn h => by obtain ⟨⟨n, f⟩, ds⟩ := a; have hn : n = 228 := hn; subst hn; obtain ⟨hd, h⟩ := dfr_iff h; have hd : ds = [] := hd; subst hd; exact h f rfl rfl rfl rfl rfl rfl rfl rfl,
    fun a M hn h => by obtain ⟨⟨n, f⟩, ds⟩ := a; have hn : n = 228 := hn; subst hn; obtain ⟨hd, h⟩ := dfr_iff h; have hd : ds = [] := hd; subst hd; exact h f rfl rfl rfl rfl rfl rfl,
    trivial⟩
    (cast (by kernel_rfl) h)
def S_fettlelaw25_HistTells_6 (x7 x10 x11 : Value) (M : Store) (Q : Value → Store → Prop) : Prop :=
  OP (bldL (.agg #[(.string ⟨#[]⟩), (.int .i64 0), (.int .i64 0), (.slice none 0 0)]) 4 0 []) fun c =>
  LT (.slice (some ⟨M.n, 0, none⟩) 0 0) (M.push (some (.inl (c, Ty.api_Done, true)))) fun t139 M1 =>
  OP2 (appV 4 Ty.api_Done t139 x10 M1) fun t141 M2 =>
  OP2 (appV 4 Ty.api_Done t141 x11 M2) fun t143 M3 =>
  OP (bldL (.agg #[(.string ⟨#[]⟩), (.int .i64 0), (.int .i64 0), (.slice none 0 0)]) 4 0 []) fun c_1 =>
  LT (.slice (some ⟨M3.n, 0, none⟩) 0 0) (M3.push (some (.inl (c_1, Ty.api_Done, true)))) fun t144 M4 =>
  OP2 (appV 4 Ty.api_Done t144 x11 M4) fun t146 M5 =>
  OP2 (appV 4 Ty.api_Done t146 x10 M5) fun t148 M6 =>
  OP (bldL (.slice none 0 0) 1 4 [(0, x10), (1, t143), (2, t148), (3, (.slice none 0 0))]) fun c_2 =>
  LT (.slice (some ⟨M6.n, 0, none⟩) 4 4) (M6.push (some (.inl (c_2, Ty.sl_api_Done, true)))) fun t149 M7 =>
  OP (lenV t149) fun t150 =>
  P_fettlelaw25_HistTells_8 x7 t149 t150 (.int .i64 0) M7 Q
theorem T_fettlelaw25_HistTells_6 {x7 x10 x11 : Value} {M : Store} {Q : Value → Store → Prop} (h : S_fettlelaw25_HistTells_6 x7 x10 x11 M Q) : P_fettlelaw25_HistTells_6 x7 x10 x11 M Q := by
  intro f h7 h10 h11; subst h7; subst h10; subst h11
  unfold At
  exact rule (B := 1000) (N := 228) (ct := (.two (.two .no (.two (.here 1000) .no)) (.here 1001)))
    [⟨1002, fun a M => dfr a.defers (P_fettlelaw25_HistTells_8 (a.get 7) (a.get 149) (a.get 150) (a.get 151) M Q), fun a M => At Try.prog Ex none Try.f13 [1, 1, 1, 1, 1, 1, 0, 1, 0] a M Q⟩,
    ⟨1003, fun _ _ => False, fun a M => At Try.prog Ex none Try.f13 [1, 1, 1, 1, 1, 1, 1] a M Q⟩]
    [1000, 1001] [] (by kernel_rfl) (by kernel_rfl) (by kernel_rfl) (by kernel_rfl) (by kernel_rfl)
    ⟨fun a M hn h => by obtain ⟨⟨n, f⟩, ds⟩ := a; have hn : n = 228 := hn; subst hn; obtain ⟨hd, h⟩ := dfr_iff h; have hd : ds = [] := hd; subst hd; exact h f rfl rfl rfl rfl,
    fun _ _ _ h => h.elim,
    trivial⟩
    (cast (by kernel_rfl) h)
def S_fettlelaw25_HistTells_7 (x1 x7 x10 x11 x12 x13 x62 x63 : Value) (M : Store) (Q : Value → Store → Prop) : Prop :=
  OP (ixA 4 x7 x12) fun t87 =>
  OP (fad 1 t87) fun t88 =>
  OP (ld 1 false t88 M) fun t89 =>
  OP (ixA 4 x7 x12) fun t92 =>
  OP (fad 0 t92) fun t93 =>
  OP (ld 1 false t93 M) fun t94 =>
  OP (bldS #[(.string ⟨#[]⟩), (.int .i64 0), (.int .i64 0), (.slice none 0 0)] [(0, 1), (1, 1), (2, 1), (3, 1)] [(0, t89), (1, t94), (2, x12), (3, x13)]) fun t97 =>
  LT (.pointer (some ⟨M.n, 0, none⟩)) (M.push (some (.inl ([(.string ⟨#[]⟩), (.int .i64 0), (.int .i64 0), (.slice none 0 0)], Ty.api_Done, true)))) fun t16 M1 =>
  OP (st 4 t16 t97 M1) fun M2 =>
  TDx [0, 0, 3, 7, 15, 0, 0, 96, 224, 480, 0, 0, 4095, 0, 16383] [M.n, M.n, M.n, M.n, M.n, M.n, M.n, M.n, M.n, M.n, M.n, M.n, M.n, M.n, M1.n] 14 M1 M2 ∧
  OP (lenV x1) fun t100 =>
  OP (binI .lss x12 t100) fun t101 =>
  BR t101 (
  OP (ixA 1 x1 x12) fun t104 =>
  OP (ld 1 false t104 M2) fun t105 =>
  OP (binI .and t105 (.int .i64 7)) fun t106 =>
  P_fettlelaw25_HistTells_9 x1 x7 x10 x11 t16 t106 x62 x63 M2 Q
  ) (
  P_fettlelaw25_HistTells_9 x1 x7 x10 x11 t16 (.int .i64 7) x62 x63 M2 Q
  )
theorem T_fettlelaw25_HistTells_7 {x1 x7 x10 x11 x12 x13 x62 x63 : Value} {M : Store} {Q : Value → Store → Prop} (h : S_fettlelaw25_HistTells_7 x1 x7 x10 x11 x12 x13 x62 x63 M Q) : P_fettlelaw25_HistTells_7 x1 x7 x10 x11 x12 x13 x62 x63 M Q := by
  intro f h1 h7 h10 h11 h12 h13 h62 h63; subst h1; subst h7; subst h10; subst h11; subst h12; subst h13; subst h62; subst h63
  unfold At
  exact rule (B := 1000) (N := 228) (ct := (.two .no (.two .no (.two .no (.here 1000)))))
    [⟨1002, fun a M => dfr a.defers (P_fettlelaw25_HistTells_9 (a.get 1) (a.get 7) (a.get 10) (a.get 11) (a.get 16) (a.get 17) (a.get 62) (a.get 63) M Q), fun a M => At Try.prog Ex none Try.f13 [1, 1, 1, 1, 1, 0, 1, 0, 0, 1, 1, 0, 0, 1, 1, 1, 1, 1, 1] a M Q⟩]
    [1000] [] (by kernel_rfl) (by kernel_rfl) (by kernel_rfl) (by kernel_rfl) (by kernel_rfl)
    ⟨fun a M hn h => by obtain ⟨⟨n, f⟩, ds⟩ := a; have hn : n = 228 := hn; subst hn; obtain ⟨hd, h⟩ := dfr_iff h; have hd : ds = [] := hd; subst hd; exact h f rfl rfl rfl rfl rfl rfl rfl rfl,
    trivial⟩
    (cast (by kernel_rfl) h)
def S_fettlelaw25_HistTells_8 (x7 x149 x150 x151 : Value) (M : Store) (Q : Value → Store → Prop) : Prop :=
  OP (binI .lss x151 x150) fun t152 =>
  BR t152 (
  P_fettlelaw25_HistTells_10 x7 x149 x150 x151 M Q
  ) (
  P_fettlelaw25_HistTells_11 x7 M Q
  )
theorem T_fettlelaw25_HistTells_8 {x7 x149 x150 x151 : Value} {M : Store} {Q : Value → Store → Prop} (h : S_fettlelaw25_HistTells_8 x7 x149 x150 x151 M Q) : P_fettlelaw25_HistTells_8 x7 x149 x150 x151 M Q := by
  intro f h7 h149 h150 h151; subst h7; subst h149; subst h150; subst h151
  unfold At
  refine cast (by kernel_rfl) (CW.loop (P := Try.prog) (E := Ex) (rd := none) (x := sub (bodyOf Try.f13) [1, 1, 1, 1, 1, 1, 0, 1, 0, 0]) (a := ⟨⟨228, f⟩, []⟩) (M := M) (K := kcont Try.prog Ex none (bodyOf Try.f13) [1, 1, 1, 1, 1, 1, 0, 1, 0] (kfin Try.prog Try.f13.results.toList Q)) ?_)
  exact rule (B := 1000) (N := 228) (ct := (.two .no (.two .no (.here 1000))))
    [⟨1002, fun a M => dfr a.defers (P_fettlelaw25_HistTells_10 (a.get 7) (a.get 149) (a.get 150) (a.get 151) M Q), fun a M => At Try.prog Ex none Try.f13 [1, 1, 1, 1, 1, 1, 0, 1, 0, 0, 1, 1] a M Q⟩,
    ⟨7, fun a M => dfr a.defers (P_fettlelaw25_HistTells_11 (a.get 7) M Q), fun a M => At Try.prog Ex none Try.f13 [1, 1, 1, 1, 1, 1, 1] a M Q⟩]
    [1000] [7] (by kernel_rfl) (by kernel_rfl) (by kernel_rfl) (by kernel_rfl) (by kernel_rfl)
    ⟨fun a M hn h => by obtain ⟨⟨n, f⟩, ds⟩ := a; have hn : n = 228 := hn; subst hn; obtain ⟨hd, h⟩ := dfr_iff h; have hd : ds = [] := hd; subst hd; exact h f rfl rfl rfl rfl,
    fun a M hn h => by obtain ⟨⟨n, f⟩, ds⟩ := a; have hn : n = 228 := hn; subst hn; obtain ⟨hd, h⟩ := dfr_iff h; have hd : ds = [] := hd; subst hd; exact h f rfl,
    trivial⟩
    (cast (by kernel_rfl) h)
def S_fettlelaw25_HistTells_9 (x1 x7 x10 x11 x16 x17 x62 x63 : Value) (M : Store) (Q : Value → Store → Prop) : Prop :=
  OP (binI .eql x17 (.int .i64 0)) fun t113 =>
  BR t113 (
  P_fettlelaw25_HistTells_12 x1 x7 x10 x11 x62 x63 M Q
  ) (
  OP (binI .eql x17 (.int .i64 1)) fun t115 =>
  BR t115 (
  OP (ld 4 true x16 M) fun t117 =>
  OP (ld 4 true x16 M) fun t118 =>
  OP (bldL (.agg #[(.string ⟨#[]⟩), (.int .i64 0), (.int .i64 0), (.slice none 0 0)]) 4 2 [(0, t117), (1, t118)]) fun c =>
  LT (.slice (some ⟨M.n, 0, none⟩) 2 2) (M.push (some (.inl (c, Ty.api_Done, true)))) fun t119 M1 =>
  OP2 (appV 4 Ty.api_Done x10 t119 M1) fun t120 M2 =>
  P_fettlelaw25_HistTells_12 x1 x7 t120 x11 x62 x63 M2 Q
  ) (
  OP (binI .eql x17 (.int .i64 2)) fun t122 =>
  BR t122 (
  OP (fad 1 x16) fun t123 =>
  OP (ld 1 false t123 M) fun t124 =>
  OP (binI .sub (.int .i64 1) t124) fun t125 =>
  OP (fad 1 x16) fun t126 =>
  OP (st 1 t126 t125 M) fun M3 =>
  OP (ld 4 true x16 M3) fun t128 =>
  OP (bldL (.agg #[(.string ⟨#[]⟩), (.int .i64 0), (.int .i64 0), (.slice none 0 0)]) 4 1 [(0, t128)]) fun c_1 =>
  LT (.slice (some ⟨M3.n, 0, none⟩) 1 1) (M3.push (some (.inl (c_1, Ty.api_Done, true)))) fun t129 M4 =>
  OP2 (appV 4 Ty.api_Done x10 t129 M4) fun t130 M5 =>
  P_fettlelaw25_HistTells_12 x1 x7 t130 x11 x62 x63 M5 Q
  ) (
  OP (binI .eql x17 (.int .i64 3)) fun t132 =>
  BR t132 (
  OP (ld 4 true x16 M) fun t134 =>
  OP (bldL (.agg #[(.string ⟨#[]⟩), (.int .i64 0), (.int .i64 0), (.slice none 0 0)]) 4 1 [(0, t134)]) fun c_2 =>
  LT (.slice (some ⟨M.n, 0, none⟩) 1 1) (M.push (some (.inl (c_2, Ty.api_Done, true)))) fun t135 M6 =>
  OP2 (appV 4 Ty.api_Done x11 t135 M6) fun t136 M7 =>
  P_fettlelaw25_HistTells_12 x1 x7 x10 t136 x62 x63 M7 Q
  ) (
  OP (ld 4 true x16 M) fun t109 =>
  OP (bldL (.agg #[(.string ⟨#[]⟩), (.int .i64 0), (.int .i64 0), (.slice none 0 0)]) 4 1 [(0, t109)]) fun c_3 =>
  LT (.slice (some ⟨M.n, 0, none⟩) 1 1) (M.push (some (.inl (c_3, Ty.api_Done, true)))) fun t110 M8 =>
  OP2 (appV 4 Ty.api_Done x10 t110 M8) fun t111 M9 =>
  P_fettlelaw25_HistTells_12 x1 x7 t111 x11 x62 x63 M9 Q
  )
  )
  )
  )
theorem T_fettlelaw25_HistTells_9 {x1 x7 x10 x11 x16 x17 x62 x63 : Value} {M : Store} {Q : Value → Store → Prop} (h : S_fettlelaw25_HistTells_9 x1 x7 x10 x11 x16 x17 x62 x63 M Q) : P_fettlelaw25_HistTells_9 x1 x7 x10 x11 x16 x17 x62 x63 M Q := by
  intro f h1 h7 h10 h11 h16 h17 h62 h63; subst h1; subst h7; subst h10; subst h11; subst h16; subst h17; subst h62; subst h63
  unfold At
  exact rule (B := 1000) (N := 228) (ct := .no)
    [⟨0, fun a M => dfr a.defers (P_fettlelaw25_HistTells_12 (a.get 1) (a.get 7) (a.get 10) (a.get 11) (a.get 62) (a.get 63) M Q), fun a M => At Try.prog Ex none Try.f13 [1, 1, 1, 1, 1, 0, 1, 0, 0, 1, 1, 1] a M Q⟩]
    [] [0] (by kernel_rfl) (by kernel_rfl) (by kernel_rfl) (by kernel_rfl) (by kernel_rfl)
    ⟨fun a M hn h => by obtain ⟨⟨n, f⟩, ds⟩ := a; have hn : n = 228 := hn; subst hn; obtain ⟨hd, h⟩ := dfr_iff h; have hd : ds = [] := hd; subst hd; exact h f rfl rfl rfl rfl rfl rfl,
    trivial⟩
    (cast (by kernel_rfl) h)
def S_fettlelaw25_HistTells_10 (x7 x149 x150 x151 : Value) (M : Store) (Q : Value → Store → Prop) : Prop :=
  OP (ixA 1 x149 x151) fun t153 =>
  OP (ld 1 false t153 M) fun t154 =>
  OP (lenV x7) fun t158 =>
  OP (binI .quo t158 (.int .i64 2)) fun t159 =>
  OP (slV 4 Ty.api_Commit x7 none (some t159) M) fun t160 =>
  OP (bldL (.slice none 0 0) 1 3 [(0, x7), (1, t160), (2, (.slice none 0 0))]) fun c =>
  LT (.slice (some ⟨M.n, 0, none⟩) 3 3) (M.push (some (.inl (c, Ty.sl_api_Commit, true)))) fun t161 M1 =>
  OP (lenV t161) fun t162 =>
  P_fettlelaw25_HistTells_13 x7 t154 x149 x150 x151 t161 t162 (.int .i64 0) M1 Q
theorem T_fettlelaw25_HistTells_10 {x7 x149 x150 x151 : Value} {M : Store} {Q : Value → Store → Prop} (h : S_fettlelaw25_HistTells_10 x7 x149 x150 x151 M Q) : P_fettlelaw25_HistTells_10 x7 x149 x150 x151 M Q := by
  intro f h7 h149 h150 h151; subst h7; subst h149; subst h150; subst h151
  unfold At
  exact rule (B := 1000) (N := 228) (ct := (.two (.two (.two .no (.two .no (.two (.here 1000) .no))) .no) (.here 1001)))
    [⟨1002, fun a M => dfr a.defers (P_fettlelaw25_HistTells_13 (a.get 7) (a.get 19) (a.get 149) (a.get 150) (a.get 151) (a.get 161) (a.get 162) (a.get 163) M Q), fun a M => At Try.prog Ex none Try.f13 [1, 1, 1, 1, 1, 1, 0, 1, 0, 0, 1, 1, 0, 0, 1, 1, 0] a M Q⟩,
    ⟨1003, fun _ _ => False, fun a M => At Try.prog Ex none Try.f13 [1, 1, 1, 1, 1, 1, 0, 1, 0, 0, 1, 1, 1] a M Q⟩]
    [1000, 1001] [] (by kernel_rfl) (by kernel_rfl) (by kernel_rfl) (by kernel_rfl) (by kernel_rfl)
    ⟨fun a M hn h => by obtain ⟨⟨n, f⟩, ds⟩ := a; have hn : n = 228 := hn; subst hn; obtain ⟨hd, h⟩ := dfr_iff h; have hd : ds = [] := hd; subst hd; exact h f rfl rfl rfl rfl rfl rfl rfl rfl,
    fun _ _ _ h => h.elim,
    trivial⟩
    (cast (by kernel_rfl) h)
def S_fettlelaw25_HistTells_11 (x7 : Value) (M : Store) (Q : Value → Store → Prop) : Prop :=
  P_fettlelaw25_HistTells_14 x7 (.int .i64 0) M Q
theorem T_fettlelaw25_HistTells_11 {x7 : Value} {M : Store} {Q : Value → Store → Prop} (h : S_fettlelaw25_HistTells_11 x7 M Q) : P_fettlelaw25_HistTells_11 x7 M Q := by
  intro f h7; subst h7
  unfold At
  exact rule (B := 1000) (N := 228) (ct := (.two (.two .no (.two (.here 1000) .no)) (.here 1001)))
    [⟨1002, fun a M => dfr a.defers (P_fettlelaw25_HistTells_14 (a.get 7) (a.get 22) M Q), fun a M => At Try.prog Ex none Try.f13 [1, 1, 1, 1, 1, 1, 1, 0, 1, 0] a M Q⟩,
    ⟨1003, fun _ _ => False, fun a M => At Try.prog Ex none Try.f13 [1, 1, 1, 1, 1, 1, 1, 1] a M Q⟩]
    [1000, 1001] [] (by kernel_rfl) (by kernel_rfl) (by kernel_rfl) (by kernel_rfl) (by kernel_rfl)
    ⟨fun a M hn h => by obtain ⟨⟨n, f⟩, ds⟩ := a; have hn : n = 228 := hn; subst hn; obtain ⟨hd, h⟩ := dfr_iff h; have hd : ds = [] := hd; subst hd; exact h f rfl rfl,
    fun _ _ _ h => h.elim,
    trivial⟩
    (cast (by kernel_rfl) h)
def S_fettlelaw25_HistTells_12 (x1 x7 x10 x11 x62 x63 : Value) (M : Store) (Q : Value → Store → Prop) : Prop :=
  OP (binI .add x63 (.int .i64 1)) fun t137 =>
  P_fettlelaw25_HistTells_4 x1 x7 x10 x11 x62 t137 M Q
theorem T_fettlelaw25_HistTells_12 {x1 x7 x10 x11 x62 x63 : Value} {M : Store} {Q : Value → Store → Prop} (h : S_fettlelaw25_HistTells_12 x1 x7 x10 x11 x62 x63 M Q) : P_fettlelaw25_HistTells_12 x1 x7 x10 x11 x62 x63 M Q := by
  intro f h1 h7 h10 h11 h62 h63; subst h1; subst h7; subst h10; subst h11; subst h62; subst h63
  unfold At
  exact rule (B := 1000) (N := 228) (ct := .no)
    [⟨0, fun a M => dfr a.defers (P_fettlelaw25_HistTells_4 (a.get 1) (a.get 7) (a.get 10) (a.get 11) (a.get 62) (a.get 63) M Q), fun a M => At Try.prog Ex none Try.f13 [1, 1, 1, 1, 1, 0, 1, 0] a M Q⟩]
    [] [0] (by kernel_rfl) (by kernel_rfl) (by kernel_rfl) (by kernel_rfl) (by kernel_rfl)
    ⟨fun a M hn h => by obtain ⟨⟨n, f⟩, ds⟩ := a; have hn : n = 228 := hn; subst hn; obtain ⟨hd, h⟩ := dfr_iff h; have hd : ds = [] := hd; subst hd; exact h f rfl rfl rfl rfl rfl rfl,
    trivial⟩
    (cast (by kernel_rfl) h)
def S_fettlelaw25_HistTells_13 (x7 x19 x149 x150 x151 x161 x162 x163 : Value) (M : Store) (Q : Value → Store → Prop) : Prop :=
  OP (binI .lss x163 x162) fun t164 =>
  BR t164 (
  P_fettlelaw25_HistTells_15 x7 x19 x149 x150 x151 x161 x162 x163 M Q
  ) (
  P_fettlelaw25_HistTells_16 x7 x149 x150 x151 M Q
  )
theorem T_fettlelaw25_HistTells_13 {x7 x19 x149 x150 x151 x161 x162 x163 : Value} {M : Store} {Q : Value → Store → Prop} (h : S_fettlelaw25_HistTells_13 x7 x19 x149 x150 x151 x161 x162 x163 M Q) : P_fettlelaw25_HistTells_13 x7 x19 x149 x150 x151 x161 x162 x163 M Q := by
  intro f h7 h19 h149 h150 h151 h161 h162 h163; subst h7; subst h19; subst h149; subst h150; subst h151; subst h161; subst h162; subst h163
  unfold At
  refine cast (by kernel_rfl) (CW.loop (P := Try.prog) (E := Ex) (rd := none) (x := sub (bodyOf Try.f13) [1, 1, 1, 1, 1, 1, 0, 1, 0, 0, 1, 1, 0, 0, 1, 1, 0, 0]) (a := ⟨⟨228, f⟩, []⟩) (M := M) (K := kcont Try.prog Ex none (bodyOf Try.f13) [1, 1, 1, 1, 1, 1, 0, 1, 0, 0, 1, 1, 0, 0, 1, 1, 0] (kfin Try.prog Try.f13.results.toList Q)) ?_)
  exact rule (B := 1000) (N := 228) (ct := (.two .no (.two .no (.here 1000))))
    [⟨1002, fun a M => dfr a.defers (P_fettlelaw25_HistTells_15 (a.get 7) (a.get 19) (a.get 149) (a.get 150) (a.get 151) (a.get 161) (a.get 162) (a.get 163) M Q), fun a M => At Try.prog Ex none Try.f13 [1, 1, 1, 1, 1, 1, 0, 1, 0, 0, 1, 1, 0, 0, 1, 1, 0, 0, 1, 1] a M Q⟩,
    ⟨9, fun a M => dfr a.defers (P_fettlelaw25_HistTells_16 (a.get 7) (a.get 149) (a.get 150) (a.get 151) M Q), fun a M => At Try.prog Ex none Try.f13 [1, 1, 1, 1, 1, 1, 0, 1, 0, 0, 1, 1, 1] a M Q⟩]
    [1000] [9] (by kernel_rfl) (by kernel_rfl) (by kernel_rfl) (by kernel_rfl) (by kernel_rfl)
    ⟨fun a M hn h => by obtain ⟨⟨n, f⟩, ds⟩ := a; have hn : n = 228 := hn; subst hn; obtain ⟨hd, h⟩ := dfr_iff h; have hd : ds = [] := hd; subst hd; exact h f rfl rfl rfl rfl rfl rfl rfl rfl,
    fun a M hn h => by obtain ⟨⟨n, f⟩, ds⟩ := a; have hn : n = 228 := hn; subst hn; obtain ⟨hd, h⟩ := dfr_iff h; have hd : ds = [] := hd; subst hd; exact h f rfl rfl rfl rfl,
    trivial⟩
    (cast (by kernel_rfl) h)
def S_fettlelaw25_HistTells_14 (x7 x22 : Value) (M : Store) (Q : Value → Store → Prop) : Prop :=
  OP (lenV x7) fun t178 =>
  OP (binI .leq x22 t178) fun t179 =>
  BR t179 (
  P_fettlelaw25_HistTells_17 x7 x22 M Q
  ) (
  P_fettlelaw25_HistTells_18 M Q
  )
theorem T_fettlelaw25_HistTells_14 {x7 x22 : Value} {M : Store} {Q : Value → Store → Prop} (h : S_fettlelaw25_HistTells_14 x7 x22 M Q) : P_fettlelaw25_HistTells_14 x7 x22 M Q := by
  intro f h7 h22; subst h7; subst h22
  unfold At
  refine cast (by kernel_rfl) (CW.loop (P := Try.prog) (E := Ex) (rd := none) (x := sub (bodyOf Try.f13) [1, 1, 1, 1, 1, 1, 1, 0, 1, 0, 0]) (a := ⟨⟨228, f⟩, []⟩) (M := M) (K := kcont Try.prog Ex none (bodyOf Try.f13) [1, 1, 1, 1, 1, 1, 1, 0, 1, 0] (kfin Try.prog Try.f13.results.toList Q)) ?_)
  exact rule (B := 1000) (N := 228) (ct := (.two .no (.here 1000)))
    [⟨1002, fun a M => dfr a.defers (P_fettlelaw25_HistTells_17 (a.get 7) (a.get 22) M Q), fun a M => At Try.prog Ex none Try.f13 [1, 1, 1, 1, 1, 1, 1, 0, 1, 0, 0, 1] a M Q⟩,
    ⟨11, fun a M => dfr a.defers (P_fettlelaw25_HistTells_18 M Q), fun a M => At Try.prog Ex none Try.f13 [1, 1, 1, 1, 1, 1, 1, 1] a M Q⟩]
    [1000] [11] (by kernel_rfl) (by kernel_rfl) (by kernel_rfl) (by kernel_rfl) (by kernel_rfl)
    ⟨fun a M hn h => by obtain ⟨⟨n, f⟩, ds⟩ := a; have hn : n = 228 := hn; subst hn; obtain ⟨hd, h⟩ := dfr_iff h; have hd : ds = [] := hd; subst hd; exact h f rfl rfl,
    fun a M hn h => by obtain ⟨⟨n, f⟩, ds⟩ := a; have hn : n = 228 := hn; subst hn; obtain ⟨hd, h⟩ := dfr_iff h; have hd : ds = [] := hd; subst hd; exact h f,
    trivial⟩
    (cast (by kernel_rfl) h)
def S_fettlelaw25_HistTells_15 (x7 x19 x149 x150 x151 x161 x162 x163 : Value) (M : Store) (Q : Value → Store → Prop) : Prop :=
  OP (ixA 1 x161 x163) fun t165 =>
  OP (ld 1 false t165 M) fun t166 =>
  R F.hist_Within #[x19, t166] M fun t169 M1 =>
  R F.fettleref10_Within #[x19, t166] M1 fun t172 M2 =>
  OP (abin Try.prog false .neq Ty.bool t169 t172) fun t173 =>
  BR t173 (
  NTs [(.bool false)] ∧ Q (.bool false) M2
  ) (
  OP (binI .add x163 (.int .i64 1)) fun t174 =>
  P_fettlelaw25_HistTells_13 x7 x19 x149 x150 x151 x161 x162 t174 M2 Q
  )
theorem T_fettlelaw25_HistTells_15 {x7 x19 x149 x150 x151 x161 x162 x163 : Value} {M : Store} {Q : Value → Store → Prop} (h : S_fettlelaw25_HistTells_15 x7 x19 x149 x150 x151 x161 x162 x163 M Q) : P_fettlelaw25_HistTells_15 x7 x19 x149 x150 x151 x161 x162 x163 M Q := by
  intro f h7 h19 h149 h150 h151 h161 h162 h163; subst h7; subst h19; subst h149; subst h150; subst h151; subst h161; subst h162; subst h163
  unfold At
  exact rule (B := 1000) (N := 228) (ct := .no)
    [⟨0, fun a M => dfr a.defers (P_fettlelaw25_HistTells_13 (a.get 7) (a.get 19) (a.get 149) (a.get 150) (a.get 151) (a.get 161) (a.get 162) (a.get 163) M Q), fun a M => At Try.prog Ex none Try.f13 [1, 1, 1, 1, 1, 1, 0, 1, 0, 0, 1, 1, 0, 0, 1, 1, 0] a M Q⟩,
    ⟨1, fun a M => kfin Try.prog Try.f13.results.toList Q 1 a M, fun a M => kfin Try.prog Try.f13.results.toList Q 1 a M⟩]
    [] [0, 1] (by kernel_rfl) (by kernel_rfl) (by kernel_rfl) (by kernel_rfl) (by kernel_rfl)
    ⟨fun a M hn h => by obtain ⟨⟨n, f⟩, ds⟩ := a; have hn : n = 228 := hn; subst hn; obtain ⟨hd, h⟩ := dfr_iff h; have hd : ds = [] := hd; subst hd; exact h f rfl rfl rfl rfl rfl rfl rfl rfl,
    fun _ _ _ h => h,
    trivial⟩
    (cast (by kernel_rfl) h)
def S_fettlelaw25_HistTells_16 (x7 x149 x150 x151 : Value) (M : Store) (Q : Value → Store → Prop) : Prop :=
  OP (binI .add x151 (.int .i64 1)) fun t175 =>
  P_fettlelaw25_HistTells_8 x7 x149 x150 t175 M Q
theorem T_fettlelaw25_HistTells_16 {x7 x149 x150 x151 : Value} {M : Store} {Q : Value → Store → Prop} (h : S_fettlelaw25_HistTells_16 x7 x149 x150 x151 M Q) : P_fettlelaw25_HistTells_16 x7 x149 x150 x151 M Q := by
  intro f h7 h149 h150 h151; subst h7; subst h149; subst h150; subst h151
  unfold At
  exact rule (B := 1000) (N := 228) (ct := .no)
    [⟨0, fun a M => dfr a.defers (P_fettlelaw25_HistTells_8 (a.get 7) (a.get 149) (a.get 150) (a.get 151) M Q), fun a M => At Try.prog Ex none Try.f13 [1, 1, 1, 1, 1, 1, 0, 1, 0] a M Q⟩]
    [] [0] (by kernel_rfl) (by kernel_rfl) (by kernel_rfl) (by kernel_rfl) (by kernel_rfl)
    ⟨fun a M hn h => by obtain ⟨⟨n, f⟩, ds⟩ := a; have hn : n = 228 := hn; subst hn; obtain ⟨hd, h⟩ := dfr_iff h; have hd : ds = [] := hd; subst hd; exact h f rfl rfl rfl rfl,
    trivial⟩
    (cast (by kernel_rfl) h)
def S_fettlelaw25_HistTells_17 (x7 x22 : Value) (M : Store) (Q : Value → Store → Prop) : Prop :=
  OP (bldL (.string ⟨#[]⟩) 1 3 [(0, (.string ⟨#[97]⟩)), (1, (.string ⟨#[98]⟩)), (2, (.string ⟨#[99]⟩))]) fun c =>
  LT (.slice (some ⟨M.n, 0, none⟩) 3 3) (M.push (some (.inl (c, Ty.string, true)))) fun t182 M1 =>
  OP (lenV t182) fun t183 =>
  P_fettlelaw25_HistTells_19 x7 x22 t182 t183 (.int .i64 0) M1 Q
theorem T_fettlelaw25_HistTells_17 {x7 x22 : Value} {M : Store} {Q : Value → Store → Prop} (h : S_fettlelaw25_HistTells_17 x7 x22 M Q) : P_fettlelaw25_HistTells_17 x7 x22 M Q := by
  intro f h7 h22; subst h7; subst h22
  unfold At
  exact rule (B := 1000) (N := 228) (ct := (.two (.two (.two (.two .no (.two (.here 1000) .no)) (.here 1001)) .no) (.here 1002)))
    [⟨1002, fun a M => dfr a.defers (P_fettlelaw25_HistTells_19 (a.get 7) (a.get 22) (a.get 182) (a.get 183) (a.get 184) M Q), fun a M => At Try.prog Ex none Try.f13 [1, 1, 1, 1, 1, 1, 1, 0, 1, 0, 0, 1, 0, 0, 0, 1, 0] a M Q⟩,
    ⟨1003, fun _ _ => False, fun a M => At Try.prog Ex none Try.f13 [1, 1, 1, 1, 1, 1, 1, 0, 1, 0, 0, 1, 0, 0, 1] a M Q⟩,
    ⟨1004, fun _ _ => False, fun a M => At Try.prog Ex none Try.f13 [1, 1, 1, 1, 1, 1, 1, 0, 1, 0, 0, 1, 1] a M Q⟩]
    [1000, 1001, 1002] [] (by kernel_rfl) (by kernel_rfl) (by kernel_rfl) (by kernel_rfl) (by kernel_rfl)
    ⟨fun a M hn h => by obtain ⟨⟨n, f⟩, ds⟩ := a; have hn : n = 228 := hn; subst hn; obtain ⟨hd, h⟩ := dfr_iff h; have hd : ds = [] := hd; subst hd; exact h f rfl rfl rfl rfl rfl,
    fun _ _ _ h => h.elim,
    fun _ _ _ h => h.elim,
    trivial⟩
    (cast (by kernel_rfl) h)
def S_fettlelaw25_HistTells_18 (M : Store) (Q : Value → Store → Prop) : Prop :=
  R F.fettlelaw25_awake #[] M fun t227 M1 =>
  NTs [t227] ∧ Q t227 M1
theorem T_fettlelaw25_HistTells_18 {M : Store} {Q : Value → Store → Prop} (h : S_fettlelaw25_HistTells_18 M Q) : P_fettlelaw25_HistTells_18 M Q := by
  intro f 
  unfold At
  exact rule (B := 1000) (N := 228) (ct := .no)
    [⟨1, fun a M => kfin Try.prog Try.f13.results.toList Q 1 a M, fun a M => kfin Try.prog Try.f13.results.toList Q 1 a M⟩]
    [] [1] (by kernel_rfl) (by kernel_rfl) (by kernel_rfl) (by kernel_rfl) (by kernel_rfl)
    ⟨fun _ _ _ h => h,
    trivial⟩
    (cast (by kernel_rfl) h)
def S_fettlelaw25_HistTells_19 (x7 x22 x182 x183 x184 : Value) (M : Store) (Q : Value → Store → Prop) : Prop :=
  OP (binI .lss x184 x183) fun t185 =>
  BR t185 (
  P_fettlelaw25_HistTells_20 x7 x22 x182 x183 x184 M Q
  ) (
  P_fettlelaw25_HistTells_21 x7 x22 M Q
  )
theorem T_fettlelaw25_HistTells_19 {x7 x22 x182 x183 x184 : Value} {M : Store} {Q : Value → Store → Prop} (h : S_fettlelaw25_HistTells_19 x7 x22 x182 x183 x184 M Q) : P_fettlelaw25_HistTells_19 x7 x22 x182 x183 x184 M Q := by
  intro f h7 h22 h182 h183 h184; subst h7; subst h22; subst h182; subst h183; subst h184
  unfold At
  refine cast (by kernel_rfl) (CW.loop (P := Try.prog) (E := Ex) (rd := none) (x := sub (bodyOf Try.f13) [1, 1, 1, 1, 1, 1, 1, 0, 1, 0, 0, 1, 0, 0, 0, 1, 0, 0]) (a := ⟨⟨228, f⟩, []⟩) (M := M) (K := kcont Try.prog Ex none (bodyOf Try.f13) [1, 1, 1, 1, 1, 1, 1, 0, 1, 0, 0, 1, 0, 0, 0, 1, 0] (kfin Try.prog Try.f13.results.toList Q)) ?_)
  exact rule (B := 1000) (N := 228) (ct := (.two .no (.two .no (.here 1000))))
    [⟨1002, fun a M => dfr a.defers (P_fettlelaw25_HistTells_20 (a.get 7) (a.get 22) (a.get 182) (a.get 183) (a.get 184) M Q), fun a M => At Try.prog Ex none Try.f13 [1, 1, 1, 1, 1, 1, 1, 0, 1, 0, 0, 1, 0, 0, 0, 1, 0, 0, 1, 1] a M Q⟩,
    ⟨13, fun a M => dfr a.defers (P_fettlelaw25_HistTells_21 (a.get 7) (a.get 22) M Q), fun a M => At Try.prog Ex none Try.f13 [1, 1, 1, 1, 1, 1, 1, 0, 1, 0, 0, 1, 0, 0, 1] a M Q⟩]
    [1000] [13] (by kernel_rfl) (by kernel_rfl) (by kernel_rfl) (by kernel_rfl) (by kernel_rfl)
    ⟨fun a M hn h => by obtain ⟨⟨n, f⟩, ds⟩ := a; have hn : n = 228 := hn; subst hn; obtain ⟨hd, h⟩ := dfr_iff h; have hd : ds = [] := hd; subst hd; exact h f rfl rfl rfl rfl rfl,
    fun a M hn h => by obtain ⟨⟨n, f⟩, ds⟩ := a; have hn : n = 228 := hn; subst hn; obtain ⟨hd, h⟩ := dfr_iff h; have hd : ds = [] := hd; subst hd; exact h f rfl rfl,
    trivial⟩
    (cast (by kernel_rfl) h)
def S_fettlelaw25_HistTells_20 (x7 x22 x182 x183 x184 : Value) (M : Store) (Q : Value → Store → Prop) : Prop :=
  OP (ixA 1 x182 x184) fun t186 =>
  OP (ld 1 false t186 M) fun t187 =>
  OP (slV 4 Ty.api_Commit x7 none (some x22) M) fun t191 =>
  R F.hist_Last #[t191, t187] M fun t193 M1 =>
  OP (tup t193 0) fun t194 =>
  OP (tup t193 1) fun t195 =>
  OP (slV 4 Ty.api_Commit x7 none (some x22) M1) fun t199 =>
  R F.fettleref10_Last #[t199, t187] M1 fun t201 M2 =>
  OP (tup t201 0) fun t202 =>
  OP (tup t201 1) fun t203 =>
  OP (abin Try.prog false .neq Ty.bool t195 t203) fun t206 =>
  BR t206 (
  NTs [(.bool false)] ∧ Q (.bool false) M2
  ) (
  OP (cvBS t194 M2) fun t209 =>
  OP (cvBS t202 M2) fun t211 =>
  OP (binS .neq t209 t211) fun t212 =>
  BR3 t212 (
  BR t195 (
  NTs [(.bool false)] ∧ Q (.bool false) M2
  ) (
  OP (binI .add x184 (.int .i64 1)) fun t217 =>
  P_fettlelaw25_HistTells_19 x7 x22 x182 x183 t217 M2 Q
  )
  ) (
  OP (binI .add x184 (.int .i64 1)) fun t217_1 =>
  P_fettlelaw25_HistTells_19 x7 x22 x182 x183 t217_1 M2 Q
  ) (
  BR t212 (
  BR undef (
  NTs [(.bool false)] ∧ Q (.bool false) M2
  ) (
  OP (binI .add x184 (.int .i64 1)) fun t217_2 =>
  P_fettlelaw25_HistTells_19 x7 x22 x182 x183 t217_2 M2 Q
  )
  ) (
  OP (binI .add x184 (.int .i64 1)) fun t217_3 =>
  P_fettlelaw25_HistTells_19 x7 x22 x182 x183 t217_3 M2 Q
  )
  )
  )
theorem T_fettlelaw25_HistTells_20 {x7 x22 x182 x183 x184 : Value} {M : Store} {Q : Value → Store → Prop} (h : S_fettlelaw25_HistTells_20 x7 x22 x182 x183 x184 M Q) : P_fettlelaw25_HistTells_20 x7 x22 x182 x183 x184 M Q := by
  intro f h7 h22 h182 h183 h184; subst h7; subst h22; subst h182; subst h183; subst h184
  unfold At
  exact rule (B := 1000) (N := 228) (ct := .no)
    [⟨0, fun a M => dfr a.defers (P_fettlelaw25_HistTells_19 (a.get 7) (a.get 22) (a.get 182) (a.get 183) (a.get 184) M Q), fun a M => At Try.prog Ex none Try.f13 [1, 1, 1, 1, 1, 1, 1, 0, 1, 0, 0, 1, 0, 0, 0, 1, 0] a M Q⟩,
    ⟨1, fun a M => kfin Try.prog Try.f13.results.toList Q 1 a M, fun a M => kfin Try.prog Try.f13.results.toList Q 1 a M⟩]
    [] [0, 1] (by kernel_rfl) (by kernel_rfl) (by kernel_rfl) (by kernel_rfl) (by kernel_rfl)
    ⟨fun a M hn h => by obtain ⟨⟨n, f⟩, ds⟩ := a; have hn : n = 228 := hn; subst hn; obtain ⟨hd, h⟩ := dfr_iff h; have hd : ds = [] := hd; subst hd; exact h f rfl rfl rfl rfl rfl,
    fun _ _ _ h => h,
    trivial⟩
    (cast (by kernel_rfl) h)
def S_fettlelaw25_HistTells_21 (x7 x22 : Value) (M : Store) (Q : Value → Store → Prop) : Prop :=
  OP (slV 4 Ty.api_Commit x7 none (some x22) M) fun t220 =>
  R F.hist_Honest #[t220] M fun t221 M1 =>
  TDj [0, 1, 2] [M.n, M.n, M.n, M.n] M M1 ∧
  OP (slV 4 Ty.api_Commit x7 none (some x22) M1) fun t224 =>
  R F.fettleref10_Honest #[t224] M1 fun t225 M2 =>
  TDx [0, 0, 3, 7, 0, 0, 48, 127, 255] [M.n, M.n, M.n, M.n, M1.n, M1.n, M1.n, M1.n] 7 M1 M2 ∧
  OP (abin Try.prog false .neq Ty.bool t221 t225) fun t226 =>
  BR t226 (
  NTs [(.bool false)] ∧ Q (.bool false) M2
  ) (
  P_fettlelaw25_HistTells_22 x7 x22 M2 Q
  )
theorem T_fettlelaw25_HistTells_21 {x7 x22 : Value} {M : Store} {Q : Value → Store → Prop} (h : S_fettlelaw25_HistTells_21 x7 x22 M Q) : P_fettlelaw25_HistTells_21 x7 x22 M Q := by
  intro f h7 h22; subst h7; subst h22
  unfold At
  exact rule (B := 1000) (N := 228) (ct := .no)
    [⟨0, fun a M => dfr a.defers (P_fettlelaw25_HistTells_22 (a.get 7) (a.get 22) M Q), fun a M => At Try.prog Ex none Try.f13 [1, 1, 1, 1, 1, 1, 1, 0, 1, 0, 0, 1, 1] a M Q⟩,
    ⟨1, fun a M => kfin Try.prog Try.f13.results.toList Q 1 a M, fun a M => kfin Try.prog Try.f13.results.toList Q 1 a M⟩]
    [] [0, 1] (by kernel_rfl) (by kernel_rfl) (by kernel_rfl) (by kernel_rfl) (by kernel_rfl)
    ⟨fun a M hn h => by obtain ⟨⟨n, f⟩, ds⟩ := a; have hn : n = 228 := hn; subst hn; obtain ⟨hd, h⟩ := dfr_iff h; have hd : ds = [] := hd; subst hd; exact h f rfl rfl,
    fun _ _ _ h => h,
    trivial⟩
    (cast (by kernel_rfl) h)
def S_fettlelaw25_HistTells_22 (x7 x22 : Value) (M : Store) (Q : Value → Store → Prop) : Prop :=
  OP (binI .add x22 (.int .i64 1)) fun t181 =>
  P_fettlelaw25_HistTells_14 x7 t181 M Q
theorem T_fettlelaw25_HistTells_22 {x7 x22 : Value} {M : Store} {Q : Value → Store → Prop} (h : S_fettlelaw25_HistTells_22 x7 x22 M Q) : P_fettlelaw25_HistTells_22 x7 x22 M Q := by
  intro f h7 h22; subst h7; subst h22
  unfold At
  exact rule (B := 1000) (N := 228) (ct := .no)
    [⟨0, fun a M => dfr a.defers (P_fettlelaw25_HistTells_14 (a.get 7) (a.get 22) M Q), fun a M => At Try.prog Ex none Try.f13 [1, 1, 1, 1, 1, 1, 1, 0, 1, 0] a M Q⟩]
    [] [0] (by kernel_rfl) (by kernel_rfl) (by kernel_rfl) (by kernel_rfl) (by kernel_rfl)
    ⟨fun a M hn h => by obtain ⟨⟨n, f⟩, ds⟩ := a; have hn : n = 228 := hn; subst hn; obtain ⟨hd, h⟩ := dfr_iff h; have hd : ds = [] := hd; subst hd; exact h f rfl rfl,
    trivial⟩
    (cast (by kernel_rfl) h)
end Go.G
