/- ... -/
import Derived.Test.YtnonfejhkbaikaaPGN
open Go.RowKit
namespace Go.G
open Go.Ab Go.Proofs
set_option linter.unusedVariables false
set_option maxRecDepth 100000
def P_r4_Needs_1 (x1 x2 x5 x6 : Value) (M : Store) (Q : KP) : Prop :=
  ∀ f : Nat → Value, f 1 = x1 → f 2 = x2 → f 5 = x5 → f 6 = x6 → At Try.prog Ex none Try.f22 [1, 1, 0, 1, 0] ⟨⟨95, f⟩, []⟩ M Q
def P_r4_Needs_2 (x1 x2 x5 x6 x7 x8 : Value) (M : Store) (Q : KP) : Prop :=
  ∀ f : Nat → Value, f 1 = x1 → f 2 = x2 → f 5 = x5 → f 6 = x6 → f 7 = x7 → f 8 = x8 → At Try.prog Ex none Try.f22 [1, 1, 0, 1, 0, 0, 1, 0, 0, 1, 0, 1, 0] ⟨⟨95, f⟩, []⟩ M Q
def P_r4_Needs_3 (x5 : Value) (M : Store) (Q : KP) : Prop :=
  ∀ f : Nat → Value, f 5 = x5 → At Try.prog Ex none Try.f22 [1, 1, 1] ⟨⟨95, f⟩, []⟩ M Q
def P_r4_Needs_4 (x1 x2 x5 x6 x7 x8 : Value) (M : Store) (Q : KP) : Prop :=
  ∀ f : Nat → Value, f 1 = x1 → f 2 = x2 → f 5 = x5 → f 6 = x6 → f 7 = x7 → f 8 = x8 → At Try.prog Ex none Try.f22 [1, 1, 0, 1, 0, 0, 1, 0, 0, 1, 0, 1, 0, 0, 1] ⟨⟨95, f⟩, []⟩ M Q
def P_r4_Needs_5 (x1 x2 x5 x6 x7 : Value) (M : Store) (Q : KP) : Prop :=
  ∀ f : Nat → Value, f 1 = x1 → f 2 = x2 → f 5 = x5 → f 6 = x6 → f 7 = x7 → At Try.prog Ex none Try.f22 [1, 1, 0, 1, 0, 0, 1, 0, 0, 1, 1] ⟨⟨95, f⟩, []⟩ M Q
def P_r4_Needs_6 (x1 x2 x5 x6 x7 x8 x9 x10 : Value) (M : Store) (Q : KP) : Prop :=
  ∀ f : Nat → Value, f 1 = x1 → f 2 = x2 → f 5 = x5 → f 6 = x6 → f 7 = x7 → f 8 = x8 → f 9 = x9 → f 10 = x10 → At Try.prog Ex none Try.f22 [1, 1, 0, 1, 0, 0, 1, 0, 0, 1, 0, 1, 0, 0, 1, 0, 0, 1, 0, 1, 0] ⟨⟨95, f⟩, []⟩ M Q
def P_r4_Needs_7 (x1 x2 x5 x6 : Value) (M : Store) (Q : KP) : Prop :=
  ∀ f : Nat → Value, f 1 = x1 → f 2 = x2 → f 5 = x5 → f 6 = x6 → At Try.prog Ex none Try.f22 [1, 1, 0, 1, 0, 0, 1, 1] ⟨⟨95, f⟩, []⟩ M Q
def P_r4_Needs_8 (x1 x2 x5 x6 x7 x8 x9 x10 : Value) (M : Store) (Q : KP) : Prop :=
  ∀ f : Nat → Value, f 1 = x1 → f 2 = x2 → f 5 = x5 → f 6 = x6 → f 7 = x7 → f 8 = x8 → f 9 = x9 → f 10 = x10 → At Try.prog Ex none Try.f22 [1, 1, 0, 1, 0, 0, 1, 0, 0, 1, 0, 1, 0, 0, 1, 0, 0, 1, 0, 1, 0, 0, 1] ⟨⟨95, f⟩, []⟩ M Q
def P_r4_Needs_9 (x1 x2 x5 x6 x7 x8 x9 : Value) (M : Store) (Q : KP) : Prop :=
  ∀ f : Nat → Value, f 1 = x1 → f 2 = x2 → f 5 = x5 → f 6 = x6 → f 7 = x7 → f 8 = x8 → f 9 = x9 → At Try.prog Ex none Try.f22 [1, 1, 0, 1, 0, 0, 1, 0, 0, 1, 0, 1, 0, 0, 1, 0, 0, 1, 1] ⟨⟨95, f⟩, []⟩ M Q
def P_r4_Needs_10 (x1 x2 x5 x6 x7 x8 x9 x11 : Value) (M : Store) (Q : KP) : Prop :=
  ∀ f : Nat → Value, f 1 = x1 → f 2 = x2 → f 5 = x5 → f 6 = x6 → f 7 = x7 → f 8 = x8 → f 9 = x9 → f 11 = x11 → At Try.prog Ex none Try.f22 [1, 1, 0, 1, 0, 0, 1, 0, 0, 1, 0, 1, 0, 0, 1, 0, 0, 1, 1, 1, 0] ⟨⟨95, f⟩, []⟩ M Q
def P_r4_Needs_11 (x1 x2 x5 x6 x7 x8 x9 x11 : Value) (M : Store) (Q : KP) : Prop :=
  ∀ f : Nat → Value, f 1 = x1 → f 2 = x2 → f 5 = x5 → f 6 = x6 → f 7 = x7 → f 8 = x8 → f 9 = x9 → f 11 = x11 → At Try.prog Ex none Try.f22 [1, 1, 0, 1, 0, 0, 1, 0, 0, 1, 0, 1, 0, 0, 1, 0, 0, 1, 1, 1, 0, 0, 1] ⟨⟨95, f⟩, []⟩ M Q
def P_r4_Needs_12 (x1 x2 x5 x6 x7 x8 : Value) (M : Store) (Q : KP) : Prop :=
  ∀ f : Nat → Value, f 1 = x1 → f 2 = x2 → f 5 = x5 → f 6 = x6 → f 7 = x7 → f 8 = x8 → At Try.prog Ex none Try.f22 [1, 1, 0, 1, 0, 0, 1, 0, 0, 1, 0, 1, 0, 0, 1, 1] ⟨⟨95, f⟩, []⟩ M Q
def S_r4_Needs (x0 x1 : Value) (M : Store) (Q : KP) : Prop :=
  OP (boxv x0) fun c =>
  LT (.pointer (some ⟨M.n, 0, none⟩)) (M.push (some (.inl (c, Ty.api_Manifest, true)))) fun t2 M1 =>
  P_r4_Needs_1 x1 t2 (.slice none 0 0) (.int .i64 0) M1 Q
theorem T_r4_Needs {x0 x1 : Value} {M : Store} {Q : KP} (h : S_r4_Needs x0 x1 M Q) : R F.r4_Needs #[x0, x1] M Q := by
  refine runs_of (c := bodyOf Try.f22) Try.func22 rfl (by kernel_rfl) (by kernel_rfl) ?_
  unfold At
  exact rule (B := 1000) (N := 95) (ct := (.two .no (.two .no (.two (.two .no (.two (.here 1000) .no)) (.here 1001)))))
    [⟨1002, fun a M => dfr a.defers (P_r4_Needs_1 (a.get 1) (a.get 2) (a.get 5) (a.get 6) M Q), fun a M => At Try.prog Ex none Try.f22 [1, 1, 0, 1, 0] a M Q⟩,
    ⟨1003, fun _ _ => False, fun a M => At Try.prog Ex none Try.f22 [1, 1, 1] a M Q⟩]
    [1000, 1001] [] (by kernel_rfl) (by kernel_rfl) (by kernel_rfl) (by kernel_rfl) (by kernel_rfl)
    ⟨fun a M hn h => by obtain ⟨⟨n, f⟩, ds⟩ := a; have hn : n = 95 := hn; subst hn; obtain ⟨hd, h⟩ := dfr_iff h; have hd : ds = [] := hd; subst hd; exact h f rfl rfl rfl rfl,
    fun _ _ _ h => h.elim,
    trivial⟩
    (cast (by kernel_rfl) h)
def S_r4_Needs_1 (x1 x2 x5 x6 : Value) (M : Store) (Q : KP) : Prop :=
  OP (fad 0 x2) fun t13 =>
  OP (ld 1 false t13 M) fun t14 =>
  OP (lenV t14) fun t15 =>
  OP (binI .lss x6 t15) fun t16 =>
  BR t16 (
  P_r4_Needs_2 x1 x2 x5 x6 (.bool false) (.int .i64 0) M Q
  ) (
  P_r4_Needs_3 x5 M Q
  )
theorem T_r4_Needs_1 {x1 x2 x5 x6 : Value} {M : Store} {Q : KP} (h : S_r4_Needs_1 x1 x2 x5 x6 M Q) : P_r4_Needs_1 x1 x2 x5 x6 M Q := by
  intro f h1 h2 h5 h6; subst h1; subst h2; subst h5; subst h6
  unfold At
  refine cast (by kernel_rfl) (CW.loop (P := Try.prog) (E := Ex) (rd := none) (x := sub (bodyOf Try.f22) [1, 1, 0, 1, 0, 0]) (a := ⟨⟨95, f⟩, []⟩) (M := M) (K := kcont Try.prog Ex none (bodyOf Try.f22) [1, 1, 0, 1, 0] (kfin Try.prog Try.f22.results.toList Q)) ?_)
  exact rule (B := 1000) (N := 95) (ct := (.two .no (.two (.two (.two .no (.two (.two .no (.two (.here 1000) .no)) (.here 1001))) .no) (.here 1002))))
    [⟨1002, fun a M => dfr a.defers (P_r4_Needs_2 (a.get 1) (a.get 2) (a.get 5) (a.get 6) (a.get 7) (a.get 8) M Q), fun a M => At Try.prog Ex none Try.f22 [1, 1, 0, 1, 0, 0, 1, 0, 0, 1, 0, 1, 0] a M Q⟩,
    ⟨1003, fun _ _ => False, fun a M => At Try.prog Ex none Try.f22 [1, 1, 0, 1, 0, 0, 1, 0, 0, 1, 1] a M Q⟩,
    ⟨1004, fun _ _ => False, fun a M => At Try.prog Ex none Try.f22 [1, 1, 0, 1, 0, 0, 1, 1] a M Q⟩,
    ⟨2, fun a M => dfr a.defers (P_r4_Needs_3 (a.get 5) M Q), fun a M => At Try.prog Ex none Try.f22 [1, 1, 1] a M Q⟩]
    [1000, 1001, 1002] [2] (by kernel_rfl) (by kernel_rfl) (by kernel_rfl) (by kernel_rfl) (by kernel_rfl)
    ⟨fun a M hn h => by obtain ⟨⟨n, f⟩, ds⟩ := a; have hn : n = 95 := hn; subst hn; obtain ⟨hd, h⟩ := dfr_iff h; have hd : ds = [] := hd; subst hd; exact h f rfl rfl rfl rfl rfl rfl,
    fun _ _ _ h => h.elim,
    fun _ _ _ h => h.elim,
    fun a M hn h => by obtain ⟨⟨n, f⟩, ds⟩ := a; have hn : n = 95 := hn; subst hn; obtain ⟨hd, h⟩ := dfr_iff h; have hd : ds = [] := hd; subst hd; exact h f rfl,
    trivial⟩
    (cast (by kernel_rfl) h)
def S_r4_Needs_2 (x1 x2 x5 x6 x7 x8 : Value) (M : Store) (Q : KP) : Prop :=
  OP (fad 0 x2) fun t20 =>
  OP (ld 1 false t20 M) fun t21 =>
  OP (ixA 5 t21 x6) fun t23 =>
  OP (fad 0 t23) fun t24 =>
  OP (ld 1 false t24 M) fun t25 =>
  OP (lenV t25) fun t26 =>
  OP (binI .lss x8 t26) fun t27 =>
  BR t27 (
  P_r4_Needs_4 x1 x2 x5 x6 x7 x8 M Q
  ) (
  P_r4_Needs_5 x1 x2 x5 x6 x7 M Q
  )
theorem T_r4_Needs_2 {x1 x2 x5 x6 x7 x8 : Value} {M : Store} {Q : KP} (h : S_r4_Needs_2 x1 x2 x5 x6 x7 x8 M Q) : P_r4_Needs_2 x1 x2 x5 x6 x7 x8 M Q := by
  intro f h1 h2 h5 h6 h7 h8; subst h1; subst h2; subst h5; subst h6; subst h7; subst h8
  unfold At
  refine cast (by kernel_rfl) (CW.loop (P := Try.prog) (E := Ex) (rd := none) (x := sub (bodyOf Try.f22) [1, 1, 0, 1, 0, 0, 1, 0, 0, 1, 0, 1, 0, 0]) (a := ⟨⟨95, f⟩, []⟩) (M := M) (K := kcont Try.prog Ex none (bodyOf Try.f22) [1, 1, 0, 1, 0, 0, 1, 0, 0, 1, 0, 1, 0] (kfin Try.prog Try.f22.results.toList Q)) ?_)
  exact rule (B := 1000) (N := 95) (ct := (.two .no (.here 1000)))
    [⟨1002, fun a M => dfr a.defers (P_r4_Needs_4 (a.get 1) (a.get 2) (a.get 5) (a.get 6) (a.get 7) (a.get 8) M Q), fun a M => At Try.prog Ex none Try.f22 [1, 1, 0, 1, 0, 0, 1, 0, 0, 1, 0, 1, 0, 0, 1] a M Q⟩,
    ⟨4, fun a M => dfr a.defers (P_r4_Needs_5 (a.get 1) (a.get 2) (a.get 5) (a.get 6) (a.get 7) M Q), fun a M => At Try.prog Ex none Try.f22 [1, 1, 0, 1, 0, 0, 1, 0, 0, 1, 1] a M Q⟩]
    [1000] [4] (by kernel_rfl) (by kernel_rfl) (by kernel_rfl) (by kernel_rfl) (by kernel_rfl)
    ⟨fun a M hn h => by obtain ⟨⟨n, f⟩, ds⟩ := a; have hn : n = 95 := hn; subst hn; obtain ⟨hd, h⟩ := dfr_iff h; have hd : ds = [] := hd; subst hd; exact h f rfl rfl rfl rfl rfl rfl,
    fun a M hn h => by obtain ⟨⟨n, f⟩, ds⟩ := a; have hn : n = 95 := hn; subst hn; obtain ⟨hd, h⟩ := dfr_iff h; have hd : ds = [] := hd; subst hd; exact h f rfl rfl rfl rfl rfl,
    trivial⟩
    (cast (by kernel_rfl) h)
def S_r4_Needs_3 (x5 : Value) (M : Store) (Q : KP) : Prop :=
  NTs [x5] ∧ Q x5 M
theorem T_r4_Needs_3 {x5 : Value} {M : Store} {Q : KP} (h : S_r4_Needs_3 x5 M Q) : P_r4_Needs_3 x5 M Q := by
  intro f h5; subst h5
  unfold At
  exact rule (B := 1000) (N := 95) (ct := .no)
    [⟨1, fun a M => kfin Try.prog Try.f22.results.toList Q 1 a M, fun a M => kfin Try.prog Try.f22.results.toList Q 1 a M⟩]
    [] [1] (by kernel_rfl) (by kernel_rfl) (by kernel_rfl) (by kernel_rfl) (by kernel_rfl)
    ⟨fun _ _ _ h => h,
    trivial⟩
    (cast (by kernel_rfl) h)
def S_r4_Needs_4 (x1 x2 x5 x6 x7 x8 : Value) (M : Store) (Q : KP) : Prop :=
  OP (fad 0 x2) fun t30 =>
  OP (ld 1 false t30 M) fun t31 =>
  OP (ixA 5 t31 x6) fun t33 =>
  OP (fad 0 t33) fun t34 =>
  OP (ld 1 false t34 M) fun t35 =>
  OP (ixA 1 t35 x8) fun t37 =>
  OP (ld 1 false t37 M) fun t38 =>
  P_r4_Needs_6 x1 x2 x5 x6 x7 x8 t38 (.int .i64 0) M Q
theorem T_r4_Needs_4 {x1 x2 x5 x6 x7 x8 : Value} {M : Store} {Q : KP} (h : S_r4_Needs_4 x1 x2 x5 x6 x7 x8 M Q) : P_r4_Needs_4 x1 x2 x5 x6 x7 x8 M Q := by
  intro f h1 h2 h5 h6 h7 h8; subst h1; subst h2; subst h5; subst h6; subst h7; subst h8
  unfold At
  exact rule (B := 1000) (N := 95) (ct := (.two (.two (.two .no (.two (.two .no (.two (.here 1000) .no)) (.here 1001))) .no) (.here 1002)))
    [⟨1002, fun a M => dfr a.defers (P_r4_Needs_6 (a.get 1) (a.get 2) (a.get 5) (a.get 6) (a.get 7) (a.get 8) (a.get 9) (a.get 10) M Q), fun a M => At Try.prog Ex none Try.f22 [1, 1, 0, 1, 0, 0, 1, 0, 0, 1, 0, 1, 0, 0, 1, 0, 0, 1, 0, 1, 0] a M Q⟩,
    ⟨1003, fun _ _ => False, fun a M => At Try.prog Ex none Try.f22 [1, 1, 0, 1, 0, 0, 1, 0, 0, 1, 0, 1, 0, 0, 1, 0, 0, 1, 1] a M Q⟩,
    ⟨1004, fun _ _ => False, fun a M => At Try.prog Ex none Try.f22 [1, 1, 0, 1, 0, 0, 1, 0, 0, 1, 0, 1, 0, 0, 1, 1] a M Q⟩]
    [1000, 1001, 1002] [] (by kernel_rfl) (by kernel_rfl) (by kernel_rfl) (by kernel_rfl) (by kernel_rfl)
    ⟨fun a M hn h => by obtain ⟨⟨n, f⟩, ds⟩ := a; have hn : n = 95 := hn; subst hn; obtain ⟨hd, h⟩ := dfr_iff h; have hd : ds = [] := hd; subst hd; exact h f rfl rfl rfl rfl rfl rfl rfl rfl,
    fun _ _ _ h => h.elim,
    fun _ _ _ h => h.elim,
    trivial⟩
    (cast (by kernel_rfl) h)
def S_r4_Needs_5 (x1 x2 x5 x6 x7 : Value) (M : Store) (Q : KP) : Prop :=
  BR x7 (
  OP (bldL (.int .i64 0) 1 1 [(0, x6)]) fun c =>
  LT (.slice (some ⟨M.n, 0, none⟩) 1 1) (M.push (some (.inl (c, Ty.int, true)))) fun t92 M1 =>
  OP2 (appV 1 Ty.int x5 t92 M1) fun t93 M2 =>
  P_r4_Needs_7 x1 x2 t93 x6 M2 Q
  ) (
  P_r4_Needs_7 x1 x2 x5 x6 M Q
  )
theorem T_r4_Needs_5 {x1 x2 x5 x6 x7 : Value} {M : Store} {Q : KP} (h : S_r4_Needs_5 x1 x2 x5 x6 x7 M Q) : P_r4_Needs_5 x1 x2 x5 x6 x7 M Q := by
  intro f h1 h2 h5 h6 h7; subst h1; subst h2; subst h5; subst h6; subst h7
  unfold At
  exact rule (B := 1000) (N := 95) (ct := .no)
    [⟨0, fun a M => dfr a.defers (P_r4_Needs_7 (a.get 1) (a.get 2) (a.get 5) (a.get 6) M Q), fun a M => At Try.prog Ex none Try.f22 [1, 1, 0, 1, 0, 0, 1, 1] a M Q⟩]
    [] [0] (by kernel_rfl) (by kernel_rfl) (by kernel_rfl) (by kernel_rfl) (by kernel_rfl)
    ⟨fun a M hn h => by obtain ⟨⟨n, f⟩, ds⟩ := a; have hn : n = 95 := hn; subst hn; obtain ⟨hd, h⟩ := dfr_iff h; have hd : ds = [] := hd; subst hd; exact h f rfl rfl rfl rfl,
    trivial⟩
    (cast (by kernel_rfl) h)
def S_r4_Needs_6 (x1 x2 x5 x6 x7 x8 x9 x10 : Value) (M : Store) (Q : KP) : Prop :=
  OP (fad 0 x2) fun t40 =>
  OP (ld 1 false t40 M) fun t41 =>
  OP (ixA 5 t41 x1) fun t43 =>
  OP (fad 1 t43) fun t44 =>
  OP (ld 1 false t44 M) fun t45 =>
  OP (lenV t45) fun t46 =>
  OP (binI .lss x10 t46) fun t47 =>
  BR t47 (
  P_r4_Needs_8 x1 x2 x5 x6 x7 x8 x9 x10 M Q
  ) (
  P_r4_Needs_9 x1 x2 x5 x6 x7 x8 x9 M Q
  )
theorem T_r4_Needs_6 {x1 x2 x5 x6 x7 x8 x9 x10 : Value} {M : Store} {Q : KP} (h : S_r4_Needs_6 x1 x2 x5 x6 x7 x8 x9 x10 M Q) : P_r4_Needs_6 x1 x2 x5 x6 x7 x8 x9 x10 M Q := by
  intro f h1 h2 h5 h6 h7 h8 h9 h10; subst h1; subst h2; subst h5; subst h6; subst h7; subst h8; subst h9; subst h10
  unfold At
  refine cast (by kernel_rfl) (CW.loop (P := Try.prog) (E := Ex) (rd := none) (x := sub (bodyOf Try.f22) [1, 1, 0, 1, 0, 0, 1, 0, 0, 1, 0, 1, 0, 0, 1, 0, 0, 1, 0, 1, 0, 0]) (a := ⟨⟨95, f⟩, []⟩) (M := M) (K := kcont Try.prog Ex none (bodyOf Try.f22) [1, 1, 0, 1, 0, 0, 1, 0, 0, 1, 0, 1, 0, 0, 1, 0, 0, 1, 0, 1, 0] (kfin Try.prog Try.f22.results.toList Q)) ?_)
  exact rule (B := 1000) (N := 95) (ct := (.two .no (.here 1000)))
    [⟨1002, fun a M => dfr a.defers (P_r4_Needs_8 (a.get 1) (a.get 2) (a.get 5) (a.get 6) (a.get 7) (a.get 8) (a.get 9) (a.get 10) M Q), fun a M => At Try.prog Ex none Try.f22 [1, 1, 0, 1, 0, 0, 1, 0, 0, 1, 0, 1, 0, 0, 1, 0, 0, 1, 0, 1, 0, 0, 1] a M Q⟩,
    ⟨6, fun a M => dfr a.defers (P_r4_Needs_9 (a.get 1) (a.get 2) (a.get 5) (a.get 6) (a.get 7) (a.get 8) (a.get 9) M Q), fun a M => At Try.prog Ex none Try.f22 [1, 1, 0, 1, 0, 0, 1, 0, 0, 1, 0, 1, 0, 0, 1, 0, 0, 1, 1] a M Q⟩]
    [1000] [6] (by kernel_rfl) (by kernel_rfl) (by kernel_rfl) (by kernel_rfl) (by kernel_rfl)
    ⟨fun a M hn h => by obtain ⟨⟨n, f⟩, ds⟩ := a; have hn : n = 95 := hn; subst hn; obtain ⟨hd, h⟩ := dfr_iff h; have hd : ds = [] := hd; subst hd; exact h f rfl rfl rfl rfl rfl rfl rfl rfl,
    fun a M hn h => by obtain ⟨⟨n, f⟩, ds⟩ := a; have hn : n = 95 := hn; subst hn; obtain ⟨hd, h⟩ := dfr_iff h; have hd : ds = [] := hd; subst hd; exact h f rfl rfl rfl rfl rfl rfl rfl,
    trivial⟩
    (cast (by kernel_rfl) h)
def S_r4_Needs_7 (x1 x2 x5 x6 : Value) (M : Store) (Q : KP) : Prop :=
  OP (binI .add x6 (.int .i64 1)) fun t18 =>
  P_r4_Needs_1 x1 x2 x5 t18 M Q
theorem T_r4_Needs_7 {x1 x2 x5 x6 : Value} {M : Store} {Q : KP} (h : S_r4_Needs_7 x1 x2 x5 x6 M Q) : P_r4_Needs_7 x1 x2 x5 x6 M Q := by
  intro f h1 h2 h5 h6; subst h1; subst h2; subst h5; subst h6
  unfold At
  exact rule (B := 1000) (N := 95) (ct := .no)
    [⟨0, fun a M => dfr a.defers (P_r4_Needs_1 (a.get 1) (a.get 2) (a.get 5) (a.get 6) M Q), fun a M => At Try.prog Ex none Try.f22 [1, 1, 0, 1, 0] a M Q⟩]
    [] [0] (by kernel_rfl) (by kernel_rfl) (by kernel_rfl) (by kernel_rfl) (by kernel_rfl)
    ⟨fun a M hn h => by obtain ⟨⟨n, f⟩, ds⟩ := a; have hn : n = 95 := hn; subst hn; obtain ⟨hd, h⟩ := dfr_iff h; have hd : ds = [] := hd; subst hd; exact h f rfl rfl rfl rfl,
    trivial⟩
    (cast (by kernel_rfl) h)
def S_r4_Needs_8 (x1 x2 x5 x6 x7 x8 x9 x10 : Value) (M : Store) (Q : KP) : Prop :=
  BR x7 (
  OP (binI .add x10 (.int .i64 1)) fun t49 =>
  P_r4_Needs_6 x1 x2 x5 x6 (.bool true) x8 x9 t49 M Q
  ) (
  OP (fad 0 x2) fun t52 =>
  OP (ld 1 false t52 M) fun t53 =>
  OP (ixA 5 t53 x1) fun t55 =>
  OP (fad 1 t55) fun t56 =>
  OP (ld 1 false t56 M) fun t57 =>
  OP (ixA 1 t57 x10) fun t59 =>
  OP (ld 1 false t59 M) fun t60 =>
  OP (binS .eql t60 x9) fun t62 =>
  OP (binI .add x10 (.int .i64 1)) fun t49_1 =>
  P_r4_Needs_6 x1 x2 x5 x6 t62 x8 x9 t49_1 M Q
  )
theorem T_r4_Needs_8 {x1 x2 x5 x6 x7 x8 x9 x10 : Value} {M : Store} {Q : KP} (h : S_r4_Needs_8 x1 x2 x5 x6 x7 x8 x9 x10 M Q) : P_r4_Needs_8 x1 x2 x5 x6 x7 x8 x9 x10 M Q := by
  intro f h1 h2 h5 h6 h7 h8 h9 h10; subst h1; subst h2; subst h5; subst h6; subst h7; subst h8; subst h9; subst h10
  unfold At
  exact rule (B := 1000) (N := 95) (ct := .no)
    [⟨0, fun a M => dfr a.defers (P_r4_Needs_6 (a.get 1) (a.get 2) (a.get 5) (a.get 6) (a.get 7) (a.get 8) (a.get 9) (a.get 10) M Q), fun a M => At Try.prog Ex none Try.f22 [1, 1, 0, 1, 0, 0, 1, 0, 0, 1, 0, 1, 0, 0, 1, 0, 0, 1, 0, 1, 0] a M Q⟩]
    [] [0] (by kernel_rfl) (by kernel_rfl) (by kernel_rfl) (by kernel_rfl) (by kernel_rfl)
    ⟨fun a M hn h => by obtain ⟨⟨n, f⟩, ds⟩ := a; have hn : n = 95 := hn; subst hn; obtain ⟨hd, h⟩ := dfr_iff h; have hd : ds = [] := hd; subst hd; exact h f rfl rfl rfl rfl rfl rfl rfl rfl,
    trivial⟩
    (cast (by kernel_rfl) h)
def S_r4_Needs_9 (x1 x2 x5 x6 x7 x8 x9 : Value) (M : Store) (Q : KP) : Prop :=
  P_r4_Needs_10 x1 x2 x5 x6 x7 x8 x9 (.int .i64 0) M Q
theorem T_r4_Needs_9 {x1 x2 x5 x6 x7 x8 x9 : Value} {M : Store} {Q : KP} (h : S_r4_Needs_9 x1 x2 x5 x6 x7 x8 x9 M Q) : P_r4_Needs_9 x1 x2 x5 x6 x7 x8 x9 M Q := by
  intro f h1 h2 h5 h6 h7 h8 h9; subst h1; subst h2; subst h5; subst h6; subst h7; subst h8; subst h9
  unfold At
  exact rule (B := 1000) (N := 95) (ct := (.two .no (.two (.here 1000) .no)))
    [⟨1002, fun a M => dfr a.defers (P_r4_Needs_10 (a.get 1) (a.get 2) (a.get 5) (a.get 6) (a.get 7) (a.get 8) (a.get 9) (a.get 11) M Q), fun a M => At Try.prog Ex none Try.f22 [1, 1, 0, 1, 0, 0, 1, 0, 0, 1, 0, 1, 0, 0, 1, 0, 0, 1, 1, 1, 0] a M Q⟩]
    [1000] [] (by kernel_rfl) (by kernel_rfl) (by kernel_rfl) (by kernel_rfl) (by kernel_rfl)
    ⟨fun a M hn h => by obtain ⟨⟨n, f⟩, ds⟩ := a; have hn : n = 95 := hn; subst hn; obtain ⟨hd, h⟩ := dfr_iff h; have hd : ds = [] := hd; subst hd; exact h f rfl rfl rfl rfl rfl rfl rfl rfl,
    trivial⟩
    (cast (by kernel_rfl) h)
def S_r4_Needs_10 (x1 x2 x5 x6 x7 x8 x9 x11 : Value) (M : Store) (Q : KP) : Prop :=
  OP (fad 0 x2) fun t65 =>
  OP (ld 1 false t65 M) fun t66 =>
  OP (ixA 5 t66 x1) fun t68 =>
  OP (fad 2 t68) fun t69 =>
  OP (ld 1 false t69 M) fun t70 =>
  OP (lenV t70) fun t71 =>
  OP (binI .lss x11 t71) fun t72 =>
  BR t72 (
  P_r4_Needs_11 x1 x2 x5 x6 x7 x8 x9 x11 M Q
  ) (
  P_r4_Needs_12 x1 x2 x5 x6 x7 x8 M Q
  )
theorem T_r4_Needs_10 {x1 x2 x5 x6 x7 x8 x9 x11 : Value} {M : Store} {Q : KP} (h : S_r4_Needs_10 x1 x2 x5 x6 x7 x8 x9 x11 M Q) : P_r4_Needs_10 x1 x2 x5 x6 x7 x8 x9 x11 M Q := by
  intro f h1 h2 h5 h6 h7 h8 h9 h11; subst h1; subst h2; subst h5; subst h6; subst h7; subst h8; subst h9; subst h11
  unfold At
  refine cast (by kernel_rfl) (CW.loop (P := Try.prog) (E := Ex) (rd := none) (x := sub (bodyOf Try.f22) [1, 1, 0, 1, 0, 0, 1, 0, 0, 1, 0, 1, 0, 0, 1, 0, 0, 1, 1, 1, 0, 0]) (a := ⟨⟨95, f⟩, []⟩) (M := M) (K := kcont Try.prog Ex none (bodyOf Try.f22) [1, 1, 0, 1, 0, 0, 1, 0, 0, 1, 0, 1, 0, 0, 1, 0, 0, 1, 1, 1, 0] (kfin Try.prog Try.f22.results.toList Q)) ?_)
  exact rule (B := 1000) (N := 95) (ct := (.two .no (.here 1000)))
    [⟨1002, fun a M => dfr a.defers (P_r4_Needs_11 (a.get 1) (a.get 2) (a.get 5) (a.get 6) (a.get 7) (a.get 8) (a.get 9) (a.get 11) M Q), fun a M => At Try.prog Ex none Try.f22 [1, 1, 0, 1, 0, 0, 1, 0, 0, 1, 0, 1, 0, 0, 1, 0, 0, 1, 1, 1, 0, 0, 1] a M Q⟩,
    ⟨8, fun a M => dfr a.defers (P_r4_Needs_12 (a.get 1) (a.get 2) (a.get 5) (a.get 6) (a.get 7) (a.get 8) M Q), fun a M => At Try.prog Ex none Try.f22 [1, 1, 0, 1, 0, 0, 1, 0, 0, 1, 0, 1, 0, 0, 1, 1] a M Q⟩]
    [1000] [8] (by kernel_rfl) (by kernel_rfl) (by kernel_rfl) (by kernel_rfl) (by kernel_rfl)
    ⟨fun a M hn h => by obtain ⟨⟨n, f⟩, ds⟩ := a; have hn : n = 95 := hn; subst hn; obtain ⟨hd, h⟩ := dfr_iff h; have hd : ds = [] := hd; subst hd; exact h f rfl rfl rfl rfl rfl rfl rfl rfl,
    fun a M hn h => by obtain ⟨⟨n, f⟩, ds⟩ := a; have hn : n = 95 := hn; subst hn; obtain ⟨hd, h⟩ := dfr_iff h; have hd : ds = [] := hd; subst hd; exact h f rfl rfl rfl rfl rfl rfl,
    trivial⟩
    (cast (by kernel_rfl) h)
def S_r4_Needs_11 (x1 x2 x5 x6 x7 x8 x9 x11 : Value) (M : Store) (Q : KP) : Prop :=
  BR x7 (
  OP (binI .add x11 (.int .i64 1)) fun t74 =>
  P_r4_Needs_10 x1 x2 x5 x6 (.bool true) x8 x9 t74 M Q
  ) (
  OP (fad 0 x2) fun t77 =>
  OP (ld 1 false t77 M) fun t78 =>
  OP (ixA 5 t78 x1) fun t80 =>
  OP (fad 2 t80) fun t81 =>
  OP (ld 1 false t81 M) fun t82 =>
  OP (ixA 1 t82 x11) fun t84 =>
  OP (ld 1 false t84 M) fun t85 =>
  OP (binS .eql t85 x9) fun t87 =>
  OP (binI .add x11 (.int .i64 1)) fun t74_1 =>
  P_r4_Needs_10 x1 x2 x5 x6 t87 x8 x9 t74_1 M Q
  )
theorem T_r4_Needs_11 {x1 x2 x5 x6 x7 x8 x9 x11 : Value} {M : Store} {Q : KP} (h : S_r4_Needs_11 x1 x2 x5 x6 x7 x8 x9 x11 M Q) : P_r4_Needs_11 x1 x2 x5 x6 x7 x8 x9 x11 M Q := by
  intro f h1 h2 h5 h6 h7 h8 h9 h11; subst h1; subst h2; subst h5; subst h6; subst h7; subst h8; subst h9; subst h11
  unfold At
  exact rule (B := 1000) (N := 95) (ct := .no)
    [⟨0, fun a M => dfr a.defers (P_r4_Needs_10 (a.get 1) (a.get 2) (a.get 5) (a.get 6) (a.get 7) (a.get 8) (a.get 9) (a.get 11) M Q), fun a M => At Try.prog Ex none Try.f22 [1, 1, 0, 1, 0, 0, 1, 0, 0, 1, 0, 1, 0, 0, 1, 0, 0, 1, 1, 1, 0] a M Q⟩]
    [] [0] (by kernel_rfl) (by kernel_rfl) (by kernel_rfl) (by kernel_rfl) (by kernel_rfl)
    ⟨fun a M hn h => by obtain ⟨⟨n, f⟩, ds⟩ := a; have hn : n = 95 := hn; subst hn; obtain ⟨hd, h⟩ := dfr_iff h; have hd : ds = [] := hd; subst hd; exact h f rfl rfl rfl rfl rfl rfl rfl rfl,
    trivial⟩
    (cast (by kernel_rfl) h)
def S_r4_Needs_12 (x1 x2 x5 x6 x7 x8 : Value) (M : Store) (Q : KP) : Prop :=
  OP (binI .add x8 (.int .i64 1)) fun t29 =>
  P_r4_Needs_2 x1 x2 x5 x6 x7 t29 M Q
theorem T_r4_Needs_12 {x1 x2 x5 x6 x7 x8 : Value} {M : Store} {Q : KP} (h : S_r4_Needs_12 x1 x2 x5 x6 x7 x8 M Q) : P_r4_Needs_12 x1 x2 x5 x6 x7 x8 M Q := by
  intro f h1 h2 h5 h6 h7 h8; subst h1; subst h2; subst h5; subst h6; subst h7; subst h8
  unfold At
  exact rule (B := 1000) (N := 95) (ct := .no)
    [⟨0, fun a M => dfr a.defers (P_r4_Needs_2 (a.get 1) (a.get 2) (a.get 5) (a.get 6) (a.get 7) (a.get 8) M Q), fun a M => At Try.prog Ex none Try.f22 [1, 1, 0, 1, 0, 0, 1, 0, 0, 1, 0, 1, 0] a M Q⟩]
    [] [0] (by kernel_rfl) (by kernel_rfl) (by kernel_rfl) (by kernel_rfl) (by kernel_rfl)
    ⟨fun a M hn h => by obtain ⟨⟨n, f⟩, ds⟩ := a; have hn : n = 95 := hn; subst hn; obtain ⟨hd, h⟩ := dfr_iff h; have hd : ds = [] := hd; subst hd; exact h f rfl rfl rfl rfl rfl rfl,
    trivial⟩
    (cast (by kernel_rfl) h)
def P_r4_Rules_1 (x1 x4 x5 : Value) (M : Store) (Q : KP) : Prop :=
  ∀ f : Nat → Value, f 1 = x1 → f 4 = x4 → f 5 = x5 → At Try.prog Ex none Try.f27 [1, 1, 1, 0, 0] ⟨⟨65, f⟩, []⟩ M Q
def P_r4_Rules_2 (x1 x4 x5 : Value) (M : Store) (Q : KP) : Prop :=
  ∀ f : Nat → Value, f 1 = x1 → f 4 = x4 → f 5 = x5 → At Try.prog Ex none Try.f27 [1, 1, 1, 0, 0, 0, 1] ⟨⟨65, f⟩, []⟩ M Q
def P_r4_Rules_3 (x5 : Value) (M : Store) (Q : KP) : Prop :=
  ∀ f : Nat → Value, f 5 = x5 → At Try.prog Ex none Try.f27 [1, 1, 1, 1] ⟨⟨65, f⟩, []⟩ M Q
def P_r4_Rules_4 (x1 x4 x5 x6 x7 : Value) (M : Store) (Q : KP) : Prop :=
  ∀ f : Nat → Value, f 1 = x1 → f 4 = x4 → f 5 = x5 → f 6 = x6 → f 7 = x7 → At Try.prog Ex none Try.f27 [1, 1, 1, 0, 0, 0, 1, 0, 1, 0, 1, 0] ⟨⟨65, f⟩, []⟩ M Q
def P_r4_Rules_5 (x1 x4 x5 x6 x7 : Value) (M : Store) (Q : KP) : Prop :=
  ∀ f : Nat → Value, f 1 = x1 → f 4 = x4 → f 5 = x5 → f 6 = x6 → f 7 = x7 → At Try.prog Ex none Try.f27 [1, 1, 1, 0, 0, 0, 1, 0, 1, 0, 1, 0, 0, 1] ⟨⟨65, f⟩, []⟩ M Q
def P_r4_Rules_6 (x1 x4 x5 x6 : Value) (M : Store) (Q : KP) : Prop :=
  ∀ f : Nat → Value, f 1 = x1 → f 4 = x4 → f 5 = x5 → f 6 = x6 → At Try.prog Ex none Try.f27 [1, 1, 1, 0, 0, 0, 1, 0, 1, 1] ⟨⟨65, f⟩, []⟩ M Q
def P_r4_Rules_7 (x1 x4 x5 x6 x7 x8 x9 x10 : Value) (M : Store) (Q : KP) : Prop :=
  ∀ f : Nat → Value, f 1 = x1 → f 4 = x4 → f 5 = x5 → f 6 = x6 → f 7 = x7 → f 8 = x8 → f 9 = x9 → f 10 = x10 → At Try.prog Ex none Try.f27 [1, 1, 1, 0, 0, 0, 1, 0, 1, 0, 1, 0, 0, 1, 0, 0, 1, 1, 0, 1, 0] ⟨⟨65, f⟩, []⟩ M Q
def P_r4_Rules_8 (x1 x4 x5 x6 x7 x8 : Value) (M : Store) (Q : KP) : Prop :=
  ∀ f : Nat → Value, f 1 = x1 → f 4 = x4 → f 5 = x5 → f 6 = x6 → f 7 = x7 → f 8 = x8 → At Try.prog Ex none Try.f27 [1, 1, 1, 0, 0, 0, 1, 0, 1, 0, 1, 0, 0, 1, 0, 0, 1, 1, 1] ⟨⟨65, f⟩, []⟩ M Q
def P_r4_Rules_9 (x1 x4 x5 x6 x7 : Value) (M : Store) (Q : KP) : Prop :=
  ∀ f : Nat → Value, f 1 = x1 → f 4 = x4 → f 5 = x5 → f 6 = x6 → f 7 = x7 → At Try.prog Ex none Try.f27 [1, 1, 1, 0, 0, 0, 1, 0, 1, 0, 1, 0, 0, 1, 1] ⟨⟨65, f⟩, []⟩ M Q
def S_r4_Rules (x0 : Value) (M : Store) (Q : KP) : Prop :=
  OP (boxv x0) fun c =>
  LT (.pointer (some ⟨M.n, 0, none⟩)) (M.push (some (.inl (c, Ty.api_Manifest, true)))) fun t1 M1 =>
  OP (fad 0 t1) fun t11 =>
  OP (ld 1 false t11 M1) fun t12 =>
  OP (lenV t12) fun t13 =>
  OP2 (mkS (.bool false) 1 1 Ty.bool t13 t13 M1) fun t14 M2 =>
  P_r4_Rules_1 t1 t14 (.slice none 0 0) M2 Q
theorem T_r4_Rules {x0 : Value} {M : Store} {Q : KP} (h : S_r4_Rules x0 M Q) : R F.r4_Rules #[x0] M Q := by
  refine runs_of (c := bodyOf Try.f27) Try.func27 rfl (by kernel_rfl) (by kernel_rfl) ?_
  unfold At
  exact rule (B := 1000) (N := 65) (ct := (.two .no (.two .no (.two .no (.two (.two (.here 1000) .no) (.here 1001))))))
    [⟨1002, fun a M => dfr a.defers (P_r4_Rules_1 (a.get 1) (a.get 4) (a.get 5) M Q), fun a M => At Try.prog Ex none Try.f27 [1, 1, 1, 0, 0] a M Q⟩,
    ⟨1003, fun _ _ => False, fun a M => At Try.prog Ex none Try.f27 [1, 1, 1, 1] a M Q⟩]
    [1000, 1001] [] (by kernel_rfl) (by kernel_rfl) (by kernel_rfl) (by kernel_rfl) (by kernel_rfl)
    ⟨fun a M hn h => by obtain ⟨⟨n, f⟩, ds⟩ := a; have hn : n = 65 := hn; subst hn; obtain ⟨hd, h⟩ := dfr_iff h; have hd : ds = [] := hd; subst hd; exact h f rfl rfl rfl,
    fun _ _ _ h => h.elim,
    trivial⟩
    (cast (by kernel_rfl) h)
def S_r4_Rules_1 (x1 x4 x5 : Value) (M : Store) (Q : KP) : Prop :=
  OP (lenV x5) fun t16 =>
  OP (fad 0 x1) fun t17 =>
  OP (ld 1 false t17 M) fun t18 =>
  OP (lenV t18) fun t19 =>
  OP (binI .lss t16 t19) fun t20 =>
  BR t20 (
  P_r4_Rules_2 x1 x4 x5 M Q
  ) (
  P_r4_Rules_3 x5 M Q
  )
theorem T_r4_Rules_1 {x1 x4 x5 : Value} {M : Store} {Q : KP} (h : S_r4_Rules_1 x1 x4 x5 M Q) : P_r4_Rules_1 x1 x4 x5 M Q := by
  intro f h1 h4 h5; subst h1; subst h4; subst h5
  unfold At
  refine cast (by kernel_rfl) (CW.loop (P := Try.prog) (E := Ex) (rd := none) (x := sub (bodyOf Try.f27) [1, 1, 1, 0, 0, 0]) (a := ⟨⟨65, f⟩, []⟩) (M := M) (K := kcont Try.prog Ex none (bodyOf Try.f27) [1, 1, 1, 0, 0] (kfin Try.prog Try.f27.results.toList Q)) ?_)
  exact rule (B := 1000) (N := 65) (ct := (.two .no (.here 1000)))
    [⟨1002, fun a M => dfr a.defers (P_r4_Rules_2 (a.get 1) (a.get 4) (a.get 5) M Q), fun a M => At Try.prog Ex none Try.f27 [1, 1, 1, 0, 0, 0, 1] a M Q⟩,
    ⟨2, fun a M => dfr a.defers (P_r4_Rules_3 (a.get 5) M Q), fun a M => At Try.prog Ex none Try.f27 [1, 1, 1, 1] a M Q⟩]
    [1000] [2] (by kernel_rfl) (by kernel_rfl) (by kernel_rfl) (by kernel_rfl) (by kernel_rfl)
    ⟨fun a M hn h => by obtain ⟨⟨n, f⟩, ds⟩ := a; have hn : n = 65 := hn; subst hn; obtain ⟨hd, h⟩ := dfr_iff h; have hd : ds = [] := hd; subst hd; exact h f rfl rfl rfl,
    fun a M hn h => by obtain ⟨⟨n, f⟩, ds⟩ := a; have hn : n = 65 := hn; subst hn; obtain ⟨hd, h⟩ := dfr_iff h; have hd : ds = [] := hd; subst hd; exact h f rfl,
    trivial⟩
    (cast (by kernel_rfl) h)
def S_r4_Rules_2 (x1 x4 x5 : Value) (M : Store) (Q : KP) : Prop :=
  OP (fad 0 x1) fun t21 =>
  OP (ld 1 false t21 M) fun t22 =>
  OP (lenV t22) fun t23 =>
  OP (binI .sub t23 (.int .i64 1)) fun t24 =>
  P_r4_Rules_4 x1 x4 x5 (.int .i64 (-1)) t24 M Q
theorem T_r4_Rules_2 {x1 x4 x5 : Value} {M : Store} {Q : KP} (h : S_r4_Rules_2 x1 x4 x5 M Q) : P_r4_Rules_2 x1 x4 x5 M Q := by
  intro f h1 h4 h5; subst h1; subst h4; subst h5
  unfold At
  exact rule (B := 1000) (N := 65) (ct := (.two (.two .no (.two (.two .no (.two (.here 1000) .no)) (.here 1001))) .no))
    [⟨1002, fun a M => dfr a.defers (P_r4_Rules_4 (a.get 1) (a.get 4) (a.get 5) (a.get 6) (a.get 7) M Q), fun a M => At Try.prog Ex none Try.f27 [1, 1, 1, 0, 0, 0, 1, 0, 1, 0, 1, 0] a M Q⟩,
    ⟨1003, fun _ _ => False, fun a M => At Try.prog Ex none Try.f27 [1, 1, 1, 0, 0, 0, 1, 0, 1, 1] a M Q⟩]
    [1000, 1001] [] (by kernel_rfl) (by kernel_rfl) (by kernel_rfl) (by kernel_rfl) (by kernel_rfl)
    ⟨fun a M hn h => by obtain ⟨⟨n, f⟩, ds⟩ := a; have hn : n = 65 := hn; subst hn; obtain ⟨hd, h⟩ := dfr_iff h; have hd : ds = [] := hd; subst hd; exact h f rfl rfl rfl rfl rfl,
    fun _ _ _ h => h.elim,
    trivial⟩
    (cast (by kernel_rfl) h)
def S_r4_Rules_3 (x5 : Value) (M : Store) (Q : KP) : Prop :=
  NTs [x5, (.bool true)] ∧ Q (.tuple #[x5, (.bool true)]) M
theorem T_r4_Rules_3 {x5 : Value} {M : Store} {Q : KP} (h : S_r4_Rules_3 x5 M Q) : P_r4_Rules_3 x5 M Q := by
  intro f h5; subst h5
  unfold At
  exact rule (B := 1000) (N := 65) (ct := .no)
    [⟨1, fun a M => kfin Try.prog Try.f27.results.toList Q 1 a M, fun a M => kfin Try.prog Try.f27.results.toList Q 1 a M⟩]
    [] [1] (by kernel_rfl) (by kernel_rfl) (by kernel_rfl) (by kernel_rfl) (by kernel_rfl)
    ⟨fun _ _ _ h => h,
    trivial⟩
    (cast (by kernel_rfl) h)
def S_r4_Rules_4 (x1 x4 x5 x6 x7 : Value) (M : Store) (Q : KP) : Prop :=
  OP (binI .geq x7 (.int .i64 0)) fun t26 =>
  BR t26 (
  P_r4_Rules_5 x1 x4 x5 x6 x7 M Q
  ) (
  P_r4_Rules_6 x1 x4 x5 x6 M Q
  )
theorem T_r4_Rules_4 {x1 x4 x5 x6 x7 : Value} {M : Store} {Q : KP} (h : S_r4_Rules_4 x1 x4 x5 x6 x7 M Q) : P_r4_Rules_4 x1 x4 x5 x6 x7 M Q := by
  intro f h1 h4 h5 h6 h7; subst h1; subst h4; subst h5; subst h6; subst h7
  unfold At
  refine cast (by kernel_rfl) (CW.loop (P := Try.prog) (E := Ex) (rd := none) (x := sub (bodyOf Try.f27) [1, 1, 1, 0, 0, 0, 1, 0, 1, 0, 1, 0, 0]) (a := ⟨⟨65, f⟩, []⟩) (M := M) (K := kcont Try.prog Ex none (bodyOf Try.f27) [1, 1, 1, 0, 0, 0, 1, 0, 1, 0, 1, 0] (kfin Try.prog Try.f27.results.toList Q)) ?_)
  exact rule (B := 1000) (N := 65) (ct := (.two .no (.here 1000)))
    [⟨1002, fun a M => dfr a.defers (P_r4_Rules_5 (a.get 1) (a.get 4) (a.get 5) (a.get 6) (a.get 7) M Q), fun a M => At Try.prog Ex none Try.f27 [1, 1, 1, 0, 0, 0, 1, 0, 1, 0, 1, 0, 0, 1] a M Q⟩,
    ⟨4, fun a M => dfr a.defers (P_r4_Rules_6 (a.get 1) (a.get 4) (a.get 5) (a.get 6) M Q), fun a M => At Try.prog Ex none Try.f27 [1, 1, 1, 0, 0, 0, 1, 0, 1, 1] a M Q⟩]
    [1000] [4] (by kernel_rfl) (by kernel_rfl) (by kernel_rfl) (by kernel_rfl) (by kernel_rfl)
    ⟨fun a M hn h => by obtain ⟨⟨n, f⟩, ds⟩ := a; have hn : n = 65 := hn; subst hn; obtain ⟨hd, h⟩ := dfr_iff h; have hd : ds = [] := hd; subst hd; exact h f rfl rfl rfl rfl rfl,
    fun a M hn h => by obtain ⟨⟨n, f⟩, ds⟩ := a; have hn : n = 65 := hn; subst hn; obtain ⟨hd, h⟩ := dfr_iff h; have hd : ds = [] := hd; subst hd; exact h f rfl rfl rfl rfl,
    trivial⟩
    (cast (by kernel_rfl) h)
def S_r4_Rules_5 (x1 x4 x5 x6 x7 : Value) (M : Store) (Q : KP) : Prop :=
  OP (ixA 1 x4 x7) fun t31 =>
  OP (ld 1 false t31 M) fun t32 =>
  OP (aun .not t32) fun t33 =>
  OP (ld 2 true x1 M) fun t34 =>
  R F.r4_Needs #[t34, x7] M fun t36 M1 =>
  P_r4_Rules_7 x1 x4 x5 x6 x7 t33 t36 (.int .i64 0) M1 Q
theorem T_r4_Rules_5 {x1 x4 x5 x6 x7 : Value} {M : Store} {Q : KP} (h : S_r4_Rules_5 x1 x4 x5 x6 x7 M Q) : P_r4_Rules_5 x1 x4 x5 x6 x7 M Q := by
  intro f h1 h4 h5 h6 h7; subst h1; subst h4; subst h5; subst h6; subst h7
  unfold At
  exact rule (B := 1000) (N := 65) (ct := (.two (.two (.two .no (.two .no (.two (.two .no (.two (.here 1000) .no)) (.here 1001)))) .no) (.here 1002)))
    [⟨1002, fun a M => dfr a.defers (P_r4_Rules_7 (a.get 1) (a.get 4) (a.get 5) (a.get 6) (a.get 7) (a.get 8) (a.get 9) (a.get 10) M Q), fun a M => At Try.prog Ex none Try.f27 [1, 1, 1, 0, 0, 0, 1, 0, 1, 0, 1, 0, 0, 1, 0, 0, 1, 1, 0, 1, 0] a M Q⟩,
    ⟨1003, fun _ _ => False, fun a M => At Try.prog Ex none Try.f27 [1, 1, 1, 0, 0, 0, 1, 0, 1, 0, 1, 0, 0, 1, 0, 0, 1, 1, 1] a M Q⟩,
    ⟨1004, fun _ _ => False, fun a M => At Try.prog Ex none Try.f27 [1, 1, 1, 0, 0, 0, 1, 0, 1, 0, 1, 0, 0, 1, 1] a M Q⟩]
    [1000, 1001, 1002] [] (by kernel_rfl) (by kernel_rfl) (by kernel_rfl) (by kernel_rfl) (by kernel_rfl)
    ⟨fun a M hn h => by obtain ⟨⟨n, f⟩, ds⟩ := a; have hn : n = 65 := hn; subst hn; obtain ⟨hd, h⟩ := dfr_iff h; have hd : ds = [] := hd; subst hd; exact h f rfl rfl rfl rfl rfl rfl rfl rfl,
    fun _ _ _ h => h.elim,
    fun _ _ _ h => h.elim,
    trivial⟩
    (cast (by kernel_rfl) h)
def S_r4_Rules_6 (x1 x4 x5 x6 : Value) (M : Store) (Q : KP) : Prop :=
  OP (binI .lss x6 (.int .i64 0)) fun t56 =>
  BR t56 (
  NTs [(.slice none 0 0), (.bool false)] ∧ Q (.tuple #[(.slice none 0 0), (.bool false)]) M
  ) (
  OP (ixA 1 x4 x6) fun t59 =>
  OP (st 1 t59 (.bool true) M) fun M1 =>
  OP (bldL (.int .i64 0) 1 1 [(0, x6)]) fun c =>
  LT (.slice (some ⟨M1.n, 0, none⟩) 1 1) (M1.push (some (.inl (c, Ty.int, true)))) fun t62 M2 =>
  OP2 (appV 1 Ty.int x5 t62 M2) fun t63 M3 =>
  P_r4_Rules_1 x1 x4 t63 M3 Q
  )
theorem T_r4_Rules_6 {x1 x4 x5 x6 : Value} {M : Store} {Q : KP} (h : S_r4_Rules_6 x1 x4 x5 x6 M Q) : P_r4_Rules_6 x1 x4 x5 x6 M Q := by
  intro f h1 h4 h5 h6; subst h1; subst h4; subst h5; subst h6
  unfold At
  exact rule (B := 1000) (N := 65) (ct := .no)
    [⟨0, fun a M => dfr a.defers (P_r4_Rules_1 (a.get 1) (a.get 4) (a.get 5) M Q), fun a M => At Try.prog Ex none Try.f27 [1, 1, 1, 0, 0] a M Q⟩,
    ⟨1, fun a M => kfin Try.prog Try.f27.results.toList Q 1 a M, fun a M => kfin Try.prog Try.f27.results.toList Q 1 a M⟩]
    [] [0, 1] (by kernel_rfl) (by kernel_rfl) (by kernel_rfl) (by kernel_rfl) (by kernel_rfl)
    ⟨fun a M hn h => by obtain ⟨⟨n, f⟩, ds⟩ := a; have hn : n = 65 := hn; subst hn; obtain ⟨hd, h⟩ := dfr_iff h; have hd : ds = [] := hd; subst hd; exact h f rfl rfl rfl,
    fun _ _ _ h => h,
    trivial⟩
    (cast (by kernel_rfl) h)
def S_r4_Rules_7 (x1 x4 x5 x6 x7 x8 x9 x10 : Value) (M : Store) (Q : KP) : Prop :=
  OP (lenV x9) fun t39 =>
  OP (binI .lss x10 t39) fun t40 =>
  BR t40 (
  BR x8 (
  OP (ixA 1 x9 x10) fun t48 =>
  OP (ld 1 false t48 M) fun t49 =>
  OP (ixA 1 x4 t49) fun t50 =>
  OP (ld 1 false t50 M) fun t51 =>
  OP (binI .add x10 (.int .i64 1)) fun t42 =>
  P_r4_Rules_7 x1 x4 x5 x6 x7 t51 x9 t42 M Q
  ) (
  OP (binI .add x10 (.int .i64 1)) fun t42_1 =>
  P_r4_Rules_7 x1 x4 x5 x6 x7 (.bool false) x9 t42_1 M Q
  )
  ) (
  P_r4_Rules_8 x1 x4 x5 x6 x7 x8 M Q
  )
theorem T_r4_Rules_7 {x1 x4 x5 x6 x7 x8 x9 x10 : Value} {M : Store} {Q : KP} (h : S_r4_Rules_7 x1 x4 x5 x6 x7 x8 x9 x10 M Q) : P_r4_Rules_7 x1 x4 x5 x6 x7 x8 x9 x10 M Q := by
  intro f h1 h4 h5 h6 h7 h8 h9 h10; subst h1; subst h4; subst h5; subst h6; subst h7; subst h8; subst h9; subst h10
  unfold At
  refine cast (by kernel_rfl) (CW.loop (P := Try.prog) (E := Ex) (rd := none) (x := sub (bodyOf Try.f27) [1, 1, 1, 0, 0, 0, 1, 0, 1, 0, 1, 0, 0, 1, 0, 0, 1, 1, 0, 1, 0, 0]) (a := ⟨⟨65, f⟩, []⟩) (M := M) (K := kcont Try.prog Ex none (bodyOf Try.f27) [1, 1, 1, 0, 0, 0, 1, 0, 1, 0, 1, 0, 0, 1, 0, 0, 1, 1, 0, 1, 0] (kfin Try.prog Try.f27.results.toList Q)) ?_)
  exact rule (B := 1000) (N := 65) (ct := .no)
    [⟨0, fun a M => dfr a.defers (P_r4_Rules_7 (a.get 1) (a.get 4) (a.get 5) (a.get 6) (a.get 7) (a.get 8) (a.get 9) (a.get 10) M Q), fun a M => At Try.prog Ex none Try.f27 [1, 1, 1, 0, 0, 0, 1, 0, 1, 0, 1, 0, 0, 1, 0, 0, 1, 1, 0, 1, 0] a M Q⟩,
    ⟨6, fun a M => dfr a.defers (P_r4_Rules_8 (a.get 1) (a.get 4) (a.get 5) (a.get 6) (a.get 7) (a.get 8) M Q), fun a M => At Try.prog Ex none Try.f27 [1, 1, 1, 0, 0, 0, 1, 0, 1, 0, 1, 0, 0, 1, 0, 0, 1, 1, 1] a M Q⟩]
    [] [0, 6] (by kernel_rfl) (by kernel_rfl) (by kernel_rfl) (by kernel_rfl) (by kernel_rfl)
    ⟨fun a M hn h => by obtain ⟨⟨n, f⟩, ds⟩ := a; have hn : n = 65 := hn; subst hn; obtain ⟨hd, h⟩ := dfr_iff h; have hd : ds = [] := hd; subst hd; exact h f rfl rfl rfl rfl rfl rfl rfl rfl,
    fun a M hn h => by obtain ⟨⟨n, f⟩, ds⟩ := a; have hn : n = 65 := hn; subst hn; obtain ⟨hd, h⟩ := dfr_iff h; have hd : ds = [] := hd; subst hd; exact h f rfl rfl rfl rfl rfl rfl,
    trivial⟩
    (cast (by kernel_rfl) h)
def S_r4_Rules_8 (x1 x4 x5 x6 x7 x8 : Value) (M : Store) (Q : KP) : Prop :=
  BR x8 (
  P_r4_Rules_9 x1 x4 x5 x7 x7 M Q
  ) (
  P_r4_Rules_9 x1 x4 x5 x6 x7 M Q
  )
theorem T_r4_Rules_8 {x1 x4 x5 x6 x7 x8 : Value} {M : Store} {Q : KP} (h : S_r4_Rules_8 x1 x4 x5 x6 x7 x8 M Q) : P_r4_Rules_8 x1 x4 x5 x6 x7 x8 M Q := by
  intro f h1 h4 h5 h6 h7 h8; subst h1; subst h4; subst h5; subst h6; subst h7; subst h8
  unfold At
  exact rule (B := 1000) (N := 65) (ct := .no)
    [⟨0, fun a M => dfr a.defers (P_r4_Rules_9 (a.get 1) (a.get 4) (a.get 5) (a.get 6) (a.get 7) M Q), fun a M => At Try.prog Ex none Try.f27 [1, 1, 1, 0, 0, 0, 1, 0, 1, 0, 1, 0, 0, 1, 1] a M Q⟩]
    [] [0] (by kernel_rfl) (by kernel_rfl) (by kernel_rfl) (by kernel_rfl) (by kernel_rfl)
    ⟨fun a M hn h => by obtain ⟨⟨n, f⟩, ds⟩ := a; have hn : n = 65 := hn; subst hn; obtain ⟨hd, h⟩ := dfr_iff h; have hd : ds = [] := hd; subst hd; exact h f rfl rfl rfl rfl rfl,
    trivial⟩
    (cast (by kernel_rfl) h)
def S_r4_Rules_9 (x1 x4 x5 x6 x7 : Value) (M : Store) (Q : KP) : Prop :=
  OP (binI .sub x7 (.int .i64 1)) fun t28 =>
  P_r4_Rules_4 x1 x4 x5 x6 t28 M Q
theorem T_r4_Rules_9 {x1 x4 x5 x6 x7 : Value} {M : Store} {Q : KP} (h : S_r4_Rules_9 x1 x4 x5 x6 x7 M Q) : P_r4_Rules_9 x1 x4 x5 x6 x7 M Q := by
  intro f h1 h4 h5 h6 h7; subst h1; subst h4; subst h5; subst h6; subst h7
  unfold At
  exact rule (B := 1000) (N := 65) (ct := .no)
    [⟨0, fun a M => dfr a.defers (P_r4_Rules_4 (a.get 1) (a.get 4) (a.get 5) (a.get 6) (a.get 7) M Q), fun a M => At Try.prog Ex none Try.f27 [1, 1, 1, 0, 0, 0, 1, 0, 1, 0, 1, 0] a M Q⟩]
    [] [0] (by kernel_rfl) (by kernel_rfl) (by kernel_rfl) (by kernel_rfl) (by kernel_rfl)
    ⟨fun a M hn h => by obtain ⟨⟨n, f⟩, ds⟩ := a; have hn : n = 65 := hn; subst hn; obtain ⟨hd, h⟩ := dfr_iff h; have hd : ds = [] := hd; subst hd; exact h f rfl rfl rfl rfl rfl,
    trivial⟩
    (cast (by kernel_rfl) h)
end Go.G

open Go.RowKit
namespace Go.G
open Go.Ab Go.Proofs
set_option linter.unusedVariables false
set_option maxRecDepth 100000
def P_grph_Wanted_1 (ds : List Deferred) (x5 x7 x23 : Value) (M : Store) (Q : KP) : Prop :=
  ∀ f : Nat → Value, f 5 = x5 → f 7 = x7 → f 23 = x23 → At Try.prog Ex none Try.f21 [1, 1, 1, 0, 1, 0] ⟨⟨43, f⟩, ds⟩ M Q
def P_grph_Wanted_2 (l : Nat) (x7 x8 : Value) (M : Store) (Q : KP) : Prop :=
  ∀ f : Nat → Value, f 7 = x7 → f 8 = x8 → AtY Try.prog Ex l Try.f21 [1, 1, 1, 0, 1, 0, 1] [] ⟨⟨43, f⟩, []⟩ M Q
def P_grph_Wanted_3 (ds : List Deferred) (x5 x7 : Value) (M : Store) (Q : KP) : Prop :=
  ∀ f : Nat → Value, f 5 = x5 → f 7 = x7 → At Try.prog Ex none Try.f21 [1, 1, 1, 1] ⟨⟨43, f⟩, ds⟩ M Q
def P_grph_Wanted_4 (ds : List Deferred) (x7 x9 x27 x28 x29 : Value) (M : Store) (Q : KP) : Prop :=
  ∀ f : Nat → Value, f 7 = x7 → f 9 = x9 → f 27 = x27 → f 28 = x28 → f 29 = x29 → At Try.prog Ex none Try.f21 [1, 1, 1, 1, 1, 0, 1, 0] ⟨⟨43, f⟩, ds⟩ M Q
def P_grph_Wanted_5 (ds : List Deferred) (x7 x9 x27 x28 x29 : Value) (M : Store) (Q : KP) : Prop :=
  ∀ f : Nat → Value, f 7 = x7 → f 9 = x9 → f 27 = x27 → f 28 = x28 → f 29 = x29 → At Try.prog Ex none Try.f21 [1, 1, 1, 1, 1, 0, 1, 0, 0, 1, 1] ⟨⟨43, f⟩, ds⟩ M Q
def P_grph_Wanted_6 (ds : List Deferred) (x9 : Value) (M : Store) (Q : KP) : Prop :=
  ∀ f : Nat → Value, f 9 = x9 → At Try.prog Ex none Try.f21 [1, 1, 1, 1, 1, 1] ⟨⟨43, f⟩, ds⟩ M Q
def S_grph_Wanted (x0 x1 : Value) (M : Store) (Q : KP) : Prop :=
  OP (boxv x0) fun c =>
  LT (.pointer (some ⟨M.n, 0, none⟩)) (M.push (some (.inl (c, Ty.api_Manifest, true)))) fun t2 M1 =>
  OP (ld 2 true t2 M1) fun t13 =>
  R F.grph_Rules #[t13] M1 fun t14 M2 =>
  OP (tup t14 0) fun t15 =>
  OP (tup t14 1) fun t16 =>
  LT (.map (some M2.n)) (M2.push (some (.inr (.inl [])))) fun t17 M3 =>
  LT (.pointer (some ⟨M3.n, 0, none⟩)) (M3.push (some (.inl ([(.map none)], Ty.map_int_int, true)))) fun t7 M4 =>
  OP (st 1 t7 t17 M4) fun M5 =>
  OP (ld 2 true t2 M5) fun t18 =>
  R F.grph_begin #[t18, x1] M5 fun t20 M6 =>
  TDj [0, 1] [M5.n, M5.n, M5.n] M5 M6 ∧
  OP (ld 2 true t2 M6) fun t21 =>
  R F.grph_Ahead #[t21] M6 fun t22 M7 =>
  TDx [0, 0, 3, 0, 15, 31] [M5.n, M5.n, M5.n, M6.n, M6.n] 4 M6 M7 ∧
  R F.grph_Reach_int #[t20, t22] M7 fun t23 M8 =>
  TDx [0, 0, 3, 0, 15, 31] [M5.n, M5.n, M5.n, M6.n, M6.n, M7.n] 5 M7 M8 ∧
  P_grph_Wanted_1 [] t15 t7 t23 M8 Q
theorem T_grph_Wanted {x0 x1 : Value} {M : Store} {Q : KP} (h : S_grph_Wanted x0 x1 M Q) : R F.grph_Wanted #[x0, x1] M Q := by
  refine runs_of (c := bodyOf Try.f21) Try.func21 rfl (by kernel_rfl) (by kernel_rfl) ?_
  unfold At
  exact rule (B := 1000) (N := 43) (ct := (.two .no (.two .no (.two .no (.two (.two .no (.two (.here 1000) .no)) (.here 1001))))))
    [⟨1002, fun a M => P_grph_Wanted_1 a.defers (a.get 5) (a.get 7) (a.get 23) M Q, fun a M => At Try.prog Ex none Try.f21 [1, 1, 1, 0, 1, 0] a M Q⟩,
    ⟨1003, fun _ _ => False, fun a M => At Try.prog Ex none Try.f21 [1, 1, 1, 1] a M Q⟩]
    [1000, 1001] [] (by kernel_rfl) (by kernel_rfl) (by kernel_rfl) (by kernel_rfl) (by kernel_rfl)
    ⟨fun a M hn h => by obtain ⟨⟨n, f⟩, ds⟩ := a; have hn : n = 43 := hn; subst hn; exact h f rfl rfl rfl,
    fun _ _ _ h => h.elim,
    trivial⟩
    (cast (by kernel_rfl) h)
def RC_grph_Wanted_1 (x7 : Value) (st : LoopState) (pe : Nat) (rc : LRec) : Prop := ∃ f : Nat → Value, f 7 = x7 ∧ rc = ⟨st, pe, ⟨43, f⟩, #[24], (sub (bodyOf Try.f21) [1, 1, 1, 0, 1, 0, 0]), (sub (bodyOf Try.f21) [1, 1, 1, 0, 1, 0, 1])⟩
def SY_grph_Wanted_1 (l : Nat) (x7 : Value) (y24 : Value) (M : Store) (Q : KP) : Prop :=
  OP (recOf M l) fun r => r.st = .ready ∧
  P_grph_Wanted_2 l x7 y24 (putRec M l { r with st := .busy }) Q
theorem Y_grph_Wanted_1 {l pe : Nat} {x7 : Value} {y24 : Value} {M : Store} {Q : KP} {rc : LRec} (hr : recOf M l = some rc) (hc : RC_grph_Wanted_1 x7 .ready pe rc) (h : SY_grph_Wanted_1 l x7 y24 M Q) : RunsY Try.prog Ex l #[y24] M Q := by
  obtain ⟨f, h7, hc⟩ := hc; subst h7; subst hc
  refine runsY_of (args := [y24]) hr (by kernel_rfl) ?_
  exact rule (B := 1000) (N := 43) (ct := .no)
    [⟨0, fun a M => OP (recOf M l) fun r => r.st = .ready ∧ dfr a.defers (P_grph_Wanted_2 l (a.get 7) (a.get 8) (putRec M l { r with st := .busy }) Q), fun a M => kmid Try.prog Ex l (sub (bodyOf Try.f21) [1, 1, 1, 0, 1, 0, 1]) Q 0 a M⟩]
    [] [0] (by kernel_rfl) (by kernel_rfl) (by kernel_rfl) (by kernel_rfl) (by kernel_rfl)
    ⟨fun a M hn h => by obtain ⟨⟨n, f⟩, ds⟩ := a; have hn : n = 43 := hn; subst hn; obtain ⟨r, hr, hs, h⟩ := OP_iff.1 h; obtain ⟨hd, h⟩ := dfr_iff h; have hd : ds = [] := hd; subst hd; exact OP_iff.2 ⟨r, hr, hs, cast (by kernel_rfl) (h f rfl rfl)⟩, trivial⟩
    (cast (by kernel_rfl) h)
def S_grph_Wanted_1 (ds : List Deferred) (x5 x7 x23 : Value) (M : Store) (Q : KP) : Prop :=
  ∀ rc : LRec, RC_grph_Wanted_1 x7 .ready 0 rc →
  rfc Try.prog Ex x23 (M.n + 1) ((M.push (some (.inr (.inr none)))).push (some (.inr (.inr (some rc))))) fun _ M1 =>
  OP (recOf M1 (M.n + 1)) fun r => r.st ≠ .busy ∧
  bif Nat.beq 0 r.pe then (
  P_grph_Wanted_3 ({ target := .collected M.n, args := #[] } :: ds) x5 x7 (putRec M1 (M.n + 1) { r with st := .exhausted }) Q
  ) else
  False
theorem T_grph_Wanted_1 {ds : List Deferred} {x5 x7 x23 : Value} {M : Store} {Q : KP} (h : S_grph_Wanted_1 ds x5 x7 x23 M Q) : P_grph_Wanted_1 ds x5 x7 x23 M Q := by
  intro f h5 h7 h23; subst h5; subst h7; subst h23
  unfold At
  refine cast (by kernel_rfl) (CW.rf (P := Try.prog) (E := Ex) (g := .tmp 23) (ps := #[24]) (x := (sub (bodyOf Try.f21) [1, 1, 1, 0, 1, 0, 0])) (y := (sub (bodyOf Try.f21) [1, 1, 1, 0, 1, 0, 1])) (a := ⟨⟨43, f⟩, ds⟩) (M := M) (K := kcont Try.prog Ex none (bodyOf Try.f21) [1, 1, 1, 0, 1, 0] (kfin Try.prog Try.f21.results.toList Q)) ?_)
  refine cast (by kernel_rfl) (rfc_mono (k' := fun _ M' => OP (recOf M' (M.n + 1)) fun r => r.st ≠ .busy ∧ kcont Try.prog Ex none (bodyOf Try.f21) [1, 1, 1, 0, 1, 0] (kfin Try.prog Try.f21.results.toList Q) r.pe ⟨⟨43, f⟩, { target := .collected M.n, args := #[] } :: ds⟩ (putRec M' (M.n + 1) { r with st := .exhausted })) (h ⟨.ready, 0, ⟨43, f⟩, #[24], (sub (bodyOf Try.f21) [1, 1, 1, 0, 1, 0, 0]), (sub (bodyOf Try.f21) [1, 1, 1, 0, 1, 0, 1])⟩ ⟨f, rfl, rfl⟩) ?_)
  intro _ M1 h
  obtain ⟨r, hr, hs, h⟩ := OP_iff.1 h
  refine OP_iff.2 ⟨r, hr, hs, ?_⟩
  exact disp_K (N := 43) (L := [⟨0, fun a M => P_grph_Wanted_3 a.defers (a.get 5) (a.get 7) M Q, fun a M => At Try.prog Ex none Try.f21 [1, 1, 1, 1] a M Q⟩])
    [0] (by kernel_rfl) (by kernel_rfl)
    ⟨fun a M hn h => by obtain ⟨⟨n, f⟩, ds⟩ := a; have hn : n = 43 := hn; subst hn; exact h f rfl rfl,
    trivial⟩
    rfl (cast (by kernel_rfl) h)
def S_grph_Wanted_2 (l : Nat) (x7 x8 : Value) (M : Store) (Q : KP) : Prop :=
  OP (ld 1 false x7 M) fun t25 =>
  OP (mup (.int .i64) t25 x8 (.int .i64 1) M) fun M1 =>
  YE l 0 M1 Q
theorem T_grph_Wanted_2 {l : Nat} {x7 x8 : Value} {M : Store} {Q : KP} (h : S_grph_Wanted_2 l x7 x8 M Q) : P_grph_Wanted_2 l x7 x8 M Q := by
  intro f h7 h8; subst h7; subst h8
  unfold AtY
  exact rule (B := 1000) (N := 43) (ct := .no)
    [⟨0, fun a M => kfinY l Q 0 a M, fun a M => kfinY l Q 0 a M⟩]
    [] [0] (by kernel_rfl) (by kernel_rfl) (by kernel_rfl) (by kernel_rfl) (by kernel_rfl)
    ⟨fun _ _ _ h => h,
    trivial⟩
    (cast (by kernel_rfl) h)
def S_grph_Wanted_3 (ds : List Deferred) (x5 x7 : Value) (M : Store) (Q : KP) : Prop :=
  OP (lenV x5) fun t28 =>
  P_grph_Wanted_4 ds x7 (.slice none 0 0) x5 t28 (.int .i64 0) M Q
theorem T_grph_Wanted_3 {ds : List Deferred} {x5 x7 : Value} {M : Store} {Q : KP} (h : S_grph_Wanted_3 ds x5 x7 M Q) : P_grph_Wanted_3 ds x5 x7 M Q := by
  intro f h5 h7; subst h5; subst h7
  unfold At
  exact rule (B := 1000) (N := 43) (ct := (.two .no (.two (.two .no (.two (.here 1000) .no)) (.here 1001))))
    [⟨1002, fun a M => P_grph_Wanted_4 a.defers (a.get 7) (a.get 9) (a.get 27) (a.get 28) (a.get 29) M Q, fun a M => At Try.prog Ex none Try.f21 [1, 1, 1, 1, 1, 0, 1, 0] a M Q⟩,
    ⟨1003, fun _ _ => False, fun a M => At Try.prog Ex none Try.f21 [1, 1, 1, 1, 1, 1] a M Q⟩]
    [1000, 1001] [] (by kernel_rfl) (by kernel_rfl) (by kernel_rfl) (by kernel_rfl) (by kernel_rfl)
    ⟨fun a M hn h => by obtain ⟨⟨n, f⟩, ds⟩ := a; have hn : n = 43 := hn; subst hn; exact h f rfl rfl rfl rfl rfl,
    fun _ _ _ h => h.elim,
    trivial⟩
    (cast (by kernel_rfl) h)
def S_grph_Wanted_4 (ds : List Deferred) (x7 x9 x27 x28 x29 : Value) (M : Store) (Q : KP) : Prop :=
  OP (binI .lss x29 x28) fun t30 =>
  BR t30 (
  P_grph_Wanted_5 ds x7 x9 x27 x28 x29 M Q
  ) (
  P_grph_Wanted_6 ds x9 M Q
  )
theorem T_grph_Wanted_4 {ds : List Deferred} {x7 x9 x27 x28 x29 : Value} {M : Store} {Q : KP} (h : S_grph_Wanted_4 ds x7 x9 x27 x28 x29 M Q) : P_grph_Wanted_4 ds x7 x9 x27 x28 x29 M Q := by
  intro f h7 h9 h27 h28 h29; subst h7; subst h9; subst h27; subst h28; subst h29
  unfold At
  refine cast (by kernel_rfl) (CW.loop (P := Try.prog) (E := Ex) (rd := none) (x := sub (bodyOf Try.f21) [1, 1, 1, 1, 1, 0, 1, 0, 0]) (a := ⟨⟨43, f⟩, ds⟩) (M := M) (K := kcont Try.prog Ex none (bodyOf Try.f21) [1, 1, 1, 1, 1, 0, 1, 0] (kfin Try.prog Try.f21.results.toList Q)) ?_)
  exact rule (B := 1000) (N := 43) (ct := (.two .no (.two .no (.here 1000))))
    [⟨1002, fun a M => P_grph_Wanted_5 a.defers (a.get 7) (a.get 9) (a.get 27) (a.get 28) (a.get 29) M Q, fun a M => At Try.prog Ex none Try.f21 [1, 1, 1, 1, 1, 0, 1, 0, 0, 1, 1] a M Q⟩,
    ⟨4, fun a M => P_grph_Wanted_6 a.defers (a.get 9) M Q, fun a M => At Try.prog Ex none Try.f21 [1, 1, 1, 1, 1, 1] a M Q⟩]
    [1000] [4] (by kernel_rfl) (by kernel_rfl) (by kernel_rfl) (by kernel_rfl) (by kernel_rfl)
    ⟨fun a M hn h => by obtain ⟨⟨n, f⟩, ds⟩ := a; have hn : n = 43 := hn; subst hn; exact h f rfl rfl rfl rfl rfl,
    fun a M hn h => by obtain ⟨⟨n, f⟩, ds⟩ := a; have hn : n = 43 := hn; subst hn; exact h f rfl,
    trivial⟩
    (cast (by kernel_rfl) h)
def S_grph_Wanted_5 (ds : List Deferred) (x7 x9 x27 x28 x29 : Value) (M : Store) (Q : KP) : Prop :=
  OP (ixA 1 x27 x29) fun t31 =>
  OP (ld 1 false t31 M) fun t32 =>
  OP (ld 1 false x7 M) fun t33 =>
  OP (lku (.int .i64) (.int .i64 0) t33 t32 false M) fun t35 =>
  OP (binI .eql t35 (.int .i64 1)) fun t36 =>
  BR t36 (
  OP (bldL (.int .i64 0) 1 1 [(0, t32)]) fun c =>
  LT (.slice (some ⟨M.n, 0, none⟩) 1 1) (M.push (some (.inl (c, Ty.int, true)))) fun t39 M1 =>
  OP2 (appV 1 Ty.int x9 t39 M1) fun t40 M2 =>
  OP (binI .add x29 (.int .i64 1)) fun t41 =>
  P_grph_Wanted_4 ds x7 t40 x27 x28 t41 M2 Q
  ) (
  OP (binI .add x29 (.int .i64 1)) fun t41_1 =>
  P_grph_Wanted_4 ds x7 x9 x27 x28 t41_1 M Q
  )
theorem T_grph_Wanted_5 {ds : List Deferred} {x7 x9 x27 x28 x29 : Value} {M : Store} {Q : KP} (h : S_grph_Wanted_5 ds x7 x9 x27 x28 x29 M Q) : P_grph_Wanted_5 ds x7 x9 x27 x28 x29 M Q := by
  intro f h7 h9 h27 h28 h29; subst h7; subst h9; subst h27; subst h28; subst h29
  unfold At
  exact rule (B := 1000) (N := 43) (ct := .no)
    [⟨0, fun a M => P_grph_Wanted_4 a.defers (a.get 7) (a.get 9) (a.get 27) (a.get 28) (a.get 29) M Q, fun a M => At Try.prog Ex none Try.f21 [1, 1, 1, 1, 1, 0, 1, 0] a M Q⟩]
    [] [0] (by kernel_rfl) (by kernel_rfl) (by kernel_rfl) (by kernel_rfl) (by kernel_rfl)
    ⟨fun a M hn h => by obtain ⟨⟨n, f⟩, ds⟩ := a; have hn : n = 43 := hn; subst hn; exact h f rfl rfl rfl rfl rfl,
    trivial⟩
    (cast (by kernel_rfl) h)
def S_grph_Wanted_6 (ds : List Deferred) (x9 : Value) (M : Store) (Q : KP) : Prop :=
  OP (atake ds M) fun M1 =>
  NTs [x9] ∧ Q x9 M1
theorem T_grph_Wanted_6 {ds : List Deferred} {x9 : Value} {M : Store} {Q : KP} (h : S_grph_Wanted_6 ds x9 M Q) : P_grph_Wanted_6 ds x9 M Q := by
  intro f h9; subst h9
  unfold At
  exact rule (B := 1000) (N := 43) (ct := .no)
    [⟨1, fun a M => kfin Try.prog Try.f21.results.toList Q 1 a M, fun a M => kfin Try.prog Try.f21.results.toList Q 1 a M⟩]
    [] [1] (by kernel_rfl) (by kernel_rfl) (by kernel_rfl) (by kernel_rfl) (by kernel_rfl)
    ⟨fun _ _ _ h => h,
    trivial⟩
    (cast (by kernel_rfl) h)
def P_grph_Rules_1 (x1 x4 x8 x9 : Value) (M : Store) (Q : KP) : Prop :=
  ∀ f : Nat → Value, f 1 = x1 → f 4 = x4 → f 8 = x8 → f 9 = x9 → At Try.prog Ex none Try.f26 [1, 1, 0, 1, 0] ⟨⟨23, f⟩, []⟩ M Q
def P_grph_Rules_2 (x1 x4 : Value) (M : Store) (Q : KP) : Prop :=
  ∀ f : Nat → Value, f 1 = x1 → f 4 = x4 → At Try.prog Ex none Try.f26 [1, 1, 1] ⟨⟨23, f⟩, []⟩ M Q
def S_grph_Rules (x0 : Value) (M : Store) (Q : KP) : Prop :=
  OP (boxv x0) fun c =>
  LT (.pointer (some ⟨M.n, 0, none⟩)) (M.push (some (.inl (c, Ty.api_Manifest, true)))) fun t1 M1 =>
  OP (fad 0 t1) fun t6 =>
  OP (ld 1 false t6 M1) fun t7 =>
  OP (lenV t7) fun t8 =>
  P_grph_Rules_1 t1 (.slice none 0 0) t8 (.int .i64 0) M1 Q
theorem T_grph_Rules {x0 : Value} {M : Store} {Q : KP} (h : S_grph_Rules x0 M Q) : R F.grph_Rules #[x0] M Q := by
  refine runs_of (c := bodyOf Try.f26) Try.func26 rfl (by kernel_rfl) (by kernel_rfl) ?_
  unfold At
  exact rule (B := 1000) (N := 23) (ct := (.two .no (.two .no (.two (.two .no (.two (.here 1000) .no)) (.here 1001)))))
    [⟨1002, fun a M => dfr a.defers (P_grph_Rules_1 (a.get 1) (a.get 4) (a.get 8) (a.get 9) M Q), fun a M => At Try.prog Ex none Try.f26 [1, 1, 0, 1, 0] a M Q⟩,
    ⟨1003, fun _ _ => False, fun a M => At Try.prog Ex none Try.f26 [1, 1, 1] a M Q⟩]
    [1000, 1001] [] (by kernel_rfl) (by kernel_rfl) (by kernel_rfl) (by kernel_rfl) (by kernel_rfl)
    ⟨fun a M hn h => by obtain ⟨⟨n, f⟩, ds⟩ := a; have hn : n = 23 := hn; subst hn; obtain ⟨hd, h⟩ := dfr_iff h; have hd : ds = [] := hd; subst hd; exact h f rfl rfl rfl rfl,
    fun _ _ _ h => h.elim,
    trivial⟩
    (cast (by kernel_rfl) h)
def S_grph_Rules_1 (x1 x4 x8 x9 : Value) (M : Store) (Q : KP) : Prop :=
  OP (binI .lss x9 x8) fun t10 =>
  BR t10 (
  OP (bldL (.int .i64 0) 1 1 [(0, x9)]) fun c =>
  LT (.slice (some ⟨M.n, 0, none⟩) 1 1) (M.push (some (.inl (c, Ty.int, true)))) fun t14 M1 =>
  OP2 (appV 1 Ty.int x4 t14 M1) fun t15 M2 =>
  OP (binI .add x9 (.int .i64 1)) fun t16 =>
  P_grph_Rules_1 x1 t15 x8 t16 M2 Q
  ) (
  P_grph_Rules_2 x1 x4 M Q
  )
theorem T_grph_Rules_1 {x1 x4 x8 x9 : Value} {M : Store} {Q : KP} (h : S_grph_Rules_1 x1 x4 x8 x9 M Q) : P_grph_Rules_1 x1 x4 x8 x9 M Q := by
  intro f h1 h4 h8 h9; subst h1; subst h4; subst h8; subst h9
  unfold At
  refine cast (by kernel_rfl) (CW.loop (P := Try.prog) (E := Ex) (rd := none) (x := sub (bodyOf Try.f26) [1, 1, 0, 1, 0, 0]) (a := ⟨⟨23, f⟩, []⟩) (M := M) (K := kcont Try.prog Ex none (bodyOf Try.f26) [1, 1, 0, 1, 0] (kfin Try.prog Try.f26.results.toList Q)) ?_)
  exact rule (B := 1000) (N := 23) (ct := .no)
    [⟨0, fun a M => dfr a.defers (P_grph_Rules_1 (a.get 1) (a.get 4) (a.get 8) (a.get 9) M Q), fun a M => At Try.prog Ex none Try.f26 [1, 1, 0, 1, 0] a M Q⟩,
    ⟨2, fun a M => dfr a.defers (P_grph_Rules_2 (a.get 1) (a.get 4) M Q), fun a M => At Try.prog Ex none Try.f26 [1, 1, 1] a M Q⟩]
    [] [0, 2] (by kernel_rfl) (by kernel_rfl) (by kernel_rfl) (by kernel_rfl) (by kernel_rfl)
    ⟨fun a M hn h => by obtain ⟨⟨n, f⟩, ds⟩ := a; have hn : n = 23 := hn; subst hn; obtain ⟨hd, h⟩ := dfr_iff h; have hd : ds = [] := hd; subst hd; exact h f rfl rfl rfl rfl,
    fun a M hn h => by obtain ⟨⟨n, f⟩, ds⟩ := a; have hn : n = 23 := hn; subst hn; obtain ⟨hd, h⟩ := dfr_iff h; have hd : ds = [] := hd; subst hd; exact h f rfl rfl,
    trivial⟩
    (cast (by kernel_rfl) h)
def S_grph_Rules_2 (x1 x4 : Value) (M : Store) (Q : KP) : Prop :=
  OP (ld 2 true x1 M) fun t18 =>
  R F.grph_Ahead #[t18] M fun t19 M1 =>
  R F.grph_Order_int #[x4, t19] M1 fun t20 M2 =>
  OP (tup t20 0) fun t21 =>
  OP (tup t20 1) fun t22 =>
  NTs [t21, t22] ∧ Q (.tuple #[t21, t22]) M2
theorem T_grph_Rules_2 {x1 x4 : Value} {M : Store} {Q : KP} (h : S_grph_Rules_2 x1 x4 M Q) : P_grph_Rules_2 x1 x4 M Q := by
  intro f h1 h4; subst h1; subst h4
  unfold At
  exact rule (B := 1000) (N := 23) (ct := .no)
    [⟨1, fun a M => kfin Try.prog Try.f26.results.toList Q 1 a M, fun a M => kfin Try.prog Try.f26.results.toList Q 1 a M⟩]
    [] [1] (by kernel_rfl) (by kernel_rfl) (by kernel_rfl) (by kernel_rfl) (by kernel_rfl)
    ⟨fun _ _ _ h => h,
    trivial⟩
    (cast (by kernel_rfl) h)
def P_grph_begin_1 (x3 x5 x14 x15 x16 : Value) (M : Store) (Q : KP) : Prop :=
  ∀ f : Nat → Value, f 3 = x3 → f 5 = x5 → f 14 = x14 → f 15 = x15 → f 16 = x16 → At Try.prog Ex none Try.f50 [1, 1, 1, 0, 1, 0] ⟨⟨36, f⟩, []⟩ M Q
def P_grph_begin_2 (x3 x5 x14 x15 x16 : Value) (M : Store) (Q : KP) : Prop :=
  ∀ f : Nat → Value, f 3 = x3 → f 5 = x5 → f 14 = x14 → f 15 = x15 → f 16 = x16 → At Try.prog Ex none Try.f50 [1, 1, 1, 0, 1, 0, 0, 1, 1] ⟨⟨36, f⟩, []⟩ M Q
def P_grph_begin_3 (x5 : Value) (M : Store) (Q : KP) : Prop :=
  ∀ f : Nat → Value, f 5 = x5 → At Try.prog Ex none Try.f50 [1, 1, 1, 1] ⟨⟨36, f⟩, []⟩ M Q
def S_grph_begin (x0 x1 : Value) (M : Store) (Q : KP) : Prop :=
  OP (boxv x0) fun c =>
  LT (.pointer (some ⟨M.n, 0, none⟩)) (M.push (some (.inl (c, Ty.api_Manifest, true)))) fun t2 M1 =>
  OP (boxv x1) fun c_1 =>
  LT (.pointer (some ⟨M1.n, 0, none⟩)) (M1.push (some (.inl (c_1, Ty.sl_string, true)))) fun t3 M2 =>
  OP (ld 1 false t3 M2) fun t8 =>
  OP (lenV t8) fun t9 =>
  OP (binI .eql t9 (.int .i64 0)) fun t10 =>
  BR t10 (
  OP (fad 1 t2) fun t11 =>
  OP (ld 1 false t11 M2) fun t12 =>
  OP (st 1 t3 t12 M2) fun M3 =>
  OP (fad 0 t2) fun t13 =>
  OP (ld 1 false t13 M3) fun t14 =>
  OP (lenV t14) fun t15 =>
  P_grph_begin_1 t3 (.slice none 0 0) t14 t15 (.int .i64 0) M3 Q
  ) (
  OP (fad 0 t2) fun t13_1 =>
  OP (ld 1 false t13_1 M2) fun t14_1 =>
  OP (lenV t14_1) fun t15_1 =>
  P_grph_begin_1 t3 (.slice none 0 0) t14_1 t15_1 (.int .i64 0) M2 Q
  )
theorem T_grph_begin {x0 x1 : Value} {M : Store} {Q : KP} (h : S_grph_begin x0 x1 M Q) : R F.grph_begin #[x0, x1] M Q := by
  refine runs_of (c := bodyOf Try.f50) Try.func50 rfl (by kernel_rfl) (by kernel_rfl) ?_
  unfold At
  exact rule (B := 1000) (N := 36) (ct := (.two .no (.two .no (.two .no (.two (.two .no (.two (.here 1000) .no)) (.here 1001))))))
    [⟨1002, fun a M => dfr a.defers (P_grph_begin_1 (a.get 3) (a.get 5) (a.get 14) (a.get 15) (a.get 16) M Q), fun a M => At Try.prog Ex none Try.f50 [1, 1, 1, 0, 1, 0] a M Q⟩,
    ⟨1003, fun _ _ => False, fun a M => At Try.prog Ex none Try.f50 [1, 1, 1, 1] a M Q⟩]
    [1000, 1001] [] (by kernel_rfl) (by kernel_rfl) (by kernel_rfl) (by kernel_rfl) (by kernel_rfl)
    ⟨fun a M hn h => by obtain ⟨⟨n, f⟩, ds⟩ := a; have hn : n = 36 := hn; subst hn; obtain ⟨hd, h⟩ := dfr_iff h; have hd : ds = [] := hd; subst hd; exact h f rfl rfl rfl rfl rfl,
    fun _ _ _ h => h.elim,
    trivial⟩
    (cast (by kernel_rfl) h)
def S_grph_begin_1 (x3 x5 x14 x15 x16 : Value) (M : Store) (Q : KP) : Prop :=
  OP (binI .lss x16 x15) fun t17 =>
  BR t17 (
  P_grph_begin_2 x3 x5 x14 x15 x16 M Q
  ) (
  P_grph_begin_3 x5 M Q
  )
theorem T_grph_begin_1 {x3 x5 x14 x15 x16 : Value} {M : Store} {Q : KP} (h : S_grph_begin_1 x3 x5 x14 x15 x16 M Q) : P_grph_begin_1 x3 x5 x14 x15 x16 M Q := by
  intro f h3 h5 h14 h15 h16; subst h3; subst h5; subst h14; subst h15; subst h16
  unfold At
  refine cast (by kernel_rfl) (CW.loop (P := Try.prog) (E := Ex) (rd := none) (x := sub (bodyOf Try.f50) [1, 1, 1, 0, 1, 0, 0]) (a := ⟨⟨36, f⟩, []⟩) (M := M) (K := kcont Try.prog Ex none (bodyOf Try.f50) [1, 1, 1, 0, 1, 0] (kfin Try.prog Try.f50.results.toList Q)) ?_)
  exact rule (B := 1000) (N := 36) (ct := (.two .no (.two .no (.here 1000))))
    [⟨1002, fun a M => dfr a.defers (P_grph_begin_2 (a.get 3) (a.get 5) (a.get 14) (a.get 15) (a.get 16) M Q), fun a M => At Try.prog Ex none Try.f50 [1, 1, 1, 0, 1, 0, 0, 1, 1] a M Q⟩,
    ⟨2, fun a M => dfr a.defers (P_grph_begin_3 (a.get 5) M Q), fun a M => At Try.prog Ex none Try.f50 [1, 1, 1, 1] a M Q⟩]
    [1000] [2] (by kernel_rfl) (by kernel_rfl) (by kernel_rfl) (by kernel_rfl) (by kernel_rfl)
    ⟨fun a M hn h => by obtain ⟨⟨n, f⟩, ds⟩ := a; have hn : n = 36 := hn; subst hn; obtain ⟨hd, h⟩ := dfr_iff h; have hd : ds = [] := hd; subst hd; exact h f rfl rfl rfl rfl rfl,
    fun a M hn h => by obtain ⟨⟨n, f⟩, ds⟩ := a; have hn : n = 36 := hn; subst hn; obtain ⟨hd, h⟩ := dfr_iff h; have hd : ds = [] := hd; subst hd; exact h f rfl,
    trivial⟩
    (cast (by kernel_rfl) h)
def S_grph_begin_2 (x3 x5 x14 x15 x16 : Value) (M : Store) (Q : KP) : Prop :=
  OP (ixA 5 x14 x16) fun t19 =>
  OP (ld 5 true t19 M) fun t20 =>
  LT (.pointer (some ⟨M.n, 0, none⟩)) (M.push (some (.inl ([(.slice none 0 0), (.slice none 0 0), (.slice none 0 0), (.slice none 0 0), (.bool false)], Ty.api_Rule, true)))) fun t7 M1 =>
  OP (st 5 t7 t20 M1) fun M2 =>
  OP (ld 1 false x3 M2) fun t21 =>
  OP (lenV t21) fun t22 =>
  OP (binI .eql t22 (.int .i64 0)) fun t23 =>
  BR t23 (
  OP (bldL (.int .i64 0) 1 1 [(0, x16)]) fun c =>
  LT (.slice (some ⟨M2.n, 0, none⟩) 1 1) (M2.push (some (.inl (c, Ty.int, true)))) fun t32 M3 =>
  OP2 (appV 1 Ty.int x5 t32 M3) fun t33 M4 =>
  OP (binI .add x16 (.int .i64 1)) fun t34 =>
  P_grph_begin_1 x3 t33 x14 x15 t34 M4 Q
  ) (
  OP (fad 0 t7) fun t25 =>
  OP (ld 1 false t25 M2) fun t26 =>
  OP (mkF (.func F.grph_begin_c1) [] [x3]) fun t27 =>
  R F.sContainsFuncS #[t26, t27] M2 fun t28 M5 =>
  BR t28 (
  OP (bldL (.int .i64 0) 1 1 [(0, x16)]) fun c_1 =>
  LT (.slice (some ⟨M5.n, 0, none⟩) 1 1) (M5.push (some (.inl (c_1, Ty.int, true)))) fun t32_1 M6 =>
  OP2 (appV 1 Ty.int x5 t32_1 M6) fun t33_1 M7 =>
  OP (binI .add x16 (.int .i64 1)) fun t34_1 =>
  P_grph_begin_1 x3 t33_1 x14 x15 t34_1 M7 Q
  ) (
  OP (binI .add x16 (.int .i64 1)) fun t34_2 =>
  P_grph_begin_1 x3 x5 x14 x15 t34_2 M5 Q
  )
  )
theorem T_grph_begin_2 {x3 x5 x14 x15 x16 : Value} {M : Store} {Q : KP} (h : S_grph_begin_2 x3 x5 x14 x15 x16 M Q) : P_grph_begin_2 x3 x5 x14 x15 x16 M Q := by
  intro f h3 h5 h14 h15 h16; subst h3; subst h5; subst h14; subst h15; subst h16
  unfold At
  exact rule (B := 1000) (N := 36) (ct := .no)
    [⟨0, fun a M => dfr a.defers (P_grph_begin_1 (a.get 3) (a.get 5) (a.get 14) (a.get 15) (a.get 16) M Q), fun a M => At Try.prog Ex none Try.f50 [1, 1, 1, 0, 1, 0] a M Q⟩]
    [] [0] (by kernel_rfl) (by kernel_rfl) (by kernel_rfl) (by kernel_rfl) (by kernel_rfl)
    ⟨fun a M hn h => by obtain ⟨⟨n, f⟩, ds⟩ := a; have hn : n = 36 := hn; subst hn; obtain ⟨hd, h⟩ := dfr_iff h; have hd : ds = [] := hd; subst hd; exact h f rfl rfl rfl rfl rfl,
    trivial⟩
    (cast (by kernel_rfl) h)
def S_grph_begin_3 (x5 : Value) (M : Store) (Q : KP) : Prop :=
  NTs [x5] ∧ Q x5 M
theorem T_grph_begin_3 {x5 : Value} {M : Store} {Q : KP} (h : S_grph_begin_3 x5 M Q) : P_grph_begin_3 x5 M Q := by
  intro f h5; subst h5
  unfold At
  exact rule (B := 1000) (N := 36) (ct := .no)
    [⟨1, fun a M => kfin Try.prog Try.f50.results.toList Q 1 a M, fun a M => kfin Try.prog Try.f50.results.toList Q 1 a M⟩]
    [] [1] (by kernel_rfl) (by kernel_rfl) (by kernel_rfl) (by kernel_rfl) (by kernel_rfl)
    ⟨fun _ _ _ h => h,
    trivial⟩
    (cast (by kernel_rfl) h)
def S_grph_Ahead (x0 : Value) (M : Store) (Q : KP) : Prop :=
  OP (boxv x0) fun c =>
  LT (.pointer (some ⟨M.n, 0, none⟩)) (M.push (some (.inl (c, Ty.api_Manifest, true)))) fun t1 M1 =>
  OP (ld 2 true t1 M1) fun t4 =>
  R F.grph_outs #[t4] M1 fun t5 M2 =>
  LT (.pointer (some ⟨M2.n, 0, none⟩)) (M2.push (some (.inl ([(.map none)], Ty.map_string_sl_int, true)))) fun t3 M3 =>
  OP (st 1 t3 t5 M3) fun M4 =>
  OP (mkF (.func F.grph_Ahead_c1) [] [t1, t3]) fun t6 =>
  NTs [t6] ∧ Q t6 M4
theorem T_grph_Ahead {x0 : Value} {M : Store} {Q : KP} (h : S_grph_Ahead x0 M Q) : R F.grph_Ahead #[x0] M Q := by
  refine runs_of (c := bodyOf Try.f51) Try.func51 rfl (by kernel_rfl) (by kernel_rfl) ?_
  unfold At
  exact rule (B := 1000) (N := 7) (ct := .no)
    [⟨1, fun a M => kfin Try.prog Try.f51.results.toList Q 1 a M, fun a M => kfin Try.prog Try.f51.results.toList Q 1 a M⟩]
    [] [1] (by kernel_rfl) (by kernel_rfl) (by kernel_rfl) (by kernel_rfl) (by kernel_rfl)
    ⟨fun _ _ _ h => h,
    trivial⟩
    (cast (by kernel_rfl) h)
def S_sContainsFuncS (x0 x1 : Value) (M : Store) (Q : KP) : Prop :=
  R F.sIndexFuncS #[x0, x1] M fun t7 M1 =>
  OP (binI .geq t7 (.int .i64 0)) fun t8 =>
  NTs [t8] ∧ Q t8 M1
theorem T_sContainsFuncS {x0 x1 : Value} {M : Store} {Q : KP} (h : S_sContainsFuncS x0 x1 M Q) : R F.sContainsFuncS #[x0, x1] M Q := by
  refine runs_of (c := bodyOf Try.f69) Try.func69 rfl (by kernel_rfl) (by kernel_rfl) ?_
  unfold At
  exact rule (B := 1000) (N := 9) (ct := .no)
    [⟨1, fun a M => kfin Try.prog Try.f69.results.toList Q 1 a M, fun a M => kfin Try.prog Try.f69.results.toList Q 1 a M⟩]
    [] [1] (by kernel_rfl) (by kernel_rfl) (by kernel_rfl) (by kernel_rfl) (by kernel_rfl)
    ⟨fun _ _ _ h => h,
    trivial⟩
    (cast (by kernel_rfl) h)
def S_grph_begin_c1 (x0 x1 : Value) (M : Store) (Q : KP) : Prop :=
  OP (ld 1 false x1 M) fun t4 =>
  R F.sContainsS #[t4, x0] M fun t6 M1 =>
  NTs [t6] ∧ Q t6 M1
theorem T_grph_begin_c1 {x0 x1 : Value} {M : Store} {Q : KP} (h : S_grph_begin_c1 x0 x1 M Q) : R F.grph_begin_c1 #[x0, x1] M Q := by
  refine runs_of (c := bodyOf Try.f70) Try.func70 rfl (by kernel_rfl) (by kernel_rfl) ?_
  unfold At
  exact rule (B := 1000) (N := 7) (ct := .no)
    [⟨1, fun a M => kfin Try.prog Try.f70.results.toList Q 1 a M, fun a M => kfin Try.prog Try.f70.results.toList Q 1 a M⟩]
    [] [1] (by kernel_rfl) (by kernel_rfl) (by kernel_rfl) (by kernel_rfl) (by kernel_rfl)
    ⟨fun _ _ _ h => h,
    trivial⟩
    (cast (by kernel_rfl) h)
def S_sContainsS (x0 x1 : Value) (M : Store) (Q : KP) : Prop :=
  R F.sIndexS #[x0, x1] M fun t7 M1 =>
  OP (binI .geq t7 (.int .i64 0)) fun t8 =>
  NTs [t8] ∧ Q t8 M1
theorem T_sContainsS {x0 x1 : Value} {M : Store} {Q : KP} (h : S_sContainsS x0 x1 M Q) : R F.sContainsS #[x0, x1] M Q := by
  refine runs_of (c := bodyOf Try.f71) Try.func71 rfl (by kernel_rfl) (by kernel_rfl) ?_
  unfold At
  exact rule (B := 1000) (N := 9) (ct := .no)
    [⟨1, fun a M => kfin Try.prog Try.f71.results.toList Q 1 a M, fun a M => kfin Try.prog Try.f71.results.toList Q 1 a M⟩]
    [] [1] (by kernel_rfl) (by kernel_rfl) (by kernel_rfl) (by kernel_rfl) (by kernel_rfl)
    ⟨fun _ _ _ h => h,
    trivial⟩
    (cast (by kernel_rfl) h)
def P_grph_outs_1 (x3 x10 x11 x12 : Value) (M : Store) (Q : KP) : Prop :=
  ∀ f : Nat → Value, f 3 = x3 → f 10 = x10 → f 11 = x11 → f 12 = x12 → At Try.prog Ex none Try.f72 [1, 1, 0, 1, 0] ⟨⟨35, f⟩, []⟩ M Q
def P_grph_outs_2 (x3 x10 x11 x12 : Value) (M : Store) (Q : KP) : Prop :=
  ∀ f : Nat → Value, f 3 = x3 → f 10 = x10 → f 11 = x11 → f 12 = x12 → At Try.prog Ex none Try.f72 [1, 1, 0, 1, 0, 0, 1, 1] ⟨⟨35, f⟩, []⟩ M Q
def P_grph_outs_3 (x3 : Value) (M : Store) (Q : KP) : Prop :=
  ∀ f : Nat → Value, f 3 = x3 → At Try.prog Ex none Try.f72 [1, 1, 1] ⟨⟨35, f⟩, []⟩ M Q
def P_grph_outs_4 (x3 x4 x10 x11 x12 x18 x19 x20 : Value) (M : Store) (Q : KP) : Prop :=
  ∀ f : Nat → Value, f 3 = x3 → f 4 = x4 → f 10 = x10 → f 11 = x11 → f 12 = x12 → f 18 = x18 → f 19 = x19 → f 20 = x20 → At Try.prog Ex none Try.f72 [1, 1, 0, 1, 0, 0, 1, 1, 0, 0, 1, 1, 0] ⟨⟨35, f⟩, []⟩ M Q
def P_grph_outs_5 (x3 x4 x10 x11 x12 x18 x19 x20 : Value) (M : Store) (Q : KP) : Prop :=
  ∀ f : Nat → Value, f 3 = x3 → f 4 = x4 → f 10 = x10 → f 11 = x11 → f 12 = x12 → f 18 = x18 → f 19 = x19 → f 20 = x20 → At Try.prog Ex none Try.f72 [1, 1, 0, 1, 0, 0, 1, 1, 0, 0, 1, 1, 0, 0, 1, 1] ⟨⟨35, f⟩, []⟩ M Q
def P_grph_outs_6 (x3 x10 x11 x12 : Value) (M : Store) (Q : KP) : Prop :=
  ∀ f : Nat → Value, f 3 = x3 → f 10 = x10 → f 11 = x11 → f 12 = x12 → At Try.prog Ex none Try.f72 [1, 1, 0, 1, 0, 0, 1, 1, 1] ⟨⟨35, f⟩, []⟩ M Q
def S_grph_outs (x0 : Value) (M : Store) (Q : KP) : Prop :=
  OP (boxv x0) fun c =>
  LT (.pointer (some ⟨M.n, 0, none⟩)) (M.push (some (.inl (c, Ty.api_Manifest, true)))) fun t1 M1 =>
  LT (.map (some M1.n)) (M1.push (some (.inr (.inl [])))) fun t8 M2 =>
  OP (fad 0 t1) fun t9 =>
  OP (ld 1 false t9 M2) fun t10 =>
  OP (lenV t10) fun t11 =>
  P_grph_outs_1 t8 t10 t11 (.int .i64 0) M2 Q
theorem T_grph_outs {x0 : Value} {M : Store} {Q : KP} (h : S_grph_outs x0 M Q) : R F.grph_outs #[x0] M Q := by
  refine runs_of (c := bodyOf Try.f72) Try.func72 rfl (by kernel_rfl) (by kernel_rfl) ?_
  unfold At
  exact rule (B := 1000) (N := 35) (ct := (.two .no (.two .no (.two (.two .no (.two (.here 1000) .no)) (.here 1001)))))
    [⟨1002, fun a M => dfr a.defers (P_grph_outs_1 (a.get 3) (a.get 10) (a.get 11) (a.get 12) M Q), fun a M => At Try.prog Ex none Try.f72 [1, 1, 0, 1, 0] a M Q⟩,
    ⟨1003, fun _ _ => False, fun a M => At Try.prog Ex none Try.f72 [1, 1, 1] a M Q⟩]
    [1000, 1001] [] (by kernel_rfl) (by kernel_rfl) (by kernel_rfl) (by kernel_rfl) (by kernel_rfl)
    ⟨fun a M hn h => by obtain ⟨⟨n, f⟩, ds⟩ := a; have hn : n = 35 := hn; subst hn; obtain ⟨hd, h⟩ := dfr_iff h; have hd : ds = [] := hd; subst hd; exact h f rfl rfl rfl rfl,
    fun _ _ _ h => h.elim,
    trivial⟩
    (cast (by kernel_rfl) h)
def S_grph_outs_1 (x3 x10 x11 x12 : Value) (M : Store) (Q : KP) : Prop :=
  OP (binI .lss x12 x11) fun t13 =>
  BR t13 (
  P_grph_outs_2 x3 x10 x11 x12 M Q
  ) (
  P_grph_outs_3 x3 M Q
  )
theorem T_grph_outs_1 {x3 x10 x11 x12 : Value} {M : Store} {Q : KP} (h : S_grph_outs_1 x3 x10 x11 x12 M Q) : P_grph_outs_1 x3 x10 x11 x12 M Q := by
  intro f h3 h10 h11 h12; subst h3; subst h10; subst h11; subst h12
  unfold At
  refine cast (by kernel_rfl) (CW.loop (P := Try.prog) (E := Ex) (rd := none) (x := sub (bodyOf Try.f72) [1, 1, 0, 1, 0, 0]) (a := ⟨⟨35, f⟩, []⟩) (M := M) (K := kcont Try.prog Ex none (bodyOf Try.f72) [1, 1, 0, 1, 0] (kfin Try.prog Try.f72.results.toList Q)) ?_)
  exact rule (B := 1000) (N := 35) (ct := (.two .no (.two .no (.here 1000))))
    [⟨1002, fun a M => dfr a.defers (P_grph_outs_2 (a.get 3) (a.get 10) (a.get 11) (a.get 12) M Q), fun a M => At Try.prog Ex none Try.f72 [1, 1, 0, 1, 0, 0, 1, 1] a M Q⟩,
    ⟨2, fun a M => dfr a.defers (P_grph_outs_3 (a.get 3) M Q), fun a M => At Try.prog Ex none Try.f72 [1, 1, 1] a M Q⟩]
    [1000] [2] (by kernel_rfl) (by kernel_rfl) (by kernel_rfl) (by kernel_rfl) (by kernel_rfl)
    ⟨fun a M hn h => by obtain ⟨⟨n, f⟩, ds⟩ := a; have hn : n = 35 := hn; subst hn; obtain ⟨hd, h⟩ := dfr_iff h; have hd : ds = [] := hd; subst hd; exact h f rfl rfl rfl rfl,
    fun a M hn h => by obtain ⟨⟨n, f⟩, ds⟩ := a; have hn : n = 35 := hn; subst hn; obtain ⟨hd, h⟩ := dfr_iff h; have hd : ds = [] := hd; subst hd; exact h f rfl,
    trivial⟩
    (cast (by kernel_rfl) h)
def S_grph_outs_2 (x3 x10 x11 x12 : Value) (M : Store) (Q : KP) : Prop :=
  OP (ixA 5 x10 x12) fun t15 =>
  OP (ld 5 true t15 M) fun t16 =>
  LT (.pointer (some ⟨M.n, 0, none⟩)) (M.push (some (.inl ([(.slice none 0 0), (.slice none 0 0), (.slice none 0 0), (.slice none 0 0), (.bool false)], Ty.api_Rule, true)))) fun t5 M1 =>
  OP (st 5 t5 t16 M1) fun M2 =>
  OP (fad 0 t5) fun t17 =>
  OP (ld 1 false t17 M2) fun t18 =>
  OP (lenV t18) fun t19 =>
  P_grph_outs_4 x3 x12 x10 x11 x12 t18 t19 (.int .i64 0) M2 Q
theorem T_grph_outs_2 {x3 x10 x11 x12 : Value} {M : Store} {Q : KP} (h : S_grph_outs_2 x3 x10 x11 x12 M Q) : P_grph_outs_2 x3 x10 x11 x12 M Q := by
  intro f h3 h10 h11 h12; subst h3; subst h10; subst h11; subst h12
  unfold At
  exact rule (B := 1000) (N := 35) (ct := (.two (.two (.two .no (.two .no (.two (.here 1000) .no))) .no) (.here 1001)))
    [⟨1002, fun a M => dfr a.defers (P_grph_outs_4 (a.get 3) (a.get 4) (a.get 10) (a.get 11) (a.get 12) (a.get 18) (a.get 19) (a.get 20) M Q), fun a M => At Try.prog Ex none Try.f72 [1, 1, 0, 1, 0, 0, 1, 1, 0, 0, 1, 1, 0] a M Q⟩,
    ⟨1003, fun _ _ => False, fun a M => At Try.prog Ex none Try.f72 [1, 1, 0, 1, 0, 0, 1, 1, 1] a M Q⟩]
    [1000, 1001] [] (by kernel_rfl) (by kernel_rfl) (by kernel_rfl) (by kernel_rfl) (by kernel_rfl)
    ⟨fun a M hn h => by obtain ⟨⟨n, f⟩, ds⟩ := a; have hn : n = 35 := hn; subst hn; obtain ⟨hd, h⟩ := dfr_iff h; have hd : ds = [] := hd; subst hd; exact h f rfl rfl rfl rfl rfl rfl rfl rfl,
    fun _ _ _ h => h.elim,
    trivial⟩
    (cast (by kernel_rfl) h)
def S_grph_outs_3 (x3 : Value) (M : Store) (Q : KP) : Prop :=
  NTs [x3] ∧ Q x3 M
theorem T_grph_outs_3 {x3 : Value} {M : Store} {Q : KP} (h : S_grph_outs_3 x3 M Q) : P_grph_outs_3 x3 M Q := by
  intro f h3; subst h3
  unfold At
  exact rule (B := 1000) (N := 35) (ct := .no)
    [⟨1, fun a M => kfin Try.prog Try.f72.results.toList Q 1 a M, fun a M => kfin Try.prog Try.f72.results.toList Q 1 a M⟩]
    [] [1] (by kernel_rfl) (by kernel_rfl) (by kernel_rfl) (by kernel_rfl) (by kernel_rfl)
    ⟨fun _ _ _ h => h,
    trivial⟩
    (cast (by kernel_rfl) h)
def S_grph_outs_4 (x3 x4 x10 x11 x12 x18 x19 x20 : Value) (M : Store) (Q : KP) : Prop :=
  OP (binI .lss x20 x19) fun t21 =>
  BR t21 (
  P_grph_outs_5 x3 x4 x10 x11 x12 x18 x19 x20 M Q
  ) (
  P_grph_outs_6 x3 x10 x11 x12 M Q
  )
theorem T_grph_outs_4 {x3 x4 x10 x11 x12 x18 x19 x20 : Value} {M : Store} {Q : KP} (h : S_grph_outs_4 x3 x4 x10 x11 x12 x18 x19 x20 M Q) : P_grph_outs_4 x3 x4 x10 x11 x12 x18 x19 x20 M Q := by
  intro f h3 h4 h10 h11 h12 h18 h19 h20; subst h3; subst h4; subst h10; subst h11; subst h12; subst h18; subst h19; subst h20
  unfold At
  refine cast (by kernel_rfl) (CW.loop (P := Try.prog) (E := Ex) (rd := none) (x := sub (bodyOf Try.f72) [1, 1, 0, 1, 0, 0, 1, 1, 0, 0, 1, 1, 0, 0]) (a := ⟨⟨35, f⟩, []⟩) (M := M) (K := kcont Try.prog Ex none (bodyOf Try.f72) [1, 1, 0, 1, 0, 0, 1, 1, 0, 0, 1, 1, 0] (kfin Try.prog Try.f72.results.toList Q)) ?_)
  exact rule (B := 1000) (N := 35) (ct := (.two .no (.two .no (.here 1000))))
    [⟨1002, fun a M => dfr a.defers (P_grph_outs_5 (a.get 3) (a.get 4) (a.get 10) (a.get 11) (a.get 12) (a.get 18) (a.get 19) (a.get 20) M Q), fun a M => At Try.prog Ex none Try.f72 [1, 1, 0, 1, 0, 0, 1, 1, 0, 0, 1, 1, 0, 0, 1, 1] a M Q⟩,
    ⟨4, fun a M => dfr a.defers (P_grph_outs_6 (a.get 3) (a.get 10) (a.get 11) (a.get 12) M Q), fun a M => At Try.prog Ex none Try.f72 [1, 1, 0, 1, 0, 0, 1, 1, 1] a M Q⟩]
    [1000] [4] (by kernel_rfl) (by kernel_rfl) (by kernel_rfl) (by kernel_rfl) (by kernel_rfl)
    ⟨fun a M hn h => by obtain ⟨⟨n, f⟩, ds⟩ := a; have hn : n = 35 := hn; subst hn; obtain ⟨hd, h⟩ := dfr_iff h; have hd : ds = [] := hd; subst hd; exact h f rfl rfl rfl rfl rfl rfl rfl rfl,
    fun a M hn h => by obtain ⟨⟨n, f⟩, ds⟩ := a; have hn : n = 35 := hn; subst hn; obtain ⟨hd, h⟩ := dfr_iff h; have hd : ds = [] := hd; subst hd; exact h f rfl rfl rfl rfl,
    trivial⟩
    (cast (by kernel_rfl) h)
def S_grph_outs_5 (x3 x4 x10 x11 x12 x18 x19 x20 : Value) (M : Store) (Q : KP) : Prop :=
  OP (ixA 1 x18 x20) fun t22 =>
  OP (ld 1 false t22 M) fun t23 =>
  OP (lku .string (.slice none 0 0) x3 t23 false M) fun t28 =>
  OP (bldL (.int .i64 0) 1 1 [(0, x4)]) fun c =>
  LT (.slice (some ⟨M.n, 0, none⟩) 1 1) (M.push (some (.inl (c, Ty.int, true)))) fun t30 M1 =>
  OP2 (appV 1 Ty.int t28 t30 M1) fun t31 M2 =>
  OP (mup .string x3 t23 t31 M2) fun M3 =>
  OP (binI .add x20 (.int .i64 1)) fun t32 =>
  P_grph_outs_4 x3 x4 x10 x11 x12 x18 x19 t32 M3 Q
theorem T_grph_outs_5 {x3 x4 x10 x11 x12 x18 x19 x20 : Value} {M : Store} {Q : KP} (h : S_grph_outs_5 x3 x4 x10 x11 x12 x18 x19 x20 M Q) : P_grph_outs_5 x3 x4 x10 x11 x12 x18 x19 x20 M Q := by
  intro f h3 h4 h10 h11 h12 h18 h19 h20; subst h3; subst h4; subst h10; subst h11; subst h12; subst h18; subst h19; subst h20
  unfold At
  exact rule (B := 1000) (N := 35) (ct := .no)
    [⟨0, fun a M => dfr a.defers (P_grph_outs_4 (a.get 3) (a.get 4) (a.get 10) (a.get 11) (a.get 12) (a.get 18) (a.get 19) (a.get 20) M Q), fun a M => At Try.prog Ex none Try.f72 [1, 1, 0, 1, 0, 0, 1, 1, 0, 0, 1, 1, 0] a M Q⟩]
    [] [0] (by kernel_rfl) (by kernel_rfl) (by kernel_rfl) (by kernel_rfl) (by kernel_rfl)
    ⟨fun a M hn h => by obtain ⟨⟨n, f⟩, ds⟩ := a; have hn : n = 35 := hn; subst hn; obtain ⟨hd, h⟩ := dfr_iff h; have hd : ds = [] := hd; subst hd; exact h f rfl rfl rfl rfl rfl rfl rfl rfl,
    trivial⟩
    (cast (by kernel_rfl) h)
def S_grph_outs_6 (x3 x10 x11 x12 : Value) (M : Store) (Q : KP) : Prop :=
  OP (binI .add x12 (.int .i64 1)) fun t33 =>
  P_grph_outs_1 x3 x10 x11 t33 M Q
theorem T_grph_outs_6 {x3 x10 x11 x12 : Value} {M : Store} {Q : KP} (h : S_grph_outs_6 x3 x10 x11 x12 M Q) : P_grph_outs_6 x3 x10 x11 x12 M Q := by
  intro f h3 h10 h11 h12; subst h3; subst h10; subst h11; subst h12
  unfold At
  exact rule (B := 1000) (N := 35) (ct := .no)
    [⟨0, fun a M => dfr a.defers (P_grph_outs_1 (a.get 3) (a.get 10) (a.get 11) (a.get 12) M Q), fun a M => At Try.prog Ex none Try.f72 [1, 1, 0, 1, 0] a M Q⟩]
    [] [0] (by kernel_rfl) (by kernel_rfl) (by kernel_rfl) (by kernel_rfl) (by kernel_rfl)
    ⟨fun a M hn h => by obtain ⟨⟨n, f⟩, ds⟩ := a; have hn : n = 35 := hn; subst hn; obtain ⟨hd, h⟩ := dfr_iff h; have hd : ds = [] := hd; subst hd; exact h f rfl rfl rfl rfl,
    trivial⟩
    (cast (by kernel_rfl) h)
def P_grph_Ahead_c1_1 (x2 x5 x30 x31 x32 : Value) (M : Store) (Q : KP) : Prop :=
  ∀ f : Nat → Value, f 2 = x2 → f 5 = x5 → f 30 = x30 → f 31 = x31 → f 32 = x32 → At Try.prog Ex none Try.f73 [1, 1, 1, 0, 1, 0] ⟨⟨43, f⟩, []⟩ M Q
def P_grph_Ahead_c1_2 (x5 : Value) (M : Store) (Q : KP) : Prop :=
  ∀ f : Nat → Value, f 5 = x5 → At Try.prog Ex none Try.f73 [1, 1, 1, 1] ⟨⟨43, f⟩, []⟩ M Q
def S_grph_Ahead_c1 (x0 x1 x2 : Value) (M : Store) (Q : KP) : Prop :=
  OP (binI .lss x0 (.int .i64 0)) fun t9 =>
  BR t9 (
  NTs [(.slice none 0 0)] ∧ Q (.slice none 0 0) M
  ) (
  OP (fad 0 x1) fun t12 =>
  OP (ld 1 false t12 M) fun t13 =>
  OP (lenV t13) fun t14 =>
  OP (binI .geq x0 t14) fun t15 =>
  BR t15 (
  NTs [(.slice none 0 0)] ∧ Q (.slice none 0 0) M
  ) (
  OP (fad 0 x1) fun t17 =>
  OP (ld 1 false t17 M) fun t18 =>
  OP (ixA 5 t18 x0) fun t20 =>
  OP (fad 1 t20) fun t21 =>
  OP (ld 1 false t21 M) fun t22 =>
  OP (fad 0 x1) fun t23 =>
  OP (ld 1 false t23 M) fun t24 =>
  OP (ixA 5 t24 x0) fun t26 =>
  OP (fad 2 t26) fun t27 =>
  OP (ld 1 false t27 M) fun t28 =>
  OP (bldL (.slice none 0 0) 1 2 [(0, t22), (1, t28)]) fun c =>
  LT (.slice (some ⟨M.n, 0, none⟩) 2 2) (M.push (some (.inl (c, Ty.sl_string, true)))) fun t29 M1 =>
  R F.sConcatS #[t29] M1 fun t30 M2 =>
  TDx [0, 1, 0, 7, 15, 31, 0, 64, 0, 448, 960, 1984, 4095, 8191, 16383, 0] [M.n, M.n, M.n, M.n, M.n, M.n, M.n, M.n, M.n, M.n, M.n, M.n, M.n, M1.n] 13 M1 M2 ∧
  OP (lenV t30) fun t31 =>
  P_grph_Ahead_c1_1 x2 (.slice none 0 0) t30 t31 (.int .i64 0) M2 Q
  )
  )
theorem T_grph_Ahead_c1 {x0 x1 x2 : Value} {M : Store} {Q : KP} (h : S_grph_Ahead_c1 x0 x1 x2 M Q) : R F.grph_Ahead_c1 #[x0, x1, x2] M Q := by
  refine runs_of (c := bodyOf Try.f73) Try.func73 rfl (by kernel_rfl) (by kernel_rfl) ?_
  unfold At
  exact rule (B := 1000) (N := 43) (ct := (.two .no (.two .no (.two .no (.two (.two .no (.two (.here 1000) .no)) (.here 1001))))))
    [⟨1002, fun a M => dfr a.defers (P_grph_Ahead_c1_1 (a.get 2) (a.get 5) (a.get 30) (a.get 31) (a.get 32) M Q), fun a M => At Try.prog Ex none Try.f73 [1, 1, 1, 0, 1, 0] a M Q⟩,
    ⟨1003, fun _ _ => False, fun a M => At Try.prog Ex none Try.f73 [1, 1, 1, 1] a M Q⟩,
    ⟨1, fun a M => kfin Try.prog Try.f73.results.toList Q 1 a M, fun a M => kfin Try.prog Try.f73.results.toList Q 1 a M⟩]
    [1000, 1001] [1] (by kernel_rfl) (by kernel_rfl) (by kernel_rfl) (by kernel_rfl) (by kernel_rfl)
    ⟨fun a M hn h => by obtain ⟨⟨n, f⟩, ds⟩ := a; have hn : n = 43 := hn; subst hn; obtain ⟨hd, h⟩ := dfr_iff h; have hd : ds = [] := hd; subst hd; exact h f rfl rfl rfl rfl rfl,
    fun _ _ _ h => h.elim,
    fun _ _ _ h => h,
    trivial⟩
    (cast (by kernel_rfl) h)
def S_grph_Ahead_c1_1 (x2 x5 x30 x31 x32 : Value) (M : Store) (Q : KP) : Prop :=
  OP (binI .lss x32 x31) fun t33 =>
  BR t33 (
  OP (ixA 1 x30 x32) fun t34 =>
  OP (ld 1 false t34 M) fun t35 =>
  OP (ld 1 false x2 M) fun t37 =>
  OP (lku .string (.slice none 0 0) t37 t35 false M) fun t39 =>
  OP2 (appV 1 Ty.int x5 t39 M) fun t40 M1 =>
  OP (binI .add x32 (.int .i64 1)) fun t41 =>
  P_grph_Ahead_c1_1 x2 t40 x30 x31 t41 M1 Q
  ) (
  P_grph_Ahead_c1_2 x5 M Q
  )
theorem T_grph_Ahead_c1_1 {x2 x5 x30 x31 x32 : Value} {M : Store} {Q : KP} (h : S_grph_Ahead_c1_1 x2 x5 x30 x31 x32 M Q) : P_grph_Ahead_c1_1 x2 x5 x30 x31 x32 M Q := by
  intro f h2 h5 h30 h31 h32; subst h2; subst h5; subst h30; subst h31; subst h32
  unfold At
  refine cast (by kernel_rfl) (CW.loop (P := Try.prog) (E := Ex) (rd := none) (x := sub (bodyOf Try.f73) [1, 1, 1, 0, 1, 0, 0]) (a := ⟨⟨43, f⟩, []⟩) (M := M) (K := kcont Try.prog Ex none (bodyOf Try.f73) [1, 1, 1, 0, 1, 0] (kfin Try.prog Try.f73.results.toList Q)) ?_)
  exact rule (B := 1000) (N := 43) (ct := .no)
    [⟨0, fun a M => dfr a.defers (P_grph_Ahead_c1_1 (a.get 2) (a.get 5) (a.get 30) (a.get 31) (a.get 32) M Q), fun a M => At Try.prog Ex none Try.f73 [1, 1, 1, 0, 1, 0] a M Q⟩,
    ⟨2, fun a M => dfr a.defers (P_grph_Ahead_c1_2 (a.get 5) M Q), fun a M => At Try.prog Ex none Try.f73 [1, 1, 1, 1] a M Q⟩]
    [] [0, 2] (by kernel_rfl) (by kernel_rfl) (by kernel_rfl) (by kernel_rfl) (by kernel_rfl)
    ⟨fun a M hn h => by obtain ⟨⟨n, f⟩, ds⟩ := a; have hn : n = 43 := hn; subst hn; obtain ⟨hd, h⟩ := dfr_iff h; have hd : ds = [] := hd; subst hd; exact h f rfl rfl rfl rfl rfl,
    fun a M hn h => by obtain ⟨⟨n, f⟩, ds⟩ := a; have hn : n = 43 := hn; subst hn; obtain ⟨hd, h⟩ := dfr_iff h; have hd : ds = [] := hd; subst hd; exact h f rfl,
    trivial⟩
    (cast (by kernel_rfl) h)
def S_grph_Ahead_c1_2 (x5 : Value) (M : Store) (Q : KP) : Prop :=
  NTs [x5] ∧ Q x5 M
theorem T_grph_Ahead_c1_2 {x5 : Value} {M : Store} {Q : KP} (h : S_grph_Ahead_c1_2 x5 M Q) : P_grph_Ahead_c1_2 x5 M Q := by
  intro f h5; subst h5
  unfold At
  exact rule (B := 1000) (N := 43) (ct := .no)
    [⟨1, fun a M => kfin Try.prog Try.f73.results.toList Q 1 a M, fun a M => kfin Try.prog Try.f73.results.toList Q 1 a M⟩]
    [] [1] (by kernel_rfl) (by kernel_rfl) (by kernel_rfl) (by kernel_rfl) (by kernel_rfl)
    ⟨fun _ _ _ h => h,
    trivial⟩
    (cast (by kernel_rfl) h)
def P_sConcatS_1 (x0 x3 x9 x10 x11 : Value) (M : Store) (Q : KP) : Prop :=
  ∀ f : Nat → Value, f 0 = x0 → f 3 = x3 → f 9 = x9 → f 10 = x10 → f 11 = x11 → At Try.prog Ex none Try.f74 [1, 1, 0, 1, 0] ⟨⟨36, f⟩, []⟩ M Q
def P_sConcatS_2 (x0 x3 x9 x10 x11 : Value) (M : Store) (Q : KP) : Prop :=
  ∀ f : Nat → Value, f 0 = x0 → f 3 = x3 → f 9 = x9 → f 10 = x10 → f 11 = x11 → At Try.prog Ex none Try.f74 [1, 1, 0, 1, 0, 0, 1, 1] ⟨⟨36, f⟩, []⟩ M Q
def P_sConcatS_3 (x0 x3 : Value) (M : Store) (Q : KP) : Prop :=
  ∀ f : Nat → Value, f 0 = x0 → f 3 = x3 → At Try.prog Ex none Try.f74 [1, 1, 1] ⟨⟨36, f⟩, []⟩ M Q
def P_sConcatS_4 (x6 x25 x26 x27 : Value) (M : Store) (Q : KP) : Prop :=
  ∀ f : Nat → Value, f 6 = x6 → f 25 = x25 → f 26 = x26 → f 27 = x27 → At Try.prog Ex none Try.f74 [1, 1, 1, 1, 0, 1, 0] ⟨⟨36, f⟩, []⟩ M Q
def P_sConcatS_5 (x6 : Value) (M : Store) (Q : KP) : Prop :=
  ∀ f : Nat → Value, f 6 = x6 → At Try.prog Ex none Try.f74 [1, 1, 1, 1, 1] ⟨⟨36, f⟩, []⟩ M Q
def S_sConcatS (x0 : Value) (M : Store) (Q : KP) : Prop :=
  OP (lenV x0) fun t10 =>
  P_sConcatS_1 x0 (.int .i64 0) x0 t10 (.int .i64 0) M Q
theorem T_sConcatS {x0 : Value} {M : Store} {Q : KP} (h : S_sConcatS x0 M Q) : R F.sConcatS #[x0] M Q := by
  refine runs_of (c := bodyOf Try.f74) Try.func74 rfl (by kernel_rfl) (by kernel_rfl) ?_
  unfold At
  exact rule (B := 1000) (N := 36) (ct := (.two .no (.two .no (.two (.two .no (.two (.here 1000) .no)) (.here 1001)))))
    [⟨1002, fun a M => dfr a.defers (P_sConcatS_1 (a.get 0) (a.get 3) (a.get 9) (a.get 10) (a.get 11) M Q), fun a M => At Try.prog Ex none Try.f74 [1, 1, 0, 1, 0] a M Q⟩,
    ⟨1003, fun _ _ => False, fun a M => At Try.prog Ex none Try.f74 [1, 1, 1] a M Q⟩]
    [1000, 1001] [] (by kernel_rfl) (by kernel_rfl) (by kernel_rfl) (by kernel_rfl) (by kernel_rfl)
    ⟨fun a M hn h => by obtain ⟨⟨n, f⟩, ds⟩ := a; have hn : n = 36 := hn; subst hn; obtain ⟨hd, h⟩ := dfr_iff h; have hd : ds = [] := hd; subst hd; exact h f rfl rfl rfl rfl rfl,
    fun _ _ _ h => h.elim,
    trivial⟩
    (cast (by kernel_rfl) h)
def S_sConcatS_1 (x0 x3 x9 x10 x11 : Value) (M : Store) (Q : KP) : Prop :=
  OP (binI .lss x11 x10) fun t12 =>
  BR t12 (
  P_sConcatS_2 x0 x3 x9 x10 x11 M Q
  ) (
  P_sConcatS_3 x0 x3 M Q
  )
theorem T_sConcatS_1 {x0 x3 x9 x10 x11 : Value} {M : Store} {Q : KP} (h : S_sConcatS_1 x0 x3 x9 x10 x11 M Q) : P_sConcatS_1 x0 x3 x9 x10 x11 M Q := by
  intro f h0 h3 h9 h10 h11; subst h0; subst h3; subst h9; subst h10; subst h11
  unfold At
  refine cast (by kernel_rfl) (CW.loop (P := Try.prog) (E := Ex) (rd := none) (x := sub (bodyOf Try.f74) [1, 1, 0, 1, 0, 0]) (a := ⟨⟨36, f⟩, []⟩) (M := M) (K := kcont Try.prog Ex none (bodyOf Try.f74) [1, 1, 0, 1, 0] (kfin Try.prog Try.f74.results.toList Q)) ?_)
  exact rule (B := 1000) (N := 36) (ct := (.two .no (.two .no (.here 1000))))
    [⟨1002, fun a M => dfr a.defers (P_sConcatS_2 (a.get 0) (a.get 3) (a.get 9) (a.get 10) (a.get 11) M Q), fun a M => At Try.prog Ex none Try.f74 [1, 1, 0, 1, 0, 0, 1, 1] a M Q⟩,
    ⟨2, fun a M => dfr a.defers (P_sConcatS_3 (a.get 0) (a.get 3) M Q), fun a M => At Try.prog Ex none Try.f74 [1, 1, 1] a M Q⟩]
    [1000] [2] (by kernel_rfl) (by kernel_rfl) (by kernel_rfl) (by kernel_rfl) (by kernel_rfl)
    ⟨fun a M hn h => by obtain ⟨⟨n, f⟩, ds⟩ := a; have hn : n = 36 := hn; subst hn; obtain ⟨hd, h⟩ := dfr_iff h; have hd : ds = [] := hd; subst hd; exact h f rfl rfl rfl rfl rfl,
    fun a M hn h => by obtain ⟨⟨n, f⟩, ds⟩ := a; have hn : n = 36 := hn; subst hn; obtain ⟨hd, h⟩ := dfr_iff h; have hd : ds = [] := hd; subst hd; exact h f rfl rfl,
    trivial⟩
    (cast (by kernel_rfl) h)
def S_sConcatS_2 (x0 x3 x9 x10 x11 : Value) (M : Store) (Q : KP) : Prop :=
  OP (ixA 1 x9 x11) fun t13 =>
  OP (ld 1 false t13 M) fun t14 =>
  OP (lenV t14) fun t17 =>
  OP (binI .add x3 t17) fun t18 =>
  OP (binI .lss t18 (.int .i64 0)) fun t20 =>
  BR t20 (
  OP (mkI Ty.string (.string ⟨#[108, 101, 110, 32, 111, 117, 116, 32, 111, 102, 32, 114, 97, 110, 103, 101]⟩)) fun t21 =>
  False
  ) (
  OP (binI .add x11 (.int .i64 1)) fun t22 =>
  P_sConcatS_1 x0 t18 x9 x10 t22 M Q
  )
theorem T_sConcatS_2 {x0 x3 x9 x10 x11 : Value} {M : Store} {Q : KP} (h : S_sConcatS_2 x0 x3 x9 x10 x11 M Q) : P_sConcatS_2 x0 x3 x9 x10 x11 M Q := by
  intro f h0 h3 h9 h10 h11; subst h0; subst h3; subst h9; subst h10; subst h11
  unfold At
  exact rule (B := 1000) (N := 36) (ct := .no)
    [⟨0, fun a M => dfr a.defers (P_sConcatS_1 (a.get 0) (a.get 3) (a.get 9) (a.get 10) (a.get 11) M Q), fun a M => At Try.prog Ex none Try.f74 [1, 1, 0, 1, 0] a M Q⟩]
    [] [0] (by kernel_rfl) (by kernel_rfl) (by kernel_rfl) (by kernel_rfl) (by kernel_rfl)
    ⟨fun a M hn h => by obtain ⟨⟨n, f⟩, ds⟩ := a; have hn : n = 36 := hn; subst hn; obtain ⟨hd, h⟩ := dfr_iff h; have hd : ds = [] := hd; subst hd; exact h f rfl rfl rfl rfl rfl,
    trivial⟩
    (cast (by kernel_rfl) h)
def S_sConcatS_3 (x0 x3 : Value) (M : Store) (Q : KP) : Prop :=
  R F.sGrowS #[(.slice none 0 0), x3] M fun t24 M1 =>
  OP (lenV x0) fun t26 =>
  P_sConcatS_4 t24 x0 t26 (.int .i64 0) M1 Q
theorem T_sConcatS_3 {x0 x3 : Value} {M : Store} {Q : KP} (h : S_sConcatS_3 x0 x3 M Q) : P_sConcatS_3 x0 x3 M Q := by
  intro f h0 h3; subst h0; subst h3
  unfold At
  exact rule (B := 1000) (N := 36) (ct := (.two .no (.two (.two .no (.two (.here 1000) .no)) (.here 1001))))
    [⟨1002, fun a M => dfr a.defers (P_sConcatS_4 (a.get 6) (a.get 25) (a.get 26) (a.get 27) M Q), fun a M => At Try.prog Ex none Try.f74 [1, 1, 1, 1, 0, 1, 0] a M Q⟩,
    ⟨1003, fun _ _ => False, fun a M => At Try.prog Ex none Try.f74 [1, 1, 1, 1, 1] a M Q⟩]
    [1000, 1001] [] (by kernel_rfl) (by kernel_rfl) (by kernel_rfl) (by kernel_rfl) (by kernel_rfl)
    ⟨fun a M hn h => by obtain ⟨⟨n, f⟩, ds⟩ := a; have hn : n = 36 := hn; subst hn; obtain ⟨hd, h⟩ := dfr_iff h; have hd : ds = [] := hd; subst hd; exact h f rfl rfl rfl rfl,
    fun _ _ _ h => h.elim,
    trivial⟩
    (cast (by kernel_rfl) h)
def S_sConcatS_4 (x6 x25 x26 x27 : Value) (M : Store) (Q : KP) : Prop :=
  OP (binI .lss x27 x26) fun t28 =>
  BR t28 (
  OP (ixA 1 x25 x27) fun t29 =>
  OP (ld 1 false t29 M) fun t30 =>
  OP2 (appV 1 Ty.string x6 t30 M) fun t33 M1 =>
  OP (binI .add x27 (.int .i64 1)) fun t34 =>
  P_sConcatS_4 t33 x25 x26 t34 M1 Q
  ) (
  P_sConcatS_5 x6 M Q
  )
theorem T_sConcatS_4 {x6 x25 x26 x27 : Value} {M : Store} {Q : KP} (h : S_sConcatS_4 x6 x25 x26 x27 M Q) : P_sConcatS_4 x6 x25 x26 x27 M Q := by
  intro f h6 h25 h26 h27; subst h6; subst h25; subst h26; subst h27
  unfold At
  refine cast (by kernel_rfl) (CW.loop (P := Try.prog) (E := Ex) (rd := none) (x := sub (bodyOf Try.f74) [1, 1, 1, 1, 0, 1, 0, 0]) (a := ⟨⟨36, f⟩, []⟩) (M := M) (K := kcont Try.prog Ex none (bodyOf Try.f74) [1, 1, 1, 1, 0, 1, 0] (kfin Try.prog Try.f74.results.toList Q)) ?_)
  exact rule (B := 1000) (N := 36) (ct := .no)
    [⟨0, fun a M => dfr a.defers (P_sConcatS_4 (a.get 6) (a.get 25) (a.get 26) (a.get 27) M Q), fun a M => At Try.prog Ex none Try.f74 [1, 1, 1, 1, 0, 1, 0] a M Q⟩,
    ⟨4, fun a M => dfr a.defers (P_sConcatS_5 (a.get 6) M Q), fun a M => At Try.prog Ex none Try.f74 [1, 1, 1, 1, 1] a M Q⟩]
    [] [0, 4] (by kernel_rfl) (by kernel_rfl) (by kernel_rfl) (by kernel_rfl) (by kernel_rfl)
    ⟨fun a M hn h => by obtain ⟨⟨n, f⟩, ds⟩ := a; have hn : n = 36 := hn; subst hn; obtain ⟨hd, h⟩ := dfr_iff h; have hd : ds = [] := hd; subst hd; exact h f rfl rfl rfl rfl,
    fun a M hn h => by obtain ⟨⟨n, f⟩, ds⟩ := a; have hn : n = 36 := hn; subst hn; obtain ⟨hd, h⟩ := dfr_iff h; have hd : ds = [] := hd; subst hd; exact h f rfl,
    trivial⟩
    (cast (by kernel_rfl) h)
def S_sConcatS_5 (x6 : Value) (M : Store) (Q : KP) : Prop :=
  NTs [x6] ∧ Q x6 M
theorem T_sConcatS_5 {x6 : Value} {M : Store} {Q : KP} (h : S_sConcatS_5 x6 M Q) : P_sConcatS_5 x6 M Q := by
  intro f h6; subst h6
  unfold At
  exact rule (B := 1000) (N := 36) (ct := .no)
    [⟨1, fun a M => kfin Try.prog Try.f74.results.toList Q 1 a M, fun a M => kfin Try.prog Try.f74.results.toList Q 1 a M⟩]
    [] [1] (by kernel_rfl) (by kernel_rfl) (by kernel_rfl) (by kernel_rfl) (by kernel_rfl)
    ⟨fun _ _ _ h => h,
    trivial⟩
    (cast (by kernel_rfl) h)
def P_sIndexFuncS_1 (x0 x1 x7 x8 : Value) (M : Store) (Q : KP) : Prop :=
  ∀ f : Nat → Value, f 0 = x0 → f 1 = x1 → f 7 = x7 → f 8 = x8 → At Try.prog Ex none Try.f83 [1, 0, 1, 0] ⟨⟨19, f⟩, []⟩ M Q
def P_sIndexFuncS_2 (M : Store) (Q : KP) : Prop :=
  ∀ f : Nat → Value, At Try.prog Ex none Try.f83 [1, 1] ⟨⟨19, f⟩, []⟩ M Q
def S_sIndexFuncS (x0 x1 : Value) (M : Store) (Q : KP) : Prop :=
  OP (lenV x0) fun t7 =>
  P_sIndexFuncS_1 x0 x1 t7 (.int .i64 0) M Q
theorem T_sIndexFuncS {x0 x1 : Value} {M : Store} {Q : KP} (h : S_sIndexFuncS x0 x1 M Q) : R F.sIndexFuncS #[x0, x1] M Q := by
  refine runs_of (c := bodyOf Try.f83) Try.func83 rfl (by kernel_rfl) (by kernel_rfl) ?_
  unfold At
  exact rule (B := 1000) (N := 19) (ct := (.two .no (.two (.two .no (.two (.here 1000) .no)) (.here 1001))))
    [⟨1002, fun a M => dfr a.defers (P_sIndexFuncS_1 (a.get 0) (a.get 1) (a.get 7) (a.get 8) M Q), fun a M => At Try.prog Ex none Try.f83 [1, 0, 1, 0] a M Q⟩,
    ⟨1003, fun _ _ => False, fun a M => At Try.prog Ex none Try.f83 [1, 1] a M Q⟩]
    [1000, 1001] [] (by kernel_rfl) (by kernel_rfl) (by kernel_rfl) (by kernel_rfl) (by kernel_rfl)
    ⟨fun a M hn h => by obtain ⟨⟨n, f⟩, ds⟩ := a; have hn : n = 19 := hn; subst hn; obtain ⟨hd, h⟩ := dfr_iff h; have hd : ds = [] := hd; subst hd; exact h f rfl rfl rfl rfl,
    fun _ _ _ h => h.elim,
    trivial⟩
    (cast (by kernel_rfl) h)
def S_sIndexFuncS_1 (x0 x1 x7 x8 : Value) (M : Store) (Q : KP) : Prop :=
  OP (binI .lss x8 x7) fun t9 =>
  BR t9 (
  OP (ixA 1 x0 x8) fun t14 =>
  OP (ld 1 false t14 M) fun t15 =>
  KC x1 [t15] M fun t16 M1 =>
  BR t16 (
  NTs [x8] ∧ Q x8 M1
  ) (
  OP (binI .add x8 (.int .i64 1)) fun t18 =>
  P_sIndexFuncS_1 x0 x1 x7 t18 M1 Q
  )
  ) (
  P_sIndexFuncS_2 M Q
  )
theorem T_sIndexFuncS_1 {x0 x1 x7 x8 : Value} {M : Store} {Q : KP} (h : S_sIndexFuncS_1 x0 x1 x7 x8 M Q) : P_sIndexFuncS_1 x0 x1 x7 x8 M Q := by
  intro f h0 h1 h7 h8; subst h0; subst h1; subst h7; subst h8
  unfold At
  refine cast (by kernel_rfl) (CW.loop (P := Try.prog) (E := Ex) (rd := none) (x := sub (bodyOf Try.f83) [1, 0, 1, 0, 0]) (a := ⟨⟨19, f⟩, []⟩) (M := M) (K := kcont Try.prog Ex none (bodyOf Try.f83) [1, 0, 1, 0] (kfin Try.prog Try.f83.results.toList Q)) ?_)
  exact rule (B := 1000) (N := 19) (ct := .no)
    [⟨0, fun a M => dfr a.defers (P_sIndexFuncS_1 (a.get 0) (a.get 1) (a.get 7) (a.get 8) M Q), fun a M => At Try.prog Ex none Try.f83 [1, 0, 1, 0] a M Q⟩,
    ⟨1, fun a M => kfin Try.prog Try.f83.results.toList Q 1 a M, fun a M => kfin Try.prog Try.f83.results.toList Q 1 a M⟩,
    ⟨2, fun a M => dfr a.defers (P_sIndexFuncS_2 M Q), fun a M => At Try.prog Ex none Try.f83 [1, 1] a M Q⟩]
    [] [0, 1, 2] (by kernel_rfl) (by kernel_rfl) (by kernel_rfl) (by kernel_rfl) (by kernel_rfl)
    ⟨fun a M hn h => by obtain ⟨⟨n, f⟩, ds⟩ := a; have hn : n = 19 := hn; subst hn; obtain ⟨hd, h⟩ := dfr_iff h; have hd : ds = [] := hd; subst hd; exact h f rfl rfl rfl rfl,
    fun _ _ _ h => h,
    fun a M hn h => by obtain ⟨⟨n, f⟩, ds⟩ := a; have hn : n = 19 := hn; subst hn; obtain ⟨hd, h⟩ := dfr_iff h; have hd : ds = [] := hd; subst hd; exact h f,
    trivial⟩
    (cast (by kernel_rfl) h)
def S_sIndexFuncS_2 (M : Store) (Q : KP) : Prop :=
  NTs [(.int .i64 (-1))] ∧ Q (.int .i64 (-1)) M
theorem T_sIndexFuncS_2 {M : Store} {Q : KP} (h : S_sIndexFuncS_2 M Q) : P_sIndexFuncS_2 M Q := by
  intro f 
  unfold At
  exact rule (B := 1000) (N := 19) (ct := .no)
    [⟨1, fun a M => kfin Try.prog Try.f83.results.toList Q 1 a M, fun a M => kfin Try.prog Try.f83.results.toList Q 1 a M⟩]
    [] [1] (by kernel_rfl) (by kernel_rfl) (by kernel_rfl) (by kernel_rfl) (by kernel_rfl)
    ⟨fun _ _ _ h => h,
    trivial⟩
    (cast (by kernel_rfl) h)
def P_sIndexS_1 (x0 x1 x7 x8 : Value) (M : Store) (Q : KP) : Prop :=
  ∀ f : Nat → Value, f 0 = x0 → f 1 = x1 → f 7 = x7 → f 8 = x8 → At Try.prog Ex none Try.f84 [1, 0, 1, 0] ⟨⟨19, f⟩, []⟩ M Q
def P_sIndexS_2 (M : Store) (Q : KP) : Prop :=
  ∀ f : Nat → Value, At Try.prog Ex none Try.f84 [1, 1] ⟨⟨19, f⟩, []⟩ M Q
def S_sIndexS (x0 x1 : Value) (M : Store) (Q : KP) : Prop :=
  OP (lenV x0) fun t7 =>
  P_sIndexS_1 x0 x1 t7 (.int .i64 0) M Q
theorem T_sIndexS {x0 x1 : Value} {M : Store} {Q : KP} (h : S_sIndexS x0 x1 M Q) : R F.sIndexS #[x0, x1] M Q := by
  refine runs_of (c := bodyOf Try.f84) Try.func84 rfl (by kernel_rfl) (by kernel_rfl) ?_
  unfold At
  exact rule (B := 1000) (N := 19) (ct := (.two .no (.two (.two .no (.two (.here 1000) .no)) (.here 1001))))
    [⟨1002, fun a M => dfr a.defers (P_sIndexS_1 (a.get 0) (a.get 1) (a.get 7) (a.get 8) M Q), fun a M => At Try.prog Ex none Try.f84 [1, 0, 1, 0] a M Q⟩,
    ⟨1003, fun _ _ => False, fun a M => At Try.prog Ex none Try.f84 [1, 1] a M Q⟩]
    [1000, 1001] [] (by kernel_rfl) (by kernel_rfl) (by kernel_rfl) (by kernel_rfl) (by kernel_rfl)
    ⟨fun a M hn h => by obtain ⟨⟨n, f⟩, ds⟩ := a; have hn : n = 19 := hn; subst hn; obtain ⟨hd, h⟩ := dfr_iff h; have hd : ds = [] := hd; subst hd; exact h f rfl rfl rfl rfl,
    fun _ _ _ h => h.elim,
    trivial⟩
    (cast (by kernel_rfl) h)
def S_sIndexS_1 (x0 x1 x7 x8 : Value) (M : Store) (Q : KP) : Prop :=
  OP (binI .lss x8 x7) fun t9 =>
  BR t9 (
  OP (ixA 1 x0 x8) fun t14 =>
  OP (ld 1 false t14 M) fun t15 =>
  OP (binS .eql x1 t15) fun t16 =>
  BR t16 (
  NTs [x8] ∧ Q x8 M
  ) (
  OP (binI .add x8 (.int .i64 1)) fun t18 =>
  P_sIndexS_1 x0 x1 x7 t18 M Q
  )
  ) (
  P_sIndexS_2 M Q
  )
theorem T_sIndexS_1 {x0 x1 x7 x8 : Value} {M : Store} {Q : KP} (h : S_sIndexS_1 x0 x1 x7 x8 M Q) : P_sIndexS_1 x0 x1 x7 x8 M Q := by
  intro f h0 h1 h7 h8; subst h0; subst h1; subst h7; subst h8
  unfold At
  refine cast (by kernel_rfl) (CW.loop (P := Try.prog) (E := Ex) (rd := none) (x := sub (bodyOf Try.f84) [1, 0, 1, 0, 0]) (a := ⟨⟨19, f⟩, []⟩) (M := M) (K := kcont Try.prog Ex none (bodyOf Try.f84) [1, 0, 1, 0] (kfin Try.prog Try.f84.results.toList Q)) ?_)
  exact rule (B := 1000) (N := 19) (ct := .no)
    [⟨0, fun a M => dfr a.defers (P_sIndexS_1 (a.get 0) (a.get 1) (a.get 7) (a.get 8) M Q), fun a M => At Try.prog Ex none Try.f84 [1, 0, 1, 0] a M Q⟩,
    ⟨1, fun a M => kfin Try.prog Try.f84.results.toList Q 1 a M, fun a M => kfin Try.prog Try.f84.results.toList Q 1 a M⟩,
    ⟨2, fun a M => dfr a.defers (P_sIndexS_2 M Q), fun a M => At Try.prog Ex none Try.f84 [1, 1] a M Q⟩]
    [] [0, 1, 2] (by kernel_rfl) (by kernel_rfl) (by kernel_rfl) (by kernel_rfl) (by kernel_rfl)
    ⟨fun a M hn h => by obtain ⟨⟨n, f⟩, ds⟩ := a; have hn : n = 19 := hn; subst hn; obtain ⟨hd, h⟩ := dfr_iff h; have hd : ds = [] := hd; subst hd; exact h f rfl rfl rfl rfl,
    fun _ _ _ h => h,
    fun a M hn h => by obtain ⟨⟨n, f⟩, ds⟩ := a; have hn : n = 19 := hn; subst hn; obtain ⟨hd, h⟩ := dfr_iff h; have hd : ds = [] := hd; subst hd; exact h f,
    trivial⟩
    (cast (by kernel_rfl) h)
def S_sIndexS_2 (M : Store) (Q : KP) : Prop :=
  NTs [(.int .i64 (-1))] ∧ Q (.int .i64 (-1)) M
theorem T_sIndexS_2 {M : Store} {Q : KP} (h : S_sIndexS_2 M Q) : P_sIndexS_2 M Q := by
  intro f 
  unfold At
  exact rule (B := 1000) (N := 19) (ct := .no)
    [⟨1, fun a M => kfin Try.prog Try.f84.results.toList Q 1 a M, fun a M => kfin Try.prog Try.f84.results.toList Q 1 a M⟩]
    [] [1] (by kernel_rfl) (by kernel_rfl) (by kernel_rfl) (by kernel_rfl) (by kernel_rfl)
    ⟨fun _ _ _ h => h,
    trivial⟩
    (cast (by kernel_rfl) h)
def P_sGrowS_1 (x0 x1 : Value) (M : Store) (Q : KP) : Prop :=
  ∀ f : Nat → Value, f 0 = x0 → f 1 = x1 → At Try.prog Ex none Try.f85 [1, 1] ⟨⟨27, f⟩, []⟩ M Q
def S_sGrowS (x0 x1 : Value) (M : Store) (Q : KP) : Prop :=
  OP (binI .lss x1 (.int .i64 0)) fun t6 =>
  BR t6 (
  OP (mkI Ty.string (.string ⟨#[99, 97, 110, 110, 111, 116, 32, 98, 101, 32, 110, 101, 103, 97, 116, 105, 118, 101]⟩)) fun t7 =>
  False
  ) (
  P_sGrowS_1 x0 x1 M Q
  )
theorem T_sGrowS {x0 x1 : Value} {M : Store} {Q : KP} (h : S_sGrowS x0 x1 M Q) : R F.sGrowS #[x0, x1] M Q := by
  refine runs_of (c := bodyOf Try.f85) Try.func85 rfl (by kernel_rfl) (by kernel_rfl) ?_
  unfold At
  exact rule (B := 1000) (N := 27) (ct := (.two .no (.two .no (.here 1000))))
    [⟨1002, fun a M => dfr a.defers (P_sGrowS_1 (a.get 0) (a.get 1) M Q), fun a M => At Try.prog Ex none Try.f85 [1, 1] a M Q⟩]
    [1000] [] (by kernel_rfl) (by kernel_rfl) (by kernel_rfl) (by kernel_rfl) (by kernel_rfl)
    ⟨fun a M hn h => by obtain ⟨⟨n, f⟩, ds⟩ := a; have hn : n = 27 := hn; subst hn; obtain ⟨hd, h⟩ := dfr_iff h; have hd : ds = [] := hd; subst hd; exact h f rfl rfl,
    trivial⟩
    (cast (by kernel_rfl) h)
def S_sGrowS_1 (x0 x1 : Value) (M : Store) (Q : KP) : Prop :=
  OP (capV x0) fun t10 =>
  OP (lenV x0) fun t12 =>
  OP (binI .sub t10 t12) fun t13 =>
  OP (binI .sub x1 t13) fun t14 =>
  OP (binI .gtr t14 (.int .i64 0)) fun t16 =>
  BR t16 (
  OP (capV x0) fun t19 =>
  OP (slV 1 Ty.string x0 none (some t19) M) fun t20 =>
  OP2 (appZ (.string ⟨#[]⟩) 1 Ty.string t20 t14 M) fun t22 M1 =>
  OP (lenV x0) fun t24 =>
  OP (slV 1 Ty.string t22 none (some t24) M1) fun t25 =>
  NTs [t25] ∧ Q t25 M1
  ) (
  NTs [x0] ∧ Q x0 M
  )
theorem T_sGrowS_1 {x0 x1 : Value} {M : Store} {Q : KP} (h : S_sGrowS_1 x0 x1 M Q) : P_sGrowS_1 x0 x1 M Q := by
  intro f h0 h1; subst h0; subst h1
  unfold At
  exact rule (B := 1000) (N := 27) (ct := .no)
    [⟨1, fun a M => kfin Try.prog Try.f85.results.toList Q 1 a M, fun a M => kfin Try.prog Try.f85.results.toList Q 1 a M⟩]
    [] [1] (by kernel_rfl) (by kernel_rfl) (by kernel_rfl) (by kernel_rfl) (by kernel_rfl)
    ⟨fun _ _ _ h => h,
    trivial⟩
    (cast (by kernel_rfl) h)
end Go.G
