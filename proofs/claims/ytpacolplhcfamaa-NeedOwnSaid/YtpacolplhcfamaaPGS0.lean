/-  -/
import Derived.Test.YtpacolplhcfamaaPGN
open Go.RowKit
namespace Go.G0
open Go.Ab Go.Proofs Go.G
def Ex : Ext := fun _ => none
abbrev R (f : FuncId) (args : Array Value) (M : Store) (Q : Value → Store → Prop) : Prop := Runs Try.prog Ex f args M Q
abbrev KC (f : Value) (args : List Value) (M : Store) (Q : Value → Store → Prop) : Prop := kcall Try.prog Ex f args M Q
set_option linter.unusedVariables false
set_option maxRecDepth 100000
def P_fettleref1_Sum_1 (x0 x3 x4 : Value) (M : Store) (Q : Value → Store → Prop) : Prop :=
  ∀ f : Nat → Value, f 0 = x0 → f 3 = x3 → f 4 = x4 → At Try.prog Ex none Try.f111 [1, 1, 0, 1, 0] ⟨⟨34, f⟩, []⟩ M Q
def P_fettleref1_Sum_2 (x0 x3 x4 x5 : Value) (M : Store) (Q : Value → Store → Prop) : Prop :=
  ∀ f : Nat → Value, f 0 = x0 → f 3 = x3 → f 4 = x4 → f 5 = x5 → At Try.prog Ex none Try.f111 [1, 1, 0, 1, 0, 0, 1, 0, 0, 1, 1, 0] ⟨⟨34, f⟩, []⟩ M Q
def P_fettleref1_Sum_3 (x3 : Value) (M : Store) (Q : Value → Store → Prop) : Prop :=
  ∀ f : Nat → Value, f 3 = x3 → At Try.prog Ex none Try.f111 [1, 1, 1] ⟨⟨34, f⟩, []⟩ M Q
def P_fettleref1_Sum_4 (x0 x3 x4 : Value) (M : Store) (Q : Value → Store → Prop) : Prop :=
  ∀ f : Nat → Value, f 0 = x0 → f 3 = x3 → f 4 = x4 → At Try.prog Ex none Try.f111 [1, 1, 0, 1, 0, 0, 1, 1] ⟨⟨34, f⟩, []⟩ M Q
def S_fettleref1_Sum (x0 : Value) (M : Store) (Q : Value → Store → Prop) : Prop :=
  P_fettleref1_Sum_1 x0 (.int .u32 4294967295) (.int .i64 0) M Q
theorem T_fettleref1_Sum {x0 : Value} {M : Store} {Q : Value → Store → Prop} (h : S_fettleref1_Sum x0 M Q) : R F.fettleref1_Sum #[x0] M Q := by
  refine runs_of (c := bodyOf Try.f111) Try.func111 rfl (by kernel_rfl) (by kernel_rfl) ?_
  unfold At
  exact rule (B := 1000) (N := 34) (ct := (.two .no (.two .no (.two (.two .no (.two (.here 1000) .no)) (.here 1001)))))
    [⟨1002, fun a M => dfr a.defers (P_fettleref1_Sum_1 (a.get 0) (a.get 3) (a.get 4) M Q), fun a M => At Try.prog Ex none Try.f111 [1, 1, 0, 1, 0] a M Q⟩,
    ⟨1003, fun _ _ => False, fun a M => At Try.prog Ex none Try.f111 [1, 1, 1] a M Q⟩]
    [1000, 1001] [] (by kernel_rfl) (by kernel_rfl) (by kernel_rfl) (by kernel_rfl) (by kernel_rfl)
    ⟨fun a M hn h => by obtain ⟨⟨n, f⟩, ds⟩ := a; have hn : n = 34 := hn; subst hn; obtain ⟨hd, h⟩ := dfr_iff h; have hd : ds = [] := hd; subst hd; exact h f rfl rfl rfl,
    fun _ _ _ h => h.elim,
    trivial⟩
    (cast (by kernel_rfl) h)
def S_fettleref1_Sum_1 (x0 x3 x4 : Value) (M : Store) (Q : Value → Store → Prop) : Prop :=
  OP (lenV x0) fun t9 =>
  OP (binI .lss x4 t9) fun t10 =>
  BR t10 (
  OP (ixA 1 x0 x4) fun t16 =>
  OP (ld 1 false t16 M) fun t17 =>
  OP (cvI .u32 t17) fun t18 =>
  OP (binI .xor x3 t18) fun t19 =>
  P_fettleref1_Sum_2 x0 t19 x4 (.int .i64 0) M Q
  ) (
  P_fettleref1_Sum_3 x3 M Q
  )
theorem T_fettleref1_Sum_1 {x0 x3 x4 : Value} {M : Store} {Q : Value → Store → Prop} (h : S_fettleref1_Sum_1 x0 x3 x4 M Q) : P_fettleref1_Sum_1 x0 x3 x4 M Q := by
  intro f h0 h3 h4; subst h0; subst h3; subst h4
  unfold At
  refine cast (by kernel_rfl) (CW.loop (P := Try.prog) (E := Ex) (rd := none) (x := sub (bodyOf Try.f111) [1, 1, 0, 1, 0, 0]) (a := ⟨⟨34, f⟩, []⟩) (M := M) (K := kcont Try.prog Ex none (bodyOf Try.f111) [1, 1, 0, 1, 0] (kfin Try.prog Try.f111.results.toList Q)) ?_)
  exact rule (B := 1000) (N := 34) (ct := (.two .no (.two (.two (.two .no (.two .no (.two (.here 1000) .no))) .no) (.here 1001))))
    [⟨1002, fun a M => dfr a.defers (P_fettleref1_Sum_2 (a.get 0) (a.get 3) (a.get 4) (a.get 5) M Q), fun a M => At Try.prog Ex none Try.f111 [1, 1, 0, 1, 0, 0, 1, 0, 0, 1, 1, 0] a M Q⟩,
    ⟨1003, fun _ _ => False, fun a M => At Try.prog Ex none Try.f111 [1, 1, 0, 1, 0, 0, 1, 1] a M Q⟩,
    ⟨2, fun a M => dfr a.defers (P_fettleref1_Sum_3 (a.get 3) M Q), fun a M => At Try.prog Ex none Try.f111 [1, 1, 1] a M Q⟩]
    [1000, 1001] [2] (by kernel_rfl) (by kernel_rfl) (by kernel_rfl) (by kernel_rfl) (by kernel_rfl)
    ⟨fun a M hn h => by obtain ⟨⟨n, f⟩, ds⟩ := a; have hn : n = 34 := hn; subst hn; obtain ⟨hd, h⟩ := dfr_iff h; have hd : ds = [] := hd; subst hd; exact h f rfl rfl rfl rfl,
    fun _ _ _ h => h.elim,
    fun a M hn h => by obtain ⟨⟨n, f⟩, ds⟩ := a; have hn : n = 34 := hn; subst hn; obtain ⟨hd, h⟩ := dfr_iff h; have hd : ds = [] := hd; subst hd; exact h f rfl,
    trivial⟩
    (cast (by kernel_rfl) h)
def S_fettleref1_Sum_2 (x0 x3 x4 x5 : Value) (M : Store) (Q : Value → Store → Prop) : Prop :=
  OP (binI .lss x5 (.int .i64 8)) fun t21 =>
  BR t21 (
  OP (binI .and x3 (.int .u32 1)) fun t25 =>
  OP (binI .shr x3 (.int .u64 1)) fun t27 =>
  OP (binI .eql t25 (.int .u32 1)) fun t29 =>
  BR t29 (
  OP (binI .xor t27 (.int .u32 3988292384)) fun t31 =>
  OP (binI .add x5 (.int .i64 1)) fun t23 =>
  P_fettleref1_Sum_2 x0 t31 x4 t23 M Q
  ) (
  OP (binI .add x5 (.int .i64 1)) fun t23_1 =>
  P_fettleref1_Sum_2 x0 t27 x4 t23_1 M Q
  )
  ) (
  P_fettleref1_Sum_4 x0 x3 x4 M Q
  )
theorem T_fettleref1_Sum_2 {x0 x3 x4 x5 : Value} {M : Store} {Q : Value → Store → Prop} (h : S_fettleref1_Sum_2 x0 x3 x4 x5 M Q) : P_fettleref1_Sum_2 x0 x3 x4 x5 M Q := by
  intro f h0 h3 h4 h5; subst h0; subst h3; subst h4; subst h5
  unfold At
  refine cast (by kernel_rfl) (CW.loop (P := Try.prog) (E := Ex) (rd := none) (x := sub (bodyOf Try.f111) [1, 1, 0, 1, 0, 0, 1, 0, 0, 1, 1, 0, 0]) (a := ⟨⟨34, f⟩, []⟩) (M := M) (K := kcont Try.prog Ex none (bodyOf Try.f111) [1, 1, 0, 1, 0, 0, 1, 0, 0, 1, 1, 0] (kfin Try.prog Try.f111.results.toList Q)) ?_)
  exact rule (B := 1000) (N := 34) (ct := .no)
    [⟨0, fun a M => dfr a.defers (P_fettleref1_Sum_2 (a.get 0) (a.get 3) (a.get 4) (a.get 5) M Q), fun a M => At Try.prog Ex none Try.f111 [1, 1, 0, 1, 0, 0, 1, 0, 0, 1, 1, 0] a M Q⟩,
    ⟨4, fun a M => dfr a.defers (P_fettleref1_Sum_4 (a.get 0) (a.get 3) (a.get 4) M Q), fun a M => At Try.prog Ex none Try.f111 [1, 1, 0, 1, 0, 0, 1, 1] a M Q⟩]
    [] [0, 4] (by kernel_rfl) (by kernel_rfl) (by kernel_rfl) (by kernel_rfl) (by kernel_rfl)
    ⟨fun a M hn h => by obtain ⟨⟨n, f⟩, ds⟩ := a; have hn : n = 34 := hn; subst hn; obtain ⟨hd, h⟩ := dfr_iff h; have hd : ds = [] := hd; subst hd; exact h f rfl rfl rfl rfl,
    fun a M hn h => by obtain ⟨⟨n, f⟩, ds⟩ := a; have hn : n = 34 := hn; subst hn; obtain ⟨hd, h⟩ := dfr_iff h; have hd : ds = [] := hd; subst hd; exact h f rfl rfl rfl,
    trivial⟩
    (cast (by kernel_rfl) h)
def S_fettleref1_Sum_3 (x3 : Value) (M : Store) (Q : Value → Store → Prop) : Prop :=
  OP (binI .xor x3 (.int .u32 4294967295)) fun t33 =>
  NTs [t33] ∧ Q t33 M
theorem T_fettleref1_Sum_3 {x3 : Value} {M : Store} {Q : Value → Store → Prop} (h : S_fettleref1_Sum_3 x3 M Q) : P_fettleref1_Sum_3 x3 M Q := by
  intro f h3; subst h3
  unfold At
  exact rule (B := 1000) (N := 34) (ct := .no)
    [⟨1, fun a M => kfin Try.prog Try.f111.results.toList Q 1 a M, fun a M => kfin Try.prog Try.f111.results.toList Q 1 a M⟩]
    [] [1] (by kernel_rfl) (by kernel_rfl) (by kernel_rfl) (by kernel_rfl) (by kernel_rfl)
    ⟨fun _ _ _ h => h,
    trivial⟩
    (cast (by kernel_rfl) h)
def S_fettleref1_Sum_4 (x0 x3 x4 : Value) (M : Store) (Q : Value → Store → Prop) : Prop :=
  OP (binI .add x4 (.int .i64 1)) fun t12 =>
  P_fettleref1_Sum_1 x0 x3 t12 M Q
theorem T_fettleref1_Sum_4 {x0 x3 x4 : Value} {M : Store} {Q : Value → Store → Prop} (h : S_fettleref1_Sum_4 x0 x3 x4 M Q) : P_fettleref1_Sum_4 x0 x3 x4 M Q := by
  intro f h0 h3 h4; subst h0; subst h3; subst h4
  unfold At
  exact rule (B := 1000) (N := 34) (ct := .no)
    [⟨0, fun a M => dfr a.defers (P_fettleref1_Sum_1 (a.get 0) (a.get 3) (a.get 4) M Q), fun a M => At Try.prog Ex none Try.f111 [1, 1, 0, 1, 0] a M Q⟩]
    [] [0] (by kernel_rfl) (by kernel_rfl) (by kernel_rfl) (by kernel_rfl) (by kernel_rfl)
    ⟨fun a M hn h => by obtain ⟨⟨n, f⟩, ds⟩ := a; have hn : n = 34 := hn; subst hn; obtain ⟨hd, h⟩ := dfr_iff h; have hd : ds = [] := hd; subst hd; exact h f rfl rfl rfl,
    trivial⟩
    (cast (by kernel_rfl) h)
def P_crcs_Sum_1 (x3 x7 x8 x9 : Value) (M : Store) (Q : Value → Store → Prop) : Prop :=
  ∀ f : Nat → Value, f 3 = x3 → f 7 = x7 → f 8 = x8 → f 9 = x9 → At Try.prog Ex none Try.f146 [1, 1, 0, 1, 0] ⟨⟨31, f⟩, []⟩ M Q
def P_crcs_Sum_2 (x3 x7 x8 x9 x17 : Value) (M : Store) (Q : Value → Store → Prop) : Prop :=
  ∀ f : Nat → Value, f 3 = x3 → f 7 = x7 → f 8 = x8 → f 9 = x9 → f 17 = x17 → At Try.prog Ex none Try.f146 [1, 1, 0, 1, 0, 0, 1, 1, 0, 0, 1, 1, 1, 0] ⟨⟨31, f⟩, []⟩ M Q
def P_crcs_Sum_3 (x3 : Value) (M : Store) (Q : Value → Store → Prop) : Prop :=
  ∀ f : Nat → Value, f 3 = x3 → At Try.prog Ex none Try.f146 [1, 1, 1] ⟨⟨31, f⟩, []⟩ M Q
def P_crcs_Sum_4 (x3 x7 x8 x9 : Value) (M : Store) (Q : Value → Store → Prop) : Prop :=
  ∀ f : Nat → Value, f 3 = x3 → f 7 = x7 → f 8 = x8 → f 9 = x9 → At Try.prog Ex none Try.f146 [1, 1, 0, 1, 0, 0, 1, 1, 1] ⟨⟨31, f⟩, []⟩ M Q
def S_crcs_Sum (x0 : Value) (M : Store) (Q : Value → Store → Prop) : Prop :=
  OP (lenV x0) fun t8 =>
  P_crcs_Sum_1 (.int .u32 4294967295) x0 t8 (.int .i64 0) M Q
theorem T_crcs_Sum {x0 : Value} {M : Store} {Q : Value → Store → Prop} (h : S_crcs_Sum x0 M Q) : R F.crcs_Sum #[x0] M Q := by
  refine runs_of (c := bodyOf Try.f146) Try.func146 rfl (by kernel_rfl) (by kernel_rfl) ?_
  unfold At
  exact rule (B := 1000) (N := 31) (ct := (.two .no (.two .no (.two (.two .no (.two (.here 1000) .no)) (.here 1001)))))
    [⟨1002, fun a M => dfr a.defers (P_crcs_Sum_1 (a.get 3) (a.get 7) (a.get 8) (a.get 9) M Q), fun a M => At Try.prog Ex none Try.f146 [1, 1, 0, 1, 0] a M Q⟩,
    ⟨1003, fun _ _ => False, fun a M => At Try.prog Ex none Try.f146 [1, 1, 1] a M Q⟩]
    [1000, 1001] [] (by kernel_rfl) (by kernel_rfl) (by kernel_rfl) (by kernel_rfl) (by kernel_rfl)
    ⟨fun a M hn h => by obtain ⟨⟨n, f⟩, ds⟩ := a; have hn : n = 31 := hn; subst hn; obtain ⟨hd, h⟩ := dfr_iff h; have hd : ds = [] := hd; subst hd; exact h f rfl rfl rfl rfl,
    fun _ _ _ h => h.elim,
    trivial⟩
    (cast (by kernel_rfl) h)
def S_crcs_Sum_1 (x3 x7 x8 x9 : Value) (M : Store) (Q : Value → Store → Prop) : Prop :=
  OP (binI .lss x9 x8) fun t10 =>
  BR t10 (
  OP (ixA 1 x7 x9) fun t11 =>
  OP (ld 1 false t11 M) fun t12 =>
  OP (cvI .u32 t12) fun t15 =>
  OP (binI .xor x3 t15) fun t16 =>
  P_crcs_Sum_2 t16 x7 x8 x9 (.int .i64 0) M Q
  ) (
  P_crcs_Sum_3 x3 M Q
  )
theorem T_crcs_Sum_1 {x3 x7 x8 x9 : Value} {M : Store} {Q : Value → Store → Prop} (h : S_crcs_Sum_1 x3 x7 x8 x9 M Q) : P_crcs_Sum_1 x3 x7 x8 x9 M Q := by
  intro f h3 h7 h8 h9; subst h3; subst h7; subst h8; subst h9
  unfold At
  refine cast (by kernel_rfl) (CW.loop (P := Try.prog) (E := Ex) (rd := none) (x := sub (bodyOf Try.f146) [1, 1, 0, 1, 0, 0]) (a := ⟨⟨31, f⟩, []⟩) (M := M) (K := kcont Try.prog Ex none (bodyOf Try.f146) [1, 1, 0, 1, 0] (kfin Try.prog Try.f146.results.toList Q)) ?_)
  exact rule (B := 1000) (N := 31) (ct := (.two .no (.two .no (.two (.two (.two .no (.two .no (.two .no (.two (.here 1000) .no)))) .no) (.here 1001)))))
    [⟨1002, fun a M => dfr a.defers (P_crcs_Sum_2 (a.get 3) (a.get 7) (a.get 8) (a.get 9) (a.get 17) M Q), fun a M => At Try.prog Ex none Try.f146 [1, 1, 0, 1, 0, 0, 1, 1, 0, 0, 1, 1, 1, 0] a M Q⟩,
    ⟨1003, fun _ _ => False, fun a M => At Try.prog Ex none Try.f146 [1, 1, 0, 1, 0, 0, 1, 1, 1] a M Q⟩,
    ⟨2, fun a M => dfr a.defers (P_crcs_Sum_3 (a.get 3) M Q), fun a M => At Try.prog Ex none Try.f146 [1, 1, 1] a M Q⟩]
    [1000, 1001] [2] (by kernel_rfl) (by kernel_rfl) (by kernel_rfl) (by kernel_rfl) (by kernel_rfl)
    ⟨fun a M hn h => by obtain ⟨⟨n, f⟩, ds⟩ := a; have hn : n = 31 := hn; subst hn; obtain ⟨hd, h⟩ := dfr_iff h; have hd : ds = [] := hd; subst hd; exact h f rfl rfl rfl rfl rfl,
    fun _ _ _ h => h.elim,
    fun a M hn h => by obtain ⟨⟨n, f⟩, ds⟩ := a; have hn : n = 31 := hn; subst hn; obtain ⟨hd, h⟩ := dfr_iff h; have hd : ds = [] := hd; subst hd; exact h f rfl,
    trivial⟩
    (cast (by kernel_rfl) h)
def S_crcs_Sum_2 (x3 x7 x8 x9 x17 : Value) (M : Store) (Q : Value → Store → Prop) : Prop :=
  OP (binI .lss x17 (.int .i64 8)) fun t18 =>
  BR t18 (
  OP (binI .and x3 (.int .u32 1)) fun t20 =>
  OP (binI .shr x3 (.int .u64 1)) fun t22 =>
  OP (binI .eql t20 (.int .u32 1)) fun t24 =>
  BR t24 (
  OP (binI .xor t22 (.int .u32 3988292384)) fun t26 =>
  OP (binI .add x17 (.int .i64 1)) fun t27 =>
  P_crcs_Sum_2 t26 x7 x8 x9 t27 M Q
  ) (
  OP (binI .add x17 (.int .i64 1)) fun t27_1 =>
  P_crcs_Sum_2 t22 x7 x8 x9 t27_1 M Q
  )
  ) (
  P_crcs_Sum_4 x3 x7 x8 x9 M Q
  )
theorem T_crcs_Sum_2 {x3 x7 x8 x9 x17 : Value} {M : Store} {Q : Value → Store → Prop} (h : S_crcs_Sum_2 x3 x7 x8 x9 x17 M Q) : P_crcs_Sum_2 x3 x7 x8 x9 x17 M Q := by
  intro f h3 h7 h8 h9 h17; subst h3; subst h7; subst h8; subst h9; subst h17
  unfold At
  refine cast (by kernel_rfl) (CW.loop (P := Try.prog) (E := Ex) (rd := none) (x := sub (bodyOf Try.f146) [1, 1, 0, 1, 0, 0, 1, 1, 0, 0, 1, 1, 1, 0, 0]) (a := ⟨⟨31, f⟩, []⟩) (M := M) (K := kcont Try.prog Ex none (bodyOf Try.f146) [1, 1, 0, 1, 0, 0, 1, 1, 0, 0, 1, 1, 1, 0] (kfin Try.prog Try.f146.results.toList Q)) ?_)
  exact rule (B := 1000) (N := 31) (ct := .no)
    [⟨0, fun a M => dfr a.defers (P_crcs_Sum_2 (a.get 3) (a.get 7) (a.get 8) (a.get 9) (a.get 17) M Q), fun a M => At Try.prog Ex none Try.f146 [1, 1, 0, 1, 0, 0, 1, 1, 0, 0, 1, 1, 1, 0] a M Q⟩,
    ⟨4, fun a M => dfr a.defers (P_crcs_Sum_4 (a.get 3) (a.get 7) (a.get 8) (a.get 9) M Q), fun a M => At Try.prog Ex none Try.f146 [1, 1, 0, 1, 0, 0, 1, 1, 1] a M Q⟩]
    [] [0, 4] (by kernel_rfl) (by kernel_rfl) (by kernel_rfl) (by kernel_rfl) (by kernel_rfl)
    ⟨fun a M hn h => by obtain ⟨⟨n, f⟩, ds⟩ := a; have hn : n = 31 := hn; subst hn; obtain ⟨hd, h⟩ := dfr_iff h; have hd : ds = [] := hd; subst hd; exact h f rfl rfl rfl rfl rfl,
    fun a M hn h => by obtain ⟨⟨n, f⟩, ds⟩ := a; have hn : n = 31 := hn; subst hn; obtain ⟨hd, h⟩ := dfr_iff h; have hd : ds = [] := hd; subst hd; exact h f rfl rfl rfl rfl,
    trivial⟩
    (cast (by kernel_rfl) h)
def S_crcs_Sum_3 (x3 : Value) (M : Store) (Q : Value → Store → Prop) : Prop :=
  OP (binI .xor x3 (.int .u32 4294967295)) fun t30 =>
  NTs [t30] ∧ Q t30 M
theorem T_crcs_Sum_3 {x3 : Value} {M : Store} {Q : Value → Store → Prop} (h : S_crcs_Sum_3 x3 M Q) : P_crcs_Sum_3 x3 M Q := by
  intro f h3; subst h3
  unfold At
  exact rule (B := 1000) (N := 31) (ct := .no)
    [⟨1, fun a M => kfin Try.prog Try.f146.results.toList Q 1 a M, fun a M => kfin Try.prog Try.f146.results.toList Q 1 a M⟩]
    [] [1] (by kernel_rfl) (by kernel_rfl) (by kernel_rfl) (by kernel_rfl) (by kernel_rfl)
    ⟨fun _ _ _ h => h,
    trivial⟩
    (cast (by kernel_rfl) h)
def S_crcs_Sum_4 (x3 x7 x8 x9 : Value) (M : Store) (Q : Value → Store → Prop) : Prop :=
  OP (binI .add x9 (.int .i64 1)) fun t28 =>
  P_crcs_Sum_1 x3 x7 x8 t28 M Q
theorem T_crcs_Sum_4 {x3 x7 x8 x9 : Value} {M : Store} {Q : Value → Store → Prop} (h : S_crcs_Sum_4 x3 x7 x8 x9 M Q) : P_crcs_Sum_4 x3 x7 x8 x9 M Q := by
  intro f h3 h7 h8 h9; subst h3; subst h7; subst h8; subst h9
  unfold At
  exact rule (B := 1000) (N := 31) (ct := .no)
    [⟨0, fun a M => dfr a.defers (P_crcs_Sum_1 (a.get 3) (a.get 7) (a.get 8) (a.get 9) M Q), fun a M => At Try.prog Ex none Try.f146 [1, 1, 0, 1, 0] a M Q⟩]
    [] [0] (by kernel_rfl) (by kernel_rfl) (by kernel_rfl) (by kernel_rfl) (by kernel_rfl)
    ⟨fun a M hn h => by obtain ⟨⟨n, f⟩, ds⟩ := a; have hn : n = 31 := hn; subst hn; obtain ⟨hd, h⟩ := dfr_iff h; have hd : ds = [] := hd; subst hd; exact h f rfl rfl rfl rfl,
    trivial⟩
    (cast (by kernel_rfl) h)
end Go.G0
