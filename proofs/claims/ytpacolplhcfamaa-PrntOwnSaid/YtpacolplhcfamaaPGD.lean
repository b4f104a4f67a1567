/-  -/
import Derived.Test.YtpacolplhcfamaaPGN
open Go.RowKit
namespace Go.G
open Go.Ab Go.Proofs
set_option linter.unusedVariables false
set_option maxRecDepth 100000
def P_fettlelaw10_PrntOwn_1 (x0 x1 : Value) (M : Store) (Q : Value → Store → Prop) : Prop :=
  ∀ f : Nat → Value, f 0 = x0 → f 1 = x1 → At Try.prog Ex none Try.f4 [1, 1] ⟨⟨109, f⟩, []⟩ M Q
def P_fettlelaw10_PrntOwn_2 (x0 x1 x26 x27 x28 : Value) (M : Store) (Q : Value → Store → Prop) : Prop :=
  ∀ f : Nat → Value, f 0 = x0 → f 1 = x1 → f 26 = x26 → f 27 = x27 → f 28 = x28 → At Try.prog Ex none Try.f4 [1, 1, 0, 1, 0] ⟨⟨109, f⟩, []⟩ M Q
def P_fettlelaw10_PrntOwn_3 (x0 x1 x26 x27 x28 : Value) (M : Store) (Q : Value → Store → Prop) : Prop :=
  ∀ f : Nat → Value, f 0 = x0 → f 1 = x1 → f 26 = x26 → f 27 = x27 → f 28 = x28 → At Try.prog Ex none Try.f4 [1, 1, 0, 1, 0, 0, 1, 1] ⟨⟨109, f⟩, []⟩ M Q
def P_fettlelaw10_PrntOwn_4 (x0 x1 : Value) (M : Store) (Q : Value → Store → Prop) : Prop :=
  ∀ f : Nat → Value, f 0 = x0 → f 1 = x1 → At Try.prog Ex none Try.f4 [1, 1, 1] ⟨⟨109, f⟩, []⟩ M Q
def P_fettlelaw10_PrntOwn_5 (x1 x7 x8 x11 x49 x50 x51 : Value) (M : Store) (Q : Value → Store → Prop) : Prop :=
  ∀ f : Nat → Value, f 1 = x1 → f 7 = x7 → f 8 = x8 → f 11 = x11 → f 49 = x49 → f 50 = x50 → f 51 = x51 → At Try.prog Ex none Try.f4 [1, 1, 1, 1, 1, 1, 0, 1, 0] ⟨⟨109, f⟩, []⟩ M Q
def P_fettlelaw10_PrntOwn_6 (x1 x7 x8 x11 x13 x49 x50 x51 x56 x57 : Value) (M : Store) (Q : Value → Store → Prop) : Prop :=
  ∀ f : Nat → Value, f 1 = x1 → f 7 = x7 → f 8 = x8 → f 11 = x11 → f 13 = x13 → f 49 = x49 → f 50 = x50 → f 51 = x51 → f 56 = x56 → f 57 = x57 → At Try.prog Ex none Try.f4 [1, 1, 1, 1, 1, 1, 0, 1, 0, 0, 1, 1, 0, 0, 1, 1, 0] ⟨⟨109, f⟩, []⟩ M Q
def P_fettlelaw10_PrntOwn_7 (x1 x7 x8 x11 : Value) (M : Store) (Q : Value → Store → Prop) : Prop :=
  ∀ f : Nat → Value, f 1 = x1 → f 7 = x7 → f 8 = x8 → f 11 = x11 → At Try.prog Ex none Try.f4 [1, 1, 1, 1, 1, 1, 1] ⟨⟨109, f⟩, []⟩ M Q
def P_fettlelaw10_PrntOwn_8 (x1 x7 x8 x11 x49 x50 x51 : Value) (M : Store) (Q : Value → Store → Prop) : Prop :=
  ∀ f : Nat → Value, f 1 = x1 → f 7 = x7 → f 8 = x8 → f 11 = x11 → f 49 = x49 → f 50 = x50 → f 51 = x51 → At Try.prog Ex none Try.f4 [1, 1, 1, 1, 1, 1, 0, 1, 0, 0, 1, 1, 1] ⟨⟨109, f⟩, []⟩ M Q
def P_fettlelaw10_PrntOwn_9 (x1 x7 x8 x11 x15 x74 x75 : Value) (M : Store) (Q : Value → Store → Prop) : Prop :=
  ∀ f : Nat → Value, f 1 = x1 → f 7 = x7 → f 8 = x8 → f 11 = x11 → f 15 = x15 → f 74 = x74 → f 75 = x75 → At Try.prog Ex none Try.f4 [1, 1, 1, 1, 1, 1, 1, 1, 0, 1, 0] ⟨⟨109, f⟩, []⟩ M Q
def P_fettlelaw10_PrntOwn_10 (x1 x7 x8 x11 : Value) (M : Store) (Q : Value → Store → Prop) : Prop :=
  ∀ f : Nat → Value, f 1 = x1 → f 7 = x7 → f 8 = x8 → f 11 = x11 → At Try.prog Ex none Try.f4 [1, 1, 1, 1, 1, 1, 1, 1, 1] ⟨⟨109, f⟩, []⟩ M Q
def S_fettlelaw10_PrntOwn (x0 x1 : Value) (M : Store) (Q : Value → Store → Prop) : Prop :=
  OP (lenV x1) fun t22 =>
  OP (binI .gtr t22 (.int .i64 8)) fun t23 =>
  BR t23 (
  OP (slV 1 Ty.sl_uint8 x1 none (some (.int .i64 8)) M) fun t25 =>
  P_fettlelaw10_PrntOwn_1 x0 t25 M Q
  ) (
  P_fettlelaw10_PrntOwn_1 x0 x1 M Q
  )
theorem T_fettlelaw10_PrntOwn {x0 x1 : Value} {M : Store} {Q : Value → Store → Prop} (h : S_fettlelaw10_PrntOwn x0 x1 M Q) : R F.fettlelaw10_PrntOwn #[x0, x1] M Q := by
  refine runs_of (c := bodyOf Try.f4) Try.func4 rfl (by kernel_rfl) (by kernel_rfl) ?_
  unfold At
  exact rule (B := 1000) (N := 109) (ct := (.two .no (.two .no (.here 1000))))
    [⟨1002, fun a M => dfr a.defers (P_fettlelaw10_PrntOwn_1 (a.get 0) (a.get 1) M Q), fun a M => At Try.prog Ex none Try.f4 [1, 1] a M Q⟩]
    [1000] [] (by kernel_rfl) (by kernel_rfl) (by kernel_rfl) (by kernel_rfl) (by kernel_rfl)
    ⟨fun a M hn h => by obtain ⟨⟨n, f⟩, ds⟩ := a; have hn : n = 109 := hn; subst hn; obtain ⟨hd, h⟩ := dfr_iff h; have hd : ds = [] := hd; subst hd; exact h f rfl rfl,
    trivial⟩
    (cast (by kernel_rfl) h)
def S_fettlelaw10_PrntOwn_1 (x0 x1 : Value) (M : Store) (Q : Value → Store → Prop) : Prop :=
  OP (lenV x1) fun t27 =>
  P_fettlelaw10_PrntOwn_2 x0 x1 x1 t27 (.int .i64 0) M Q
theorem T_fettlelaw10_PrntOwn_1 {x0 x1 : Value} {M : Store} {Q : Value → Store → Prop} (h : S_fettlelaw10_PrntOwn_1 x0 x1 M Q) : P_fettlelaw10_PrntOwn_1 x0 x1 M Q := by
  intro f h0 h1; subst h0; subst h1
  unfold At
  exact rule (B := 1000) (N := 109) (ct := (.two (.two .no (.two (.here 1000) .no)) (.here 1001)))
    [⟨1002, fun a M => dfr a.defers (P_fettlelaw10_PrntOwn_2 (a.get 0) (a.get 1) (a.get 26) (a.get 27) (a.get 28) M Q), fun a M => At Try.prog Ex none Try.f4 [1, 1, 0, 1, 0] a M Q⟩,
    ⟨1003, fun _ _ => False, fun a M => At Try.prog Ex none Try.f4 [1, 1, 1] a M Q⟩]
    [1000, 1001] [] (by kernel_rfl) (by kernel_rfl) (by kernel_rfl) (by kernel_rfl) (by kernel_rfl)
    ⟨fun a M hn h => by obtain ⟨⟨n, f⟩, ds⟩ := a; have hn : n = 109 := hn; subst hn; obtain ⟨hd, h⟩ := dfr_iff h; have hd : ds = [] := hd; subst hd; exact h f rfl rfl rfl rfl rfl,
    fun _ _ _ h => h.elim,
    trivial⟩
    (cast (by kernel_rfl) h)
def S_fettlelaw10_PrntOwn_2 (x0 x1 x26 x27 x28 : Value) (M : Store) (Q : Value → Store → Prop) : Prop :=
  OP (binI .lss x28 x27) fun t29 =>
  BR t29 (
  P_fettlelaw10_PrntOwn_3 x0 x1 x26 x27 x28 M Q
  ) (
  P_fettlelaw10_PrntOwn_4 x0 x1 M Q
  )
theorem T_fettlelaw10_PrntOwn_2 {x0 x1 x26 x27 x28 : Value} {M : Store} {Q : Value → Store → Prop} (h : S_fettlelaw10_PrntOwn_2 x0 x1 x26 x27 x28 M Q) : P_fettlelaw10_PrntOwn_2 x0 x1 x26 x27 x28 M Q := by
  intro f h0 h1 h26 h27 h28; subst h0; subst h1; subst h26; subst h27; subst h28
  unfold At
  refine cast (by kernel_rfl) (CW.loop (P := Try.prog) (E := Ex) (rd := none) (x := sub (bodyOf Try.f4) [1, 1, 0, 1, 0, 0]) (a := ⟨⟨109, f⟩, []⟩) (M := M) (K := kcont Try.prog Ex none (bodyOf Try.f4) [1, 1, 0, 1, 0] (kfin Try.prog Try.f4.results.toList Q)) ?_)
  exact rule (B := 1000) (N := 109) (ct := (.two .no (.two .no (.here 1000))))
    [⟨1002, fun a M => dfr a.defers (P_fettlelaw10_PrntOwn_3 (a.get 0) (a.get 1) (a.get 26) (a.get 27) (a.get 28) M Q), fun a M => At Try.prog Ex none Try.f4 [1, 1, 0, 1, 0, 0, 1, 1] a M Q⟩,
    ⟨2, fun a M => dfr a.defers (P_fettlelaw10_PrntOwn_4 (a.get 0) (a.get 1) M Q), fun a M => At Try.prog Ex none Try.f4 [1, 1, 1] a M Q⟩]
    [1000] [2] (by kernel_rfl) (by kernel_rfl) (by kernel_rfl) (by kernel_rfl) (by kernel_rfl)
    ⟨fun a M hn h => by obtain ⟨⟨n, f⟩, ds⟩ := a; have hn : n = 109 := hn; subst hn; obtain ⟨hd, h⟩ := dfr_iff h; have hd : ds = [] := hd; subst hd; exact h f rfl rfl rfl rfl rfl,
    fun a M hn h => by obtain ⟨⟨n, f⟩, ds⟩ := a; have hn : n = 109 := hn; subst hn; obtain ⟨hd, h⟩ := dfr_iff h; have hd : ds = [] := hd; subst hd; exact h f rfl rfl,
    trivial⟩
    (cast (by kernel_rfl) h)
def S_fettlelaw10_PrntOwn_3 (x0 x1 x26 x27 x28 : Value) (M : Store) (Q : Value → Store → Prop) : Prop :=
  OP (ixA 1 x26 x28) fun t30 =>
  OP (ld 1 false t30 M) fun t31 =>
  OP (lenV t31) fun t33 =>
  OP (binI .gtr t33 (.int .i64 256)) fun t34 =>
  BR t34 (
  R F.fettlelaw10_awake #[] M fun t35 M1 =>
  NTs [t35] ∧ Q t35 M1
  ) (
  OP (binI .add x28 (.int .i64 1)) fun t36 =>
  P_fettlelaw10_PrntOwn_2 x0 x1 x26 x27 t36 M Q
  )
theorem T_fettlelaw10_PrntOwn_3 {x0 x1 x26 x27 x28 : Value} {M : Store} {Q : Value → Store → Prop} (h : S_fettlelaw10_PrntOwn_3 x0 x1 x26 x27 x28 M Q) : P_fettlelaw10_PrntOwn_3 x0 x1 x26 x27 x28 M Q := by
  intro f h0 h1 h26 h27 h28; subst h0; subst h1; subst h26; subst h27; subst h28
  unfold At
  exact rule (B := 1000) (N := 109) (ct := .no)
    [⟨0, fun a M => dfr a.defers (P_fettlelaw10_PrntOwn_2 (a.get 0) (a.get 1) (a.get 26) (a.get 27) (a.get 28) M Q), fun a M => At Try.prog Ex none Try.f4 [1, 1, 0, 1, 0] a M Q⟩,
    ⟨1, fun a M => kfin Try.prog Try.f4.results.toList Q 1 a M, fun a M => kfin Try.prog Try.f4.results.toList Q 1 a M⟩]
    [] [0, 1] (by kernel_rfl) (by kernel_rfl) (by kernel_rfl) (by kernel_rfl) (by kernel_rfl)
    ⟨fun a M hn h => by obtain ⟨⟨n, f⟩, ds⟩ := a; have hn : n = 109 := hn; subst hn; obtain ⟨hd, h⟩ := dfr_iff h; have hd : ds = [] := hd; subst hd; exact h f rfl rfl rfl rfl rfl,
    fun _ _ _ h => h,
    trivial⟩
    (cast (by kernel_rfl) h)
def S_fettlelaw10_PrntOwn_4 (x0 x1 : Value) (M : Store) (Q : Value → Store → Prop) : Prop :=
  R F.fettlelaw6_Act #[x0] M fun t38 M1 =>
  R F.prnt_Print #[t38, x1] M1 fun t40 M2 =>
  OP (cvBS t40 M2) fun t42 =>
  R F.prnt_Parse #[t40] M2 fun t45 M3 =>
  OP (tup t45 0) fun t46 =>
  OP (tup t45 1) fun t47 =>
  OP (tup t45 2) fun t48 =>
  OP (lenV t47) fun t50 =>
  P_fettlelaw10_PrntOwn_5 x1 t40 t42 t48 t47 t50 (.int .i64 0) M3 Q
theorem T_fettlelaw10_PrntOwn_4 {x0 x1 : Value} {M : Store} {Q : Value → Store → Prop} (h : S_fettlelaw10_PrntOwn_4 x0 x1 M Q) : P_fettlelaw10_PrntOwn_4 x0 x1 M Q := by
  intro f h0 h1; subst h0; subst h1
  unfold At
  exact rule (B := 1000) (N := 109) (ct := (.two .no (.two .no (.two .no (.two (.two .no (.two (.here 1000) .no)) (.here 1001))))))
    [⟨1002, fun a M => dfr a.defers (P_fettlelaw10_PrntOwn_5 (a.get 1) (a.get 7) (a.get 8) (a.get 11) (a.get 49) (a.get 50) (a.get 51) M Q), fun a M => At Try.prog Ex none Try.f4 [1, 1, 1, 1, 1, 1, 0, 1, 0] a M Q⟩,
    ⟨1003, fun _ _ => False, fun a M => At Try.prog Ex none Try.f4 [1, 1, 1, 1, 1, 1, 1] a M Q⟩]
    [1000, 1001] [] (by kernel_rfl) (by kernel_rfl) (by kernel_rfl) (by kernel_rfl) (by kernel_rfl)
    ⟨fun a M hn h => by obtain ⟨⟨n, f⟩, ds⟩ := a; have hn : n = 109 := hn; subst hn; obtain ⟨hd, h⟩ := dfr_iff h; have hd : ds = [] := hd; subst hd; exact h f rfl rfl rfl rfl rfl rfl rfl,
    fun _ _ _ h => h.elim,
    trivial⟩
    (cast (by kernel_rfl) h)
def S_fettlelaw10_PrntOwn_5 (x1 x7 x8 x11 x49 x50 x51 : Value) (M : Store) (Q : Value → Store → Prop) : Prop :=
  OP (binI .lss x51 x50) fun t52 =>
  BR t52 (
  OP (ixA 1 x49 x51) fun t53 =>
  OP (ld 1 false t53 M) fun t54 =>
  OP (lenV t54) fun t56 =>
  P_fettlelaw10_PrntOwn_6 x1 x7 x8 x11 t54 x49 x50 x51 t56 (.int .i64 0) M Q
  ) (
  P_fettlelaw10_PrntOwn_7 x1 x7 x8 x11 M Q
  )
theorem T_fettlelaw10_PrntOwn_5 {x1 x7 x8 x11 x49 x50 x51 : Value} {M : Store} {Q : Value → Store → Prop} (h : S_fettlelaw10_PrntOwn_5 x1 x7 x8 x11 x49 x50 x51 M Q) : P_fettlelaw10_PrntOwn_5 x1 x7 x8 x11 x49 x50 x51 M Q := by
  intro f h1 h7 h8 h11 h49 h50 h51; subst h1; subst h7; subst h8; subst h11; subst h49; subst h50; subst h51
  unfold At
  refine cast (by kernel_rfl) (CW.loop (P := Try.prog) (E := Ex) (rd := none) (x := sub (bodyOf Try.f4) [1, 1, 1, 1, 1, 1, 0, 1, 0, 0]) (a := ⟨⟨109, f⟩, []⟩) (M := M) (K := kcont Try.prog Ex none (bodyOf Try.f4) [1, 1, 1, 1, 1, 1, 0, 1, 0] (kfin Try.prog Try.f4.results.toList Q)) ?_)
  exact rule (B := 1000) (N := 109) (ct := (.two .no (.two .no (.two (.two (.two .no (.two .no (.two (.here 1000) .no))) .no) (.here 1001)))))
    [⟨1002, fun a M => dfr a.defers (P_fettlelaw10_PrntOwn_6 (a.get 1) (a.get 7) (a.get 8) (a.get 11) (a.get 13) (a.get 49) (a.get 50) (a.get 51) (a.get 56) (a.get 57) M Q), fun a M => At Try.prog Ex none Try.f4 [1, 1, 1, 1, 1, 1, 0, 1, 0, 0, 1, 1, 0, 0, 1, 1, 0] a M Q⟩,
    ⟨1003, fun _ _ => False, fun a M => At Try.prog Ex none Try.f4 [1, 1, 1, 1, 1, 1, 0, 1, 0, 0, 1, 1, 1] a M Q⟩,
    ⟨4, fun a M => dfr a.defers (P_fettlelaw10_PrntOwn_7 (a.get 1) (a.get 7) (a.get 8) (a.get 11) M Q), fun a M => At Try.prog Ex none Try.f4 [1, 1, 1, 1, 1, 1, 1] a M Q⟩]
    [1000, 1001] [4] (by kernel_rfl) (by kernel_rfl) (by kernel_rfl) (by kernel_rfl) (by kernel_rfl)
    ⟨fun a M hn h => by obtain ⟨⟨n, f⟩, ds⟩ := a; have hn : n = 109 := hn; subst hn; obtain ⟨hd, h⟩ := dfr_iff h; have hd : ds = [] := hd; subst hd; exact h f rfl rfl rfl rfl rfl rfl rfl rfl rfl rfl,
    fun _ _ _ h => h.elim,
    fun a M hn h => by obtain ⟨⟨n, f⟩, ds⟩ := a; have hn : n = 109 := hn; subst hn; obtain ⟨hd, h⟩ := dfr_iff h; have hd : ds = [] := hd; subst hd; exact h f rfl rfl rfl rfl,
    trivial⟩
    (cast (by kernel_rfl) h)
def S_fettlelaw10_PrntOwn_6 (x1 x7 x8 x11 x13 x49 x50 x51 x56 x57 : Value) (M : Store) (Q : Value → Store → Prop) : Prop :=
  OP (binI .lss x57 x56) fun t58 =>
  BR t58 (
  OP (ixA 1 x13 x57) fun t62 =>
  OP (ld 1 false t62 M) fun t63 =>
  OP (binI .add t63 (.int .u8 1)) fun t64 =>
  OP (ixA 1 x13 x57) fun t65 =>
  OP (st 1 t65 t64 M) fun M1 =>
  OP (binI .add x57 (.int .i64 1)) fun t66 =>
  P_fettlelaw10_PrntOwn_6 x1 x7 x8 x11 x13 x49 x50 x51 x56 t66 M1 Q
  ) (
  P_fettlelaw10_PrntOwn_8 x1 x7 x8 x11 x49 x50 x51 M Q
  )
theorem T_fettlelaw10_PrntOwn_6 {x1 x7 x8 x11 x13 x49 x50 x51 x56 x57 : Value} {M : Store} {Q : Value → Store → Prop} (h : S_fettlelaw10_PrntOwn_6 x1 x7 x8 x11 x13 x49 x50 x51 x56 x57 M Q) : P_fettlelaw10_PrntOwn_6 x1 x7 x8 x11 x13 x49 x50 x51 x56 x57 M Q := by
  intro f h1 h7 h8 h11 h13 h49 h50 h51 h56 h57; subst h1; subst h7; subst h8; subst h11; subst h13; subst h49; subst h50; subst h51; subst h56; subst h57
  unfold At
  refine cast (by kernel_rfl) (CW.loop (P := Try.prog) (E := Ex) (rd := none) (x := sub (bodyOf Try.f4) [1, 1, 1, 1, 1, 1, 0, 1, 0, 0, 1, 1, 0, 0, 1, 1, 0, 0]) (a := ⟨⟨109, f⟩, []⟩) (M := M) (K := kcont Try.prog Ex none (bodyOf Try.f4) [1, 1, 1, 1, 1, 1, 0, 1, 0, 0, 1, 1, 0, 0, 1, 1, 0] (kfin Try.prog Try.f4.results.toList Q)) ?_)
  exact rule (B := 1000) (N := 109) (ct := .no)
    [⟨0, fun a M => dfr a.defers (P_fettlelaw10_PrntOwn_6 (a.get 1) (a.get 7) (a.get 8) (a.get 11) (a.get 13) (a.get 49) (a.get 50) (a.get 51) (a.get 56) (a.get 57) M Q), fun a M => At Try.prog Ex none Try.f4 [1, 1, 1, 1, 1, 1, 0, 1, 0, 0, 1, 1, 0, 0, 1, 1, 0] a M Q⟩,
    ⟨6, fun a M => dfr a.defers (P_fettlelaw10_PrntOwn_8 (a.get 1) (a.get 7) (a.get 8) (a.get 11) (a.get 49) (a.get 50) (a.get 51) M Q), fun a M => At Try.prog Ex none Try.f4 [1, 1, 1, 1, 1, 1, 0, 1, 0, 0, 1, 1, 1] a M Q⟩]
    [] [0, 6] (by kernel_rfl) (by kernel_rfl) (by kernel_rfl) (by kernel_rfl) (by kernel_rfl)
    ⟨fun a M hn h => by obtain ⟨⟨n, f⟩, ds⟩ := a; have hn : n = 109 := hn; subst hn; obtain ⟨hd, h⟩ := dfr_iff h; have hd : ds = [] := hd; subst hd; exact h f rfl rfl rfl rfl rfl rfl rfl rfl rfl rfl,
    fun a M hn h => by obtain ⟨⟨n, f⟩, ds⟩ := a; have hn : n = 109 := hn; subst hn; obtain ⟨hd, h⟩ := dfr_iff h; have hd : ds = [] := hd; subst hd; exact h f rfl rfl rfl rfl rfl rfl rfl,
    trivial⟩
    (cast (by kernel_rfl) h)
def S_fettlelaw10_PrntOwn_7 (x1 x7 x8 x11 : Value) (M : Store) (Q : Value → Store → Prop) : Prop :=
  R F.prnt_Value #[x7] M fun t70 M1 =>
  OP (tup t70 0) fun t71 =>
  OP (tup t70 1) fun t72 =>
  OP (lenV t71) fun t74 =>
  P_fettlelaw10_PrntOwn_9 x1 x7 x8 x11 t71 t74 (.int .i64 0) M1 Q
theorem T_fettlelaw10_PrntOwn_7 {x1 x7 x8 x11 : Value} {M : Store} {Q : Value → Store → Prop} (h : S_fettlelaw10_PrntOwn_7 x1 x7 x8 x11 M Q) : P_fettlelaw10_PrntOwn_7 x1 x7 x8 x11 M Q := by
  intro f h1 h7 h8 h11; subst h1; subst h7; subst h8; subst h11
  unfold At
  exact rule (B := 1000) (N := 109) (ct := (.two .no (.two (.two .no (.two (.here 1000) .no)) (.here 1001))))
    [⟨1002, fun a M => dfr a.defers (P_fettlelaw10_PrntOwn_9 (a.get 1) (a.get 7) (a.get 8) (a.get 11) (a.get 15) (a.get 74) (a.get 75) M Q), fun a M => At Try.prog Ex none Try.f4 [1, 1, 1, 1, 1, 1, 1, 1, 0, 1, 0] a M Q⟩,
    ⟨1003, fun _ _ => False, fun a M => At Try.prog Ex none Try.f4 [1, 1, 1, 1, 1, 1, 1, 1, 1] a M Q⟩]
    [1000, 1001] [] (by kernel_rfl) (by kernel_rfl) (by kernel_rfl) (by kernel_rfl) (by kernel_rfl)
    ⟨fun a M hn h => by obtain ⟨⟨n, f⟩, ds⟩ := a; have hn : n = 109 := hn; subst hn; obtain ⟨hd, h⟩ := dfr_iff h; have hd : ds = [] := hd; subst hd; exact h f rfl rfl rfl rfl rfl rfl rfl,
    fun _ _ _ h => h.elim,
    trivial⟩
    (cast (by kernel_rfl) h)
def S_fettlelaw10_PrntOwn_8 (x1 x7 x8 x11 x49 x50 x51 : Value) (M : Store) (Q : Value → Store → Prop) : Prop :=
  OP (binI .add x51 (.int .i64 1)) fun t67 =>
  P_fettlelaw10_PrntOwn_5 x1 x7 x8 x11 x49 x50 t67 M Q
theorem T_fettlelaw10_PrntOwn_8 {x1 x7 x8 x11 x49 x50 x51 : Value} {M : Store} {Q : Value → Store → Prop} (h : S_fettlelaw10_PrntOwn_8 x1 x7 x8 x11 x49 x50 x51 M Q) : P_fettlelaw10_PrntOwn_8 x1 x7 x8 x11 x49 x50 x51 M Q := by
  intro f h1 h7 h8 h11 h49 h50 h51; subst h1; subst h7; subst h8; subst h11; subst h49; subst h50; subst h51
  unfold At
  exact rule (B := 1000) (N := 109) (ct := .no)
    [⟨0, fun a M => dfr a.defers (P_fettlelaw10_PrntOwn_5 (a.get 1) (a.get 7) (a.get 8) (a.get 11) (a.get 49) (a.get 50) (a.get 51) M Q), fun a M => At Try.prog Ex none Try.f4 [1, 1, 1, 1, 1, 1, 0, 1, 0] a M Q⟩]
    [] [0] (by kernel_rfl) (by kernel_rfl) (by kernel_rfl) (by kernel_rfl) (by kernel_rfl)
    ⟨fun a M hn h => by obtain ⟨⟨n, f⟩, ds⟩ := a; have hn : n = 109 := hn; subst hn; obtain ⟨hd, h⟩ := dfr_iff h; have hd : ds = [] := hd; subst hd; exact h f rfl rfl rfl rfl rfl rfl rfl,
    trivial⟩
    (cast (by kernel_rfl) h)
def S_fettlelaw10_PrntOwn_9 (x1 x7 x8 x11 x15 x74 x75 : Value) (M : Store) (Q : Value → Store → Prop) : Prop :=
  OP (binI .lss x75 x74) fun t76 =>
  BR t76 (
  OP (ixA 1 x15 x75) fun t80 =>
  OP (ld 1 false t80 M) fun t81 =>
  OP (binI .add t81 (.int .u8 1)) fun t82 =>
  OP (ixA 1 x15 x75) fun t83 =>
  OP (st 1 t83 t82 M) fun M1 =>
  OP (binI .add x75 (.int .i64 1)) fun t84 =>
  P_fettlelaw10_PrntOwn_9 x1 x7 x8 x11 x15 x74 t84 M1 Q
  ) (
  P_fettlelaw10_PrntOwn_10 x1 x7 x8 x11 M Q
  )
theorem T_fettlelaw10_PrntOwn_9 {x1 x7 x8 x11 x15 x74 x75 : Value} {M : Store} {Q : Value → Store → Prop} (h : S_fettlelaw10_PrntOwn_9 x1 x7 x8 x11 x15 x74 x75 M Q) : P_fettlelaw10_PrntOwn_9 x1 x7 x8 x11 x15 x74 x75 M Q := by
  intro f h1 h7 h8 h11 h15 h74 h75; subst h1; subst h7; subst h8; subst h11; subst h15; subst h74; subst h75
  unfold At
  refine cast (by kernel_rfl) (CW.loop (P := Try.prog) (E := Ex) (rd := none) (x := sub (bodyOf Try.f4) [1, 1, 1, 1, 1, 1, 1, 1, 0, 1, 0, 0]) (a := ⟨⟨109, f⟩, []⟩) (M := M) (K := kcont Try.prog Ex none (bodyOf Try.f4) [1, 1, 1, 1, 1, 1, 1, 1, 0, 1, 0] (kfin Try.prog Try.f4.results.toList Q)) ?_)
  exact rule (B := 1000) (N := 109) (ct := .no)
    [⟨0, fun a M => dfr a.defers (P_fettlelaw10_PrntOwn_9 (a.get 1) (a.get 7) (a.get 8) (a.get 11) (a.get 15) (a.get 74) (a.get 75) M Q), fun a M => At Try.prog Ex none Try.f4 [1, 1, 1, 1, 1, 1, 1, 1, 0, 1, 0] a M Q⟩,
    ⟨8, fun a M => dfr a.defers (P_fettlelaw10_PrntOwn_10 (a.get 1) (a.get 7) (a.get 8) (a.get 11) M Q), fun a M => At Try.prog Ex none Try.f4 [1, 1, 1, 1, 1, 1, 1, 1, 1] a M Q⟩]
    [] [0, 8] (by kernel_rfl) (by kernel_rfl) (by kernel_rfl) (by kernel_rfl) (by kernel_rfl)
    ⟨fun a M hn h => by obtain ⟨⟨n, f⟩, ds⟩ := a; have hn : n = 109 := hn; subst hn; obtain ⟨hd, h⟩ := dfr_iff h; have hd : ds = [] := hd; subst hd; exact h f rfl rfl rfl rfl rfl rfl rfl,
    fun a M hn h => by obtain ⟨⟨n, f⟩, ds⟩ := a; have hn : n = 109 := hn; subst hn; obtain ⟨hd, h⟩ := dfr_iff h; have hd : ds = [] := hd; subst hd; exact h f rfl rfl rfl rfl,
    trivial⟩
    (cast (by kernel_rfl) h)
def S_fettlelaw10_PrntOwn_10 (x1 x7 x8 x11 : Value) (M : Store) (Q : Value → Store → Prop) : Prop :=
  R F.prnt_Parse #[x7] M fun t87 M1 =>
  OP (tup t87 0) fun t88 =>
  OP (tup t87 1) fun t89 =>
  OP (tup t87 2) fun t90 =>
  BR x11 (
  BR t90 (
  OP (cvBS x7 M1) fun t97 =>
  OP (binS .eql t97 x8) fun t99 =>
  BR t99 (
  R F.fettleref1_SameRows #[t89, x1] M1 fun t104 M2 =>
  BR t104 (
  R F.fettlelaw10_awake #[] M2 fun t107 M3 =>
  NTs [t107] ∧ Q t107 M3
  ) (
  NTs [(.bool false)] ∧ Q (.bool false) M2
  )
  ) (
  NTs [(.bool false)] ∧ Q (.bool false) M1
  )
  ) (
  NTs [(.bool false)] ∧ Q (.bool false) M1
  )
  ) (
  NTs [(.bool false)] ∧ Q (.bool false) M1
  )
theorem T_fettlelaw10_PrntOwn_10 {x1 x7 x8 x11 : Value} {M : Store} {Q : Value → Store → Prop} (h : S_fettlelaw10_PrntOwn_10 x1 x7 x8 x11 M Q) : P_fettlelaw10_PrntOwn_10 x1 x7 x8 x11 M Q := by
  intro f h1 h7 h8 h11; subst h1; subst h7; subst h8; subst h11
  unfold At
  exact rule (B := 1000) (N := 109) (ct := .no)
    [⟨1, fun a M => kfin Try.prog Try.f4.results.toList Q 1 a M, fun a M => kfin Try.prog Try.f4.results.toList Q 1 a M⟩]
    [] [1] (by kernel_rfl) (by kernel_rfl) (by kernel_rfl) (by kernel_rfl) (by kernel_rfl)
    ⟨fun _ _ _ h => h,
    trivial⟩
    (cast (by kernel_rfl) h)
def P_fettlelaw10_PrntTells_1 (x0 x1 x2 x3 x4 x5 x45 x46 : Value) (M : Store) (Q : Value → Store → Prop) : Prop :=
  ∀ f : Nat → Value, f 0 = x0 → f 1 = x1 → f 2 = x2 → f 3 = x3 → f 4 = x4 → f 5 = x5 → f 45 = x45 → f 46 = x46 → At Try.prog Ex none Try.f5 [1, 1, 0, 1, 0] ⟨⟨178, f⟩, []⟩ M Q
def P_fettlelaw10_PrntTells_2 (x0 x1 x2 x3 x4 x5 x45 x46 : Value) (M : Store) (Q : Value → Store → Prop) : Prop :=
  ∀ f : Nat → Value, f 0 = x0 → f 1 = x1 → f 2 = x2 → f 3 = x3 → f 4 = x4 → f 5 = x5 → f 45 = x45 → f 46 = x46 → At Try.prog Ex none Try.f5 [1, 1, 0, 1, 0, 0, 1, 1] ⟨⟨178, f⟩, []⟩ M Q
def P_fettlelaw10_PrntTells_3 (x0 x1 x2 x3 x4 x5 : Value) (M : Store) (Q : Value → Store → Prop) : Prop :=
  ∀ f : Nat → Value, f 0 = x0 → f 1 = x1 → f 2 = x2 → f 3 = x3 → f 4 = x4 → f 5 = x5 → At Try.prog Ex none Try.f5 [1, 1, 1] ⟨⟨178, f⟩, []⟩ M Q
def P_fettlelaw10_PrntTells_4 (x0 x1 x2 x3 x4 x5 x59 x60 : Value) (M : Store) (Q : Value → Store → Prop) : Prop :=
  ∀ f : Nat → Value, f 0 = x0 → f 1 = x1 → f 2 = x2 → f 3 = x3 → f 4 = x4 → f 5 = x5 → f 59 = x59 → f 60 = x60 → At Try.prog Ex none Try.f5 [1, 1, 1, 0, 1, 0] ⟨⟨178, f⟩, []⟩ M Q
def P_fettlelaw10_PrntTells_5 (x0 x1 x2 x3 x4 x5 x59 x60 : Value) (M : Store) (Q : Value → Store → Prop) : Prop :=
  ∀ f : Nat → Value, f 0 = x0 → f 1 = x1 → f 2 = x2 → f 3 = x3 → f 4 = x4 → f 5 = x5 → f 59 = x59 → f 60 = x60 → At Try.prog Ex none Try.f5 [1, 1, 1, 0, 1, 0, 0, 1, 1] ⟨⟨178, f⟩, []⟩ M Q
def P_fettlelaw10_PrntTells_6 (x0 x1 x2 x3 x4 x5 : Value) (M : Store) (Q : Value → Store → Prop) : Prop :=
  ∀ f : Nat → Value, f 0 = x0 → f 1 = x1 → f 2 = x2 → f 3 = x3 → f 4 = x4 → f 5 = x5 → At Try.prog Ex none Try.f5 [1, 1, 1, 1] ⟨⟨178, f⟩, []⟩ M Q
def P_fettlelaw10_PrntTells_7 (x121 x122 x123 : Value) (M : Store) (Q : Value → Store → Prop) : Prop :=
  ∀ f : Nat → Value, f 121 = x121 → f 122 = x122 → f 123 = x123 → At Try.prog Ex none Try.f5 [1, 1, 1, 1, 1, 1, 1, 1, 1, 0, 1, 0] ⟨⟨178, f⟩, []⟩ M Q
def P_fettlelaw10_PrntTells_8 (x121 x122 x123 : Value) (M : Store) (Q : Value → Store → Prop) : Prop :=
  ∀ f : Nat → Value, f 121 = x121 → f 122 = x122 → f 123 = x123 → At Try.prog Ex none Try.f5 [1, 1, 1, 1, 1, 1, 1, 1, 1, 0, 1, 0, 0, 1, 1] ⟨⟨178, f⟩, []⟩ M Q
def P_fettlelaw10_PrntTells_9 (M : Store) (Q : Value → Store → Prop) : Prop :=
  ∀ f : Nat → Value, At Try.prog Ex none Try.f5 [1, 1, 1, 1, 1, 1, 1, 1, 1, 1] ⟨⟨178, f⟩, []⟩ M Q
def S_fettlelaw10_PrntTells (x0 x1 x2 x3 x4 x5 : Value) (M : Store) (Q : Value → Store → Prop) : Prop :=
  OP (lenV x0) fun t31 =>
  OP (binI .gtr t31 (.int .i64 12)) fun t32 =>
  BR t32 (
  R F.fettlelaw10_awake #[] M fun t43 M1 =>
  NTs [t43] ∧ Q t43 M1
  ) (
  OP (lenV x2) fun t35 =>
  OP (binI .gtr t35 (.int .i64 9)) fun t36 =>
  BR t36 (
  R F.fettlelaw10_awake #[] M fun t43_1 M2 =>
  NTs [t43_1] ∧ Q t43_1 M2
  ) (
  OP (lenV x3) fun t40 =>
  OP (binI .gtr t40 (.int .i64 300)) fun t41 =>
  BR t41 (
  R F.fettlelaw10_awake #[] M fun t43_2 M3 =>
  NTs [t43_2] ∧ Q t43_2 M3
  ) (
  OP (lenV x0) fun t45 =>
  P_fettlelaw10_PrntTells_1 x0 x1 x2 x3 x4 x5 t45 (.int .i64 0) M Q
  )
  )
  )
theorem T_fettlelaw10_PrntTells {x0 x1 x2 x3 x4 x5 : Value} {M : Store} {Q : Value → Store → Prop} (h : S_fettlelaw10_PrntTells x0 x1 x2 x3 x4 x5 M Q) : R F.fettlelaw10_PrntTells #[x0, x1, x2, x3, x4, x5] M Q := by
  refine runs_of (c := bodyOf Try.f5) Try.func5 rfl (by kernel_rfl) (by kernel_rfl) ?_
  unfold At
  exact rule (B := 1000) (N := 178) (ct := (.two .no (.two .no (.two (.two .no (.two (.here 1000) .no)) (.here 1001)))))
    [⟨1002, fun a M => dfr a.defers (P_fettlelaw10_PrntTells_1 (a.get 0) (a.get 1) (a.get 2) (a.get 3) (a.get 4) (a.get 5) (a.get 45) (a.get 46) M Q), fun a M => At Try.prog Ex none Try.f5 [1, 1, 0, 1, 0] a M Q⟩,
    ⟨1003, fun _ _ => False, fun a M => At Try.prog Ex none Try.f5 [1, 1, 1] a M Q⟩,
    ⟨1, fun a M => kfin Try.prog Try.f5.results.toList Q 1 a M, fun a M => kfin Try.prog Try.f5.results.toList Q 1 a M⟩]
    [1000, 1001] [1] (by kernel_rfl) (by kernel_rfl) (by kernel_rfl) (by kernel_rfl) (by kernel_rfl)
    ⟨fun a M hn h => by obtain ⟨⟨n, f⟩, ds⟩ := a; have hn : n = 178 := hn; subst hn; obtain ⟨hd, h⟩ := dfr_iff h; have hd : ds = [] := hd; subst hd; exact h f rfl rfl rfl rfl rfl rfl rfl rfl,
    fun _ _ _ h => h.elim,
    fun _ _ _ h => h,
    trivial⟩
    (cast (by kernel_rfl) h)
def S_fettlelaw10_PrntTells_1 (x0 x1 x2 x3 x4 x5 x45 x46 : Value) (M : Store) (Q : Value → Store → Prop) : Prop :=
  OP (binI .lss x46 x45) fun t47 =>
  BR t47 (
  P_fettlelaw10_PrntTells_2 x0 x1 x2 x3 x4 x5 x45 x46 M Q
  ) (
  P_fettlelaw10_PrntTells_3 x0 x1 x2 x3 x4 x5 M Q
  )
theorem T_fettlelaw10_PrntTells_1 {x0 x1 x2 x3 x4 x5 x45 x46 : Value} {M : Store} {Q : Value → Store → Prop} (h : S_fettlelaw10_PrntTells_1 x0 x1 x2 x3 x4 x5 x45 x46 M Q) : P_fettlelaw10_PrntTells_1 x0 x1 x2 x3 x4 x5 x45 x46 M Q := by
  intro f h0 h1 h2 h3 h4 h5 h45 h46; subst h0; subst h1; subst h2; subst h3; subst h4; subst h5; subst h45; subst h46
  unfold At
  refine cast (by kernel_rfl) (CW.loop (P := Try.prog) (E := Ex) (rd := none) (x := sub (bodyOf Try.f5) [1, 1, 0, 1, 0, 0]) (a := ⟨⟨178, f⟩, []⟩) (M := M) (K := kcont Try.prog Ex none (bodyOf Try.f5) [1, 1, 0, 1, 0] (kfin Try.prog Try.f5.results.toList Q)) ?_)
  exact rule (B := 1000) (N := 178) (ct := (.two .no (.two .no (.here 1000))))
    [⟨1002, fun a M => dfr a.defers (P_fettlelaw10_PrntTells_2 (a.get 0) (a.get 1) (a.get 2) (a.get 3) (a.get 4) (a.get 5) (a.get 45) (a.get 46) M Q), fun a M => At Try.prog Ex none Try.f5 [1, 1, 0, 1, 0, 0, 1, 1] a M Q⟩,
    ⟨2, fun a M => dfr a.defers (P_fettlelaw10_PrntTells_3 (a.get 0) (a.get 1) (a.get 2) (a.get 3) (a.get 4) (a.get 5) M Q), fun a M => At Try.prog Ex none Try.f5 [1, 1, 1] a M Q⟩]
    [1000] [2] (by kernel_rfl) (by kernel_rfl) (by kernel_rfl) (by kernel_rfl) (by kernel_rfl)
    ⟨fun a M hn h => by obtain ⟨⟨n, f⟩, ds⟩ := a; have hn : n = 178 := hn; subst hn; obtain ⟨hd, h⟩ := dfr_iff h; have hd : ds = [] := hd; subst hd; exact h f rfl rfl rfl rfl rfl rfl rfl rfl,
    fun a M hn h => by obtain ⟨⟨n, f⟩, ds⟩ := a; have hn : n = 178 := hn; subst hn; obtain ⟨hd, h⟩ := dfr_iff h; have hd : ds = [] := hd; subst hd; exact h f rfl rfl rfl rfl rfl rfl,
    trivial⟩
    (cast (by kernel_rfl) h)
def S_fettlelaw10_PrntTells_2 (x0 x1 x2 x3 x4 x5 x45 x46 : Value) (M : Store) (Q : Value → Store → Prop) : Prop :=
  OP (ixA 3 x0 x46) fun t51 =>
  OP (fad 2 t51) fun t52 =>
  OP (ld 1 false t52 M) fun t53 =>
  OP (lenS t53) fun t54 =>
  OP (binI .gtr t54 (.int .i64 100)) fun t55 =>
  BR t55 (
  R F.fettlelaw10_awake #[] M fun t56 M1 =>
  NTs [t56] ∧ Q t56 M1
  ) (
  OP (binI .add x46 (.int .i64 1)) fun t57 =>
  P_fettlelaw10_PrntTells_1 x0 x1 x2 x3 x4 x5 x45 t57 M Q
  )
theorem T_fettlelaw10_PrntTells_2 {x0 x1 x2 x3 x4 x5 x45 x46 : Value} {M : Store} {Q : Value → Store → Prop} (h : S_fettlelaw10_PrntTells_2 x0 x1 x2 x3 x4 x5 x45 x46 M Q) : P_fettlelaw10_PrntTells_2 x0 x1 x2 x3 x4 x5 x45 x46 M Q := by
  intro f h0 h1 h2 h3 h4 h5 h45 h46; subst h0; subst h1; subst h2; subst h3; subst h4; subst h5; subst h45; subst h46
  unfold At
  exact rule (B := 1000) (N := 178) (ct := .no)
    [⟨0, fun a M => dfr a.defers (P_fettlelaw10_PrntTells_1 (a.get 0) (a.get 1) (a.get 2) (a.get 3) (a.get 4) (a.get 5) (a.get 45) (a.get 46) M Q), fun a M => At Try.prog Ex none Try.f5 [1, 1, 0, 1, 0] a M Q⟩,
    ⟨1, fun a M => kfin Try.prog Try.f5.results.toList Q 1 a M, fun a M => kfin Try.prog Try.f5.results.toList Q 1 a M⟩]
    [] [0, 1] (by kernel_rfl) (by kernel_rfl) (by kernel_rfl) (by kernel_rfl) (by kernel_rfl)
    ⟨fun a M hn h => by obtain ⟨⟨n, f⟩, ds⟩ := a; have hn : n = 178 := hn; subst hn; obtain ⟨hd, h⟩ := dfr_iff h; have hd : ds = [] := hd; subst hd; exact h f rfl rfl rfl rfl rfl rfl rfl rfl,
    fun _ _ _ h => h,
    trivial⟩
    (cast (by kernel_rfl) h)
def S_fettlelaw10_PrntTells_3 (x0 x1 x2 x3 x4 x5 : Value) (M : Store) (Q : Value → Store → Prop) : Prop :=
  OP (lenV x2) fun t59 =>
  P_fettlelaw10_PrntTells_4 x0 x1 x2 x3 x4 x5 t59 (.int .i64 0) M Q
theorem T_fettlelaw10_PrntTells_3 {x0 x1 x2 x3 x4 x5 : Value} {M : Store} {Q : Value → Store → Prop} (h : S_fettlelaw10_PrntTells_3 x0 x1 x2 x3 x4 x5 M Q) : P_fettlelaw10_PrntTells_3 x0 x1 x2 x3 x4 x5 M Q := by
  intro f h0 h1 h2 h3 h4 h5; subst h0; subst h1; subst h2; subst h3; subst h4; subst h5
  unfold At
  exact rule (B := 1000) (N := 178) (ct := (.two (.two .no (.two (.here 1000) .no)) (.here 1001)))
    [⟨1002, fun a M => dfr a.defers (P_fettlelaw10_PrntTells_4 (a.get 0) (a.get 1) (a.get 2) (a.get 3) (a.get 4) (a.get 5) (a.get 59) (a.get 60) M Q), fun a M => At Try.prog Ex none Try.f5 [1, 1, 1, 0, 1, 0] a M Q⟩,
    ⟨1003, fun _ _ => False, fun a M => At Try.prog Ex none Try.f5 [1, 1, 1, 1] a M Q⟩]
    [1000, 1001] [] (by kernel_rfl) (by kernel_rfl) (by kernel_rfl) (by kernel_rfl) (by kernel_rfl)
    ⟨fun a M hn h => by obtain ⟨⟨n, f⟩, ds⟩ := a; have hn : n = 178 := hn; subst hn; obtain ⟨hd, h⟩ := dfr_iff h; have hd : ds = [] := hd; subst hd; exact h f rfl rfl rfl rfl rfl rfl rfl rfl,
    fun _ _ _ h => h.elim,
    trivial⟩
    (cast (by kernel_rfl) h)
def S_fettlelaw10_PrntTells_4 (x0 x1 x2 x3 x4 x5 x59 x60 : Value) (M : Store) (Q : Value → Store → Prop) : Prop :=
  OP (binI .lss x60 x59) fun t61 =>
  BR t61 (
  P_fettlelaw10_PrntTells_5 x0 x1 x2 x3 x4 x5 x59 x60 M Q
  ) (
  P_fettlelaw10_PrntTells_6 x0 x1 x2 x3 x4 x5 M Q
  )
theorem T_fettlelaw10_PrntTells_4 {x0 x1 x2 x3 x4 x5 x59 x60 : Value} {M : Store} {Q : Value → Store → Prop} (h : S_fettlelaw10_PrntTells_4 x0 x1 x2 x3 x4 x5 x59 x60 M Q) : P_fettlelaw10_PrntTells_4 x0 x1 x2 x3 x4 x5 x59 x60 M Q := by
  intro f h0 h1 h2 h3 h4 h5 h59 h60; subst h0; subst h1; subst h2; subst h3; subst h4; subst h5; subst h59; subst h60
  unfold At
  refine cast (by kernel_rfl) (CW.loop (P := Try.prog) (E := Ex) (rd := none) (x := sub (bodyOf Try.f5) [1, 1, 1, 0, 1, 0, 0]) (a := ⟨⟨178, f⟩, []⟩) (M := M) (K := kcont Try.prog Ex none (bodyOf Try.f5) [1, 1, 1, 0, 1, 0] (kfin Try.prog Try.f5.results.toList Q)) ?_)
  exact rule (B := 1000) (N := 178) (ct := (.two .no (.two .no (.here 1000))))
    [⟨1002, fun a M => dfr a.defers (P_fettlelaw10_PrntTells_5 (a.get 0) (a.get 1) (a.get 2) (a.get 3) (a.get 4) (a.get 5) (a.get 59) (a.get 60) M Q), fun a M => At Try.prog Ex none Try.f5 [1, 1, 1, 0, 1, 0, 0, 1, 1] a M Q⟩,
    ⟨4, fun a M => dfr a.defers (P_fettlelaw10_PrntTells_6 (a.get 0) (a.get 1) (a.get 2) (a.get 3) (a.get 4) (a.get 5) M Q), fun a M => At Try.prog Ex none Try.f5 [1, 1, 1, 1] a M Q⟩]
    [1000] [4] (by kernel_rfl) (by kernel_rfl) (by kernel_rfl) (by kernel_rfl) (by kernel_rfl)
    ⟨fun a M hn h => by obtain ⟨⟨n, f⟩, ds⟩ := a; have hn : n = 178 := hn; subst hn; obtain ⟨hd, h⟩ := dfr_iff h; have hd : ds = [] := hd; subst hd; exact h f rfl rfl rfl rfl rfl rfl rfl rfl,
    fun a M hn h => by obtain ⟨⟨n, f⟩, ds⟩ := a; have hn : n = 178 := hn; subst hn; obtain ⟨hd, h⟩ := dfr_iff h; have hd : ds = [] := hd; subst hd; exact h f rfl rfl rfl rfl rfl rfl,
    trivial⟩
    (cast (by kernel_rfl) h)
def S_fettlelaw10_PrntTells_5 (x0 x1 x2 x3 x4 x5 x59 x60 : Value) (M : Store) (Q : Value → Store → Prop) : Prop :=
  OP (ixA 1 x2 x60) fun t65 =>
  OP (ld 1 false t65 M) fun t66 =>
  OP (lenV t66) fun t67 =>
  OP (binI .gtr t67 (.int .i64 280)) fun t68 =>
  BR t68 (
  R F.fettlelaw10_awake #[] M fun t69 M1 =>
  NTs [t69] ∧ Q t69 M1
  ) (
  OP (binI .add x60 (.int .i64 1)) fun t70 =>
  P_fettlelaw10_PrntTells_4 x0 x1 x2 x3 x4 x5 x59 t70 M Q
  )
theorem T_fettlelaw10_PrntTells_5 {x0 x1 x2 x3 x4 x5 x59 x60 : Value} {M : Store} {Q : Value → Store → Prop} (h : S_fettlelaw10_PrntTells_5 x0 x1 x2 x3 x4 x5 x59 x60 M Q) : P_fettlelaw10_PrntTells_5 x0 x1 x2 x3 x4 x5 x59 x60 M Q := by
  intro f h0 h1 h2 h3 h4 h5 h59 h60; subst h0; subst h1; subst h2; subst h3; subst h4; subst h5; subst h59; subst h60
  unfold At
  exact rule (B := 1000) (N := 178) (ct := .no)
    [⟨0, fun a M => dfr a.defers (P_fettlelaw10_PrntTells_4 (a.get 0) (a.get 1) (a.get 2) (a.get 3) (a.get 4) (a.get 5) (a.get 59) (a.get 60) M Q), fun a M => At Try.prog Ex none Try.f5 [1, 1, 1, 0, 1, 0] a M Q⟩,
    ⟨1, fun a M => kfin Try.prog Try.f5.results.toList Q 1 a M, fun a M => kfin Try.prog Try.f5.results.toList Q 1 a M⟩]
    [] [0, 1] (by kernel_rfl) (by kernel_rfl) (by kernel_rfl) (by kernel_rfl) (by kernel_rfl)
    ⟨fun a M hn h => by obtain ⟨⟨n, f⟩, ds⟩ := a; have hn : n = 178 := hn; subst hn; obtain ⟨hd, h⟩ := dfr_iff h; have hd : ds = [] := hd; subst hd; exact h f rfl rfl rfl rfl rfl rfl rfl rfl,
    fun _ _ _ h => h,
    trivial⟩
    (cast (by kernel_rfl) h)
def S_fettlelaw10_PrntTells_6 (x0 x1 x2 x3 x4 x5 : Value) (M : Store) (Q : Value → Store → Prop) : Prop :=
  R F.fettlelaw6_Act #[x1] M fun t72 M1 =>
  R F.fettleref10_Print #[t72, x2] M1 fun t74 M2 =>
  R F.fettlelaw6_Act #[x1] M2 fun t76 M3 =>
  TDj [0] [M2.n, M2.n] M2 M3 ∧
  R F.prnt_Print #[t76, x2] M3 fun t78 M4 =>
  TDj [0, 1, 2] [M2.n, M2.n, M3.n, M3.n] M3 M4 ∧
  OP (cvBS t78 M4) fun t79 =>
  OP (cvBS t74 M4) fun t81 =>
  OP (binS .neq t79 t81) fun t82 =>
  BR t82 (
  NTs [(.bool false)] ∧ Q (.bool false) M4
  ) (
  R F.prnt_Print #[x0, x2] M4 fun t86 M5 =>
  TDx [0, 1, 0, 7, 15, 0, 32, 127, 255, 511, 511, 2047, 4095, 511, 511, 28671, 61439, 131071, 262143] [M2.n, M2.n, M3.n, M3.n, M4.n, M4.n, M4.n, M4.n, M4.n, M4.n, M4.n, M4.n] 11 M4 M5 ∧
  OP (cvBS t86 M5) fun t87 =>
  R F.fettleref10_Print #[x0, x2] M5 fun t90 M6 =>
  TDj [13, 14] [M2.n, M2.n, M3.n, M3.n, M4.n, M4.n, M4.n, M4.n, M4.n, M4.n, M4.n, M4.n, M5.n, M5.n, M5.n, M5.n] M5 M6 ∧
  OP (cvBS t90 M6) fun t91 =>
  OP (binS .neq t87 t91) fun t92 =>
  BR t92 (
  NTs [(.bool false)] ∧ Q (.bool false) M6
  ) (
  OP (bldL (.int .u8 0) 1 0 []) fun c =>
  LT (.slice (some ⟨M6.n, 0, none⟩) 0 0) (M6.push (some (.inl (c, Ty.uint8, true)))) fun t94 M7 =>
  OP2 (appV 1 Ty.uint8 t94 t74 M7) fun t96 M8 =>
  OP (binI .and x4 (.int .i64 65535)) fun t98 =>
  OP (lenV t96) fun t100 =>
  OP (binI .rem t98 t100) fun t101 =>
  OP (ixA 1 t96 t101) fun t105 =>
  OP (st 1 t105 x5 M8) fun M9 =>
  OP (slV 1 Ty.uint8 t74 none (some t101) M9) fun t111 =>
  OP (bldL (.int .u8 0) 1 0 []) fun c_1 =>
  LT (.slice (some ⟨M9.n, 0, none⟩) 0 0) (M9.push (some (.inl (c_1, Ty.uint8, true)))) fun t112 M10 =>
  OP2 (appV 1 Ty.uint8 t112 t74 M10) fun t114 M11 =>
  TDj [6, 7] [M9.n, M9.n, M9.n, M9.n, M9.n, M9.n, M9.n, M10.n, M10.n] M10 M11 ∧
  OP (bldL (.int .u8 0) 1 1 [(0, x5)]) fun c_2 =>
  LT (.slice (some ⟨M11.n, 0, none⟩) 1 1) (M11.push (some (.inl (c_2, Ty.uint8, true)))) fun t116 M12 =>
  OP2 (appV 1 Ty.uint8 t114 t116 M12) fun t117 M13 =>
  TDj [6, 7, 8, 9, 10] [M9.n, M9.n, M9.n, M9.n, M9.n, M9.n, M9.n, M10.n, M10.n, M11.n, M11.n, M12.n] M12 M13 ∧
  R F.fettleref10_Print #[x0, x2] M13 fun t120 M14 =>
  TDj [6, 7, 8, 9, 10, 11, 12, 13] [M9.n, M9.n, M9.n, M9.n, M9.n, M9.n, M9.n, M10.n, M10.n, M11.n, M11.n, M12.n, M13.n, M13.n, M13.n] M13 M14 ∧
  OP (bldL (.slice none 0 0) 1 6 [(0, x3), (1, t74), (2, t96), (3, t111), (4, t117), (5, t120)]) fun c_3 =>
  LT (.slice (some ⟨M14.n, 0, none⟩) 6 6) (M14.push (some (.inl (c_3, Ty.sl_uint8, true)))) fun t121 M15 =>
  OP (lenV t121) fun t122 =>
  P_fettlelaw10_PrntTells_7 t121 t122 (.int .i64 0) M15 Q
  )
  )
theorem T_fettlelaw10_PrntTells_6 {x0 x1 x2 x3 x4 x5 : Value} {M : Store} {Q : Value → Store → Prop} (h : S_fettlelaw10_PrntTells_6 x0 x1 x2 x3 x4 x5 M Q) : P_fettlelaw10_PrntTells_6 x0 x1 x2 x3 x4 x5 M Q := by
  intro f h0 h1 h2 h3 h4 h5; subst h0; subst h1; subst h2; subst h3; subst h4; subst h5
  unfold At
  exact rule (B := 1000) (N := 178) (ct := (.two .no (.two .no (.two .no (.two .no (.two .no (.two (.two .no (.two (.here 1000) .no)) (.here 1001))))))))
    [⟨1002, fun a M => dfr a.defers (P_fettlelaw10_PrntTells_7 (a.get 121) (a.get 122) (a.get 123) M Q), fun a M => At Try.prog Ex none Try.f5 [1, 1, 1, 1, 1, 1, 1, 1, 1, 0, 1, 0] a M Q⟩,
    ⟨1003, fun _ _ => False, fun a M => At Try.prog Ex none Try.f5 [1, 1, 1, 1, 1, 1, 1, 1, 1, 1] a M Q⟩,
    ⟨1, fun a M => kfin Try.prog Try.f5.results.toList Q 1 a M, fun a M => kfin Try.prog Try.f5.results.toList Q 1 a M⟩]
    [1000, 1001] [1] (by kernel_rfl) (by kernel_rfl) (by kernel_rfl) (by kernel_rfl) (by kernel_rfl)
    ⟨fun a M hn h => by obtain ⟨⟨n, f⟩, ds⟩ := a; have hn : n = 178 := hn; subst hn; obtain ⟨hd, h⟩ := dfr_iff h; have hd : ds = [] := hd; subst hd; exact h f rfl rfl rfl,
    fun _ _ _ h => h.elim,
    fun _ _ _ h => h,
    trivial⟩
    (cast (by kernel_rfl) h)
def S_fettlelaw10_PrntTells_7 (x121 x122 x123 : Value) (M : Store) (Q : Value → Store → Prop) : Prop :=
  OP (binI .lss x123 x122) fun t124 =>
  BR t124 (
  P_fettlelaw10_PrntTells_8 x121 x122 x123 M Q
  ) (
  P_fettlelaw10_PrntTells_9 M Q
  )
theorem T_fettlelaw10_PrntTells_7 {x121 x122 x123 : Value} {M : Store} {Q : Value → Store → Prop} (h : S_fettlelaw10_PrntTells_7 x121 x122 x123 M Q) : P_fettlelaw10_PrntTells_7 x121 x122 x123 M Q := by
  intro f h121 h122 h123; subst h121; subst h122; subst h123
  unfold At
  refine cast (by kernel_rfl) (CW.loop (P := Try.prog) (E := Ex) (rd := none) (x := sub (bodyOf Try.f5) [1, 1, 1, 1, 1, 1, 1, 1, 1, 0, 1, 0, 0]) (a := ⟨⟨178, f⟩, []⟩) (M := M) (K := kcont Try.prog Ex none (bodyOf Try.f5) [1, 1, 1, 1, 1, 1, 1, 1, 1, 0, 1, 0] (kfin Try.prog Try.f5.results.toList Q)) ?_)
  exact rule (B := 1000) (N := 178) (ct := (.two .no (.two .no (.here 1000))))
    [⟨1002, fun a M => dfr a.defers (P_fettlelaw10_PrntTells_8 (a.get 121) (a.get 122) (a.get 123) M Q), fun a M => At Try.prog Ex none Try.f5 [1, 1, 1, 1, 1, 1, 1, 1, 1, 0, 1, 0, 0, 1, 1] a M Q⟩,
    ⟨6, fun a M => dfr a.defers (P_fettlelaw10_PrntTells_9 M Q), fun a M => At Try.prog Ex none Try.f5 [1, 1, 1, 1, 1, 1, 1, 1, 1, 1] a M Q⟩]
    [1000] [6] (by kernel_rfl) (by kernel_rfl) (by kernel_rfl) (by kernel_rfl) (by kernel_rfl)
    ⟨fun a M hn h => by obtain ⟨⟨n, f⟩, ds⟩ := a; have hn : n = 178 := hn; subst hn; obtain ⟨hd, h⟩ := dfr_iff h; have hd : ds = [] := hd; subst hd; exact h f rfl rfl rfl,
    fun a M hn h => by obtain ⟨⟨n, f⟩, ds⟩ := a; have hn : n = 178 := hn; subst hn; obtain ⟨hd, h⟩ := dfr_iff h; have hd : ds = [] := hd; subst hd; exact h f,
    trivial⟩
    (cast (by kernel_rfl) h)
def S_fettlelaw10_PrntTells_8 (x121 x122 x123 : Value) (M : Store) (Q : Value → Store → Prop) : Prop :=
  OP (ixA 1 x121 x123) fun t125 =>
  OP (ld 1 false t125 M) fun t126 =>
  R F.prnt_Parse #[t126] M fun t129 M1 =>
  OP (tup t129 0) fun t130 =>
  OP (tup t129 1) fun t131 =>
  OP (tup t129 2) fun t132 =>
  R F.fettleref10_Parse #[t126] M1 fun t135 M2 =>
  OP (tup t135 0) fun t136 =>
  OP (tup t135 1) fun t137 =>
  OP (tup t135 2) fun t138 =>
  R F.prnt_Value #[t126] M2 fun t141 M3 =>
  OP (tup t141 0) fun t142 =>
  OP (tup t141 1) fun t143 =>
  R F.fettleref10_Value #[t126] M3 fun t146 M4 =>
  OP (tup t146 0) fun t147 =>
  OP (tup t146 1) fun t148 =>
  OP (abin Try.prog false .neq Ty.bool t132 t138) fun t151 =>
  BR t151 (
  NTs [(.bool false)] ∧ Q (.bool false) M4
  ) (
  R F.fettleref4_SameAct #[t130, t136] M4 fun t155 M5 =>
  OP (aun .not t155) fun t156 =>
  BR t156 (
  NTs [(.bool false)] ∧ Q (.bool false) M5
  ) (
  R F.fettleref1_SameRows #[t131, t137] M5 fun t161 M6 =>
  OP (aun .not t161) fun t162 =>
  BR t162 (
  NTs [(.bool false)] ∧ Q (.bool false) M6
  ) (
  OP (abin Try.prog false .neq Ty.bool t143 t148) fun t167 =>
  BR t167 (
  NTs [(.bool false)] ∧ Q (.bool false) M6
  ) (
  OP (cvBS t142 M6) fun t171 =>
  OP (cvBS t147 M6) fun t173 =>
  OP (binS .neq t171 t173) fun t174 =>
  BR t174 (
  NTs [(.bool false)] ∧ Q (.bool false) M6
  ) (
  OP (binI .add x123 (.int .i64 1)) fun t176 =>
  P_fettlelaw10_PrntTells_7 x121 x122 t176 M6 Q
  )
  )
  )
  )
  )
theorem T_fettlelaw10_PrntTells_8 {x121 x122 x123 : Value} {M : Store} {Q : Value → Store → Prop} (h : S_fettlelaw10_PrntTells_8 x121 x122 x123 M Q) : P_fettlelaw10_PrntTells_8 x121 x122 x123 M Q := by
  intro f h121 h122 h123; subst h121; subst h122; subst h123
  unfold At
  exact rule (B := 1000) (N := 178) (ct := .no)
    [⟨0, fun a M => dfr a.defers (P_fettlelaw10_PrntTells_7 (a.get 121) (a.get 122) (a.get 123) M Q), fun a M => At Try.prog Ex none Try.f5 [1, 1, 1, 1, 1, 1, 1, 1, 1, 0, 1, 0] a M Q⟩,
    ⟨1, fun a M => kfin Try.prog Try.f5.results.toList Q 1 a M, fun a M => kfin Try.prog Try.f5.results.toList Q 1 a M⟩]
    [] [0, 1] (by kernel_rfl) (by kernel_rfl) (by kernel_rfl) (by kernel_rfl) (by kernel_rfl)
    ⟨fun a M hn h => by obtain ⟨⟨n, f⟩, ds⟩ := a; have hn : n = 178 := hn; subst hn; obtain ⟨hd, h⟩ := dfr_iff h; have hd : ds = [] := hd; subst hd; exact h f rfl rfl rfl,
    fun _ _ _ h => h,
    trivial⟩
    (cast (by kernel_rfl) h)
def S_fettlelaw10_PrntTells_9 (M : Store) (Q : Value → Store → Prop) : Prop :=
  R F.fettlelaw10_awake #[] M fun t177 M1 =>
  NTs [t177] ∧ Q t177 M1
theorem T_fettlelaw10_PrntTells_9 {M : Store} {Q : Value → Store → Prop} (h : S_fettlelaw10_PrntTells_9 M Q) : P_fettlelaw10_PrntTells_9 M Q := by
  intro f 
  unfold At
  exact rule (B := 1000) (N := 178) (ct := .no)
    [⟨1, fun a M => kfin Try.prog Try.f5.results.toList Q 1 a M, fun a M => kfin Try.prog Try.f5.results.toList Q 1 a M⟩]
    [] [1] (by kernel_rfl) (by kernel_rfl) (by kernel_rfl) (by kernel_rfl) (by kernel_rfl)
    ⟨fun _ _ _ h => h,
    trivial⟩
    (cast (by kernel_rfl) h)
def P_fettlelaw10_PrntApart_1 (x0 x1 x2 x3 x4 : Value) (M : Store) (Q : Value → Store → Prop) : Prop :=
  ∀ f : Nat → Value, f 0 = x0 → f 1 = x1 → f 2 = x2 → f 3 = x3 → f 4 = x4 → At Try.prog Ex none Try.f6 [1, 1] ⟨⟨149, f⟩, []⟩ M Q
def P_fettlelaw10_PrntApart_2 (x0 x1 x2 x3 x4 x32 x33 : Value) (M : Store) (Q : Value → Store → Prop) : Prop :=
  ∀ f : Nat → Value, f 0 = x0 → f 1 = x1 → f 2 = x2 → f 3 = x3 → f 4 = x4 → f 32 = x32 → f 33 = x33 → At Try.prog Ex none Try.f6 [1, 1, 0, 1, 0] ⟨⟨149, f⟩, []⟩ M Q
def P_fettlelaw10_PrntApart_3 (x0 x1 x2 x3 x4 x32 x33 : Value) (M : Store) (Q : Value → Store → Prop) : Prop :=
  ∀ f : Nat → Value, f 0 = x0 → f 1 = x1 → f 2 = x2 → f 3 = x3 → f 4 = x4 → f 32 = x32 → f 33 = x33 → At Try.prog Ex none Try.f6 [1, 1, 0, 1, 0, 0, 1, 1] ⟨⟨149, f⟩, []⟩ M Q
def P_fettlelaw10_PrntApart_4 (x0 x1 x2 x3 x4 : Value) (M : Store) (Q : Value → Store → Prop) : Prop :=
  ∀ f : Nat → Value, f 0 = x0 → f 1 = x1 → f 2 = x2 → f 3 = x3 → f 4 = x4 → At Try.prog Ex none Try.f6 [1, 1, 1] ⟨⟨149, f⟩, []⟩ M Q
def P_fettlelaw10_PrntApart_5 (x0 x1 x2 x12 : Value) (M : Store) (Q : Value → Store → Prop) : Prop :=
  ∀ f : Nat → Value, f 0 = x0 → f 1 = x1 → f 2 = x2 → f 12 = x12 → At Try.prog Ex none Try.f6 [1, 1, 1, 1, 1] ⟨⟨149, f⟩, []⟩ M Q
def S_fettlelaw10_PrntApart (x0 x1 x2 x3 x4 : Value) (M : Store) (Q : Value → Store → Prop) : Prop :=
  OP (lenV x2) fun t27 =>
  OP (binI .gtr t27 (.int .i64 8)) fun t28 =>
  BR t28 (
  OP (slV 1 Ty.sl_uint8 x2 none (some (.int .i64 8)) M) fun t30 =>
  P_fettlelaw10_PrntApart_1 x0 x1 t30 x3 x4 M Q
  ) (
  P_fettlelaw10_PrntApart_1 x0 x1 x2 x3 x4 M Q
  )
theorem T_fettlelaw10_PrntApart {x0 x1 x2 x3 x4 : Value} {M : Store} {Q : Value → Store → Prop} (h : S_fettlelaw10_PrntApart x0 x1 x2 x3 x4 M Q) : R F.fettlelaw10_PrntApart #[x0, x1, x2, x3, x4] M Q := by
  refine runs_of (c := bodyOf Try.f6) Try.func6 rfl (by kernel_rfl) (by kernel_rfl) ?_
  unfold At
  exact rule (B := 1000) (N := 149) (ct := (.two .no (.two .no (.here 1000))))
    [⟨1002, fun a M => dfr a.defers (P_fettlelaw10_PrntApart_1 (a.get 0) (a.get 1) (a.get 2) (a.get 3) (a.get 4) M Q), fun a M => At Try.prog Ex none Try.f6 [1, 1] a M Q⟩]
    [1000] [] (by kernel_rfl) (by kernel_rfl) (by kernel_rfl) (by kernel_rfl) (by kernel_rfl)
    ⟨fun a M hn h => by obtain ⟨⟨n, f⟩, ds⟩ := a; have hn : n = 149 := hn; subst hn; obtain ⟨hd, h⟩ := dfr_iff h; have hd : ds = [] := hd; subst hd; exact h f rfl rfl rfl rfl rfl,
    trivial⟩
    (cast (by kernel_rfl) h)
def S_fettlelaw10_PrntApart_1 (x0 x1 x2 x3 x4 : Value) (M : Store) (Q : Value → Store → Prop) : Prop :=
  OP (lenV x2) fun t32 =>
  P_fettlelaw10_PrntApart_2 x0 x1 x2 x3 x4 t32 (.int .i64 0) M Q
theorem T_fettlelaw10_PrntApart_1 {x0 x1 x2 x3 x4 : Value} {M : Store} {Q : Value → Store → Prop} (h : S_fettlelaw10_PrntApart_1 x0 x1 x2 x3 x4 M Q) : P_fettlelaw10_PrntApart_1 x0 x1 x2 x3 x4 M Q := by
  intro f h0 h1 h2 h3 h4; subst h0; subst h1; subst h2; subst h3; subst h4
  unfold At
  exact rule (B := 1000) (N := 149) (ct := (.two (.two .no (.two (.here 1000) .no)) (.here 1001)))
    [⟨1002, fun a M => dfr a.defers (P_fettlelaw10_PrntApart_2 (a.get 0) (a.get 1) (a.get 2) (a.get 3) (a.get 4) (a.get 32) (a.get 33) M Q), fun a M => At Try.prog Ex none Try.f6 [1, 1, 0, 1, 0] a M Q⟩,
    ⟨1003, fun _ _ => False, fun a M => At Try.prog Ex none Try.f6 [1, 1, 1] a M Q⟩]
    [1000, 1001] [] (by kernel_rfl) (by kernel_rfl) (by kernel_rfl) (by kernel_rfl) (by kernel_rfl)
    ⟨fun a M hn h => by obtain ⟨⟨n, f⟩, ds⟩ := a; have hn : n = 149 := hn; subst hn; obtain ⟨hd, h⟩ := dfr_iff h; have hd : ds = [] := hd; subst hd; exact h f rfl rfl rfl rfl rfl rfl rfl,
    fun _ _ _ h => h.elim,
    trivial⟩
    (cast (by kernel_rfl) h)
def S_fettlelaw10_PrntApart_2 (x0 x1 x2 x3 x4 x32 x33 : Value) (M : Store) (Q : Value → Store → Prop) : Prop :=
  OP (binI .lss x33 x32) fun t34 =>
  BR t34 (
  P_fettlelaw10_PrntApart_3 x0 x1 x2 x3 x4 x32 x33 M Q
  ) (
  P_fettlelaw10_PrntApart_4 x0 x1 x2 x3 x4 M Q
  )
theorem T_fettlelaw10_PrntApart_2 {x0 x1 x2 x3 x4 x32 x33 : Value} {M : Store} {Q : Value → Store → Prop} (h : S_fettlelaw10_PrntApart_2 x0 x1 x2 x3 x4 x32 x33 M Q) : P_fettlelaw10_PrntApart_2 x0 x1 x2 x3 x4 x32 x33 M Q := by
  intro f h0 h1 h2 h3 h4 h32 h33; subst h0; subst h1; subst h2; subst h3; subst h4; subst h32; subst h33
  unfold At
  refine cast (by kernel_rfl) (CW.loop (P := Try.prog) (E := Ex) (rd := none) (x := sub (bodyOf Try.f6) [1, 1, 0, 1, 0, 0]) (a := ⟨⟨149, f⟩, []⟩) (M := M) (K := kcont Try.prog Ex none (bodyOf Try.f6) [1, 1, 0, 1, 0] (kfin Try.prog Try.f6.results.toList Q)) ?_)
  exact rule (B := 1000) (N := 149) (ct := (.two .no (.two .no (.here 1000))))
    [⟨1002, fun a M => dfr a.defers (P_fettlelaw10_PrntApart_3 (a.get 0) (a.get 1) (a.get 2) (a.get 3) (a.get 4) (a.get 32) (a.get 33) M Q), fun a M => At Try.prog Ex none Try.f6 [1, 1, 0, 1, 0, 0, 1, 1] a M Q⟩,
    ⟨2, fun a M => dfr a.defers (P_fettlelaw10_PrntApart_4 (a.get 0) (a.get 1) (a.get 2) (a.get 3) (a.get 4) M Q), fun a M => At Try.prog Ex none Try.f6 [1, 1, 1] a M Q⟩]
    [1000] [2] (by kernel_rfl) (by kernel_rfl) (by kernel_rfl) (by kernel_rfl) (by kernel_rfl)
    ⟨fun a M hn h => by obtain ⟨⟨n, f⟩, ds⟩ := a; have hn : n = 149 := hn; subst hn; obtain ⟨hd, h⟩ := dfr_iff h; have hd : ds = [] := hd; subst hd; exact h f rfl rfl rfl rfl rfl rfl rfl,
    fun a M hn h => by obtain ⟨⟨n, f⟩, ds⟩ := a; have hn : n = 149 := hn; subst hn; obtain ⟨hd, h⟩ := dfr_iff h; have hd : ds = [] := hd; subst hd; exact h f rfl rfl rfl rfl rfl,
    trivial⟩
    (cast (by kernel_rfl) h)
def S_fettlelaw10_PrntApart_3 (x0 x1 x2 x3 x4 x32 x33 : Value) (M : Store) (Q : Value → Store → Prop) : Prop :=
  OP (ixA 1 x2 x33) fun t38 =>
  OP (ld 1 false t38 M) fun t39 =>
  OP (lenV t39) fun t40 =>
  OP (binI .gtr t40 (.int .i64 256)) fun t41 =>
  BR t41 (
  R F.fettlelaw10_awake #[] M fun t42 M1 =>
  NTs [t42] ∧ Q t42 M1
  ) (
  OP (binI .add x33 (.int .i64 1)) fun t43 =>
  P_fettlelaw10_PrntApart_2 x0 x1 x2 x3 x4 x32 t43 M Q
  )
theorem T_fettlelaw10_PrntApart_3 {x0 x1 x2 x3 x4 x32 x33 : Value} {M : Store} {Q : Value → Store → Prop} (h : S_fettlelaw10_PrntApart_3 x0 x1 x2 x3 x4 x32 x33 M Q) : P_fettlelaw10_PrntApart_3 x0 x1 x2 x3 x4 x32 x33 M Q := by
  intro f h0 h1 h2 h3 h4 h32 h33; subst h0; subst h1; subst h2; subst h3; subst h4; subst h32; subst h33
  unfold At
  exact rule (B := 1000) (N := 149) (ct := .no)
    [⟨0, fun a M => dfr a.defers (P_fettlelaw10_PrntApart_2 (a.get 0) (a.get 1) (a.get 2) (a.get 3) (a.get 4) (a.get 32) (a.get 33) M Q), fun a M => At Try.prog Ex none Try.f6 [1, 1, 0, 1, 0] a M Q⟩,
    ⟨1, fun a M => kfin Try.prog Try.f6.results.toList Q 1 a M, fun a M => kfin Try.prog Try.f6.results.toList Q 1 a M⟩]
    [] [0, 1] (by kernel_rfl) (by kernel_rfl) (by kernel_rfl) (by kernel_rfl) (by kernel_rfl)
    ⟨fun a M hn h => by obtain ⟨⟨n, f⟩, ds⟩ := a; have hn : n = 149 := hn; subst hn; obtain ⟨hd, h⟩ := dfr_iff h; have hd : ds = [] := hd; subst hd; exact h f rfl rfl rfl rfl rfl rfl rfl,
    fun _ _ _ h => h,
    trivial⟩
    (cast (by kernel_rfl) h)
def S_fettlelaw10_PrntApart_4 (x0 x1 x2 x3 x4 : Value) (M : Store) (Q : Value → Store → Prop) : Prop :=
  OP (aun .not x4) fun t46 =>
  BR t46 (
  OP (lenV x2) fun t49 =>
  OP (binI .gtr t49 (.int .i64 0)) fun t50 =>
  BR t50 (
  OP (binI .and x3 (.int .i64 255)) fun t53 =>
  OP (lenV x2) fun t55 =>
  OP (binI .rem t53 t55) fun t56 =>
  OP (bldL (.slice none 0 0) 1 0 []) fun c =>
  LT (.slice (some ⟨M.n, 0, none⟩) 0 0) (M.push (some (.inl (c, Ty.sl_uint8, true)))) fun t57 M1 =>
  OP2 (appV 1 Ty.sl_uint8 t57 x2 M1) fun t59 M2 =>
  OP (bldL (.int .u8 0) 1 0 []) fun c_1 =>
  LT (.slice (some ⟨M2.n, 0, none⟩) 0 0) (M2.push (some (.inl (c_1, Ty.uint8, true)))) fun t62 M3 =>
  OP (ixA 1 x2 t56) fun t65 =>
  OP (ld 1 false t65 M3) fun t66 =>
  OP (ixA 1 x2 t56) fun t69 =>
  OP (ld 1 false t69 M3) fun t70 =>
  OP (lenV t70) fun t71 =>
  OP (amin2 t71 (.int .i64 255)) fun t72 =>
  OP (slV 1 Ty.uint8 t66 none (some t72) M3) fun t73 =>
  OP2 (appV 1 Ty.uint8 t62 t73 M3) fun t74 M4 =>
  TDj [2, 3, 4, 5, 6, 7, 8, 9, 10, 11, 12, 13] [M2.n, M2.n, M2.n, M3.n, M3.n, M3.n, M3.n, M3.n, M3.n, M3.n, M3.n, M3.n, M3.n, M3.n, M3.n] M3 M4 ∧
  OP (binI .shr x3 (.int .u64 8)) fun t76 =>
  OP (cvI .u8 t76) fun t77 =>
  OP (bldL (.int .u8 0) 1 1 [(0, t77)]) fun c_2 =>
  LT (.slice (some ⟨M4.n, 0, none⟩) 1 1) (M4.push (some (.inl (c_2, Ty.uint8, true)))) fun t78 M5 =>
  OP2 (appV 1 Ty.uint8 t74 t78 M5) fun t79 M6 =>
  TDx [0, 0, 0, 0, 0, 24, 56, 0, 0, 384, 896, 1920, 3968, 8184, 16380, 0, 32768, 98304, 229376, 524284, 1048575, 2097151] [M2.n, M2.n, M2.n, M3.n, M3.n, M3.n, M3.n, M3.n, M3.n, M3.n, M3.n, M3.n, M3.n, M3.n, M3.n, M4.n, M4.n, M4.n, M4.n, M5.n] 19 M5 M6 ∧
  OP (ixA 1 t59 t56) fun t80 =>
  OP (st 1 t80 t79 M6) fun M7 =>
  TDx [0, 0, 0, 0, 0, 24, 56, 0, 0, 384, 896, 1920, 3968, 8184, 16380, 0, 32768, 98304, 229376, 524284, 1048575, 2097151] [M2.n, M2.n, M2.n, M3.n, M3.n, M3.n, M3.n, M3.n, M3.n, M3.n, M3.n, M3.n, M3.n, M3.n, M3.n, M4.n, M4.n, M4.n, M4.n, M5.n, M6.n, M6.n] 21 M6 M7 ∧
  P_fettlelaw10_PrntApart_5 x0 x1 x2 t59 M7 Q
  ) (
  P_fettlelaw10_PrntApart_5 x0 x1 x2 x2 M Q
  )
  ) (
  P_fettlelaw10_PrntApart_5 x0 x1 x2 x2 M Q
  )
theorem T_fettlelaw10_PrntApart_4 {x0 x1 x2 x3 x4 : Value} {M : Store} {Q : Value → Store → Prop} (h : S_fettlelaw10_PrntApart_4 x0 x1 x2 x3 x4 M Q) : P_fettlelaw10_PrntApart_4 x0 x1 x2 x3 x4 M Q := by
  intro f h0 h1 h2 h3 h4; subst h0; subst h1; subst h2; subst h3; subst h4
  unfold At
  exact rule (B := 1000) (N := 149) (ct := (.two .no (.two .no (.here 1000))))
    [⟨1002, fun a M => dfr a.defers (P_fettlelaw10_PrntApart_5 (a.get 0) (a.get 1) (a.get 2) (a.get 12) M Q), fun a M => At Try.prog Ex none Try.f6 [1, 1, 1, 1, 1] a M Q⟩]
    [1000] [] (by kernel_rfl) (by kernel_rfl) (by kernel_rfl) (by kernel_rfl) (by kernel_rfl)
    ⟨fun a M hn h => by obtain ⟨⟨n, f⟩, ds⟩ := a; have hn : n = 149 := hn; subst hn; obtain ⟨hd, h⟩ := dfr_iff h; have hd : ds = [] := hd; subst hd; exact h f rfl rfl rfl rfl,
    trivial⟩
    (cast (by kernel_rfl) h)
def S_fettlelaw10_PrntApart_5 (x0 x1 x2 x12 : Value) (M : Store) (Q : Value → Store → Prop) : Prop :=
  R F.fettlelaw6_Act #[x0] M fun t82 M1 =>
  R F.fettlelaw6_Act #[x1] M1 fun t84 M2 =>
  R F.prnt_Print #[t82, x2] M2 fun t87 M3 =>
  R F.prnt_Print #[t84, x12] M3 fun t90 M4 =>
  R F.fettleref4_SameAct #[t82, t84] M4 fun t93 M5 =>
  BR t93 (
  R F.fettleref1_SameRows #[x2, x12] M5 fun t97 M6 =>
  OP (cvBS t87 M6) fun t100 =>
  OP (cvBS t90 M6) fun t102 =>
  OP (binS .eql t100 t102) fun t103 =>
  OP (abin Try.prog false .neq Ty.bool t103 t97) fun t105 =>
  BR t105 (
  NTs [(.bool false)] ∧ Q (.bool false) M6
  ) (
  R F.prnt_Parse #[t87] M6 fun t108 M7 =>
  OP (tup t108 0) fun t109 =>
  OP (tup t108 1) fun t110 =>
  OP (tup t108 2) fun t111 =>
  R F.prnt_Value #[t87] M7 fun t114 M8 =>
  OP (tup t114 0) fun t115 =>
  OP (tup t114 1) fun t116 =>
  R F.fettleref4_Run #[t82, x2] M8 fun t120 M9 =>
  OP (tup t120 0) fun t121 =>
  OP (tup t120 1) fun t122 =>
  BR t111 (
  R F.fettleref4_SameAct #[t109, t82] M9 fun t127 M10 =>
  BR t127 (
  R F.fettleref1_SameRows #[t110, x2] M10 fun t132 M11 =>
  BR t132 (
  OP (abin Try.prog false .eql Ty.bool t116 t122) fun t137 =>
  BR t137 (
  OP (cvBS t115 M11) fun t141 =>
  OP (cvBS t121 M11) fun t143 =>
  OP (binS .eql t141 t143) fun t144 =>
  BR t144 (
  R F.fettlelaw10_awake #[] M11 fun t147 M12 =>
  NTs [t147] ∧ Q t147 M12
  ) (
  NTs [(.bool false)] ∧ Q (.bool false) M11
  )
  ) (
  NTs [(.bool false)] ∧ Q (.bool false) M11
  )
  ) (
  NTs [(.bool false)] ∧ Q (.bool false) M11
  )
  ) (
  NTs [(.bool false)] ∧ Q (.bool false) M10
  )
  ) (
  NTs [(.bool false)] ∧ Q (.bool false) M9
  )
  )
  ) (
  OP (cvBS t87 M5) fun t100_1 =>
  OP (cvBS t90 M5) fun t102_1 =>
  OP (binS .eql t100_1 t102_1) fun t103_1 =>
  OP (abin Try.prog false .neq Ty.bool t103_1 (.bool false)) fun t105_1 =>
  BR t105_1 (
  NTs [(.bool false)] ∧ Q (.bool false) M5
  ) (
  R F.prnt_Parse #[t87] M5 fun t108_1 M13 =>
  OP (tup t108_1 0) fun t109_1 =>
  OP (tup t108_1 1) fun t110_1 =>
  OP (tup t108_1 2) fun t111_1 =>
  R F.prnt_Value #[t87] M13 fun t114_1 M14 =>
  OP (tup t114_1 0) fun t115_1 =>
  OP (tup t114_1 1) fun t116_1 =>
  R F.fettleref4_Run #[t82, x2] M14 fun t120_1 M15 =>
  OP (tup t120_1 0) fun t121_1 =>
  OP (tup t120_1 1) fun t122_1 =>
  BR t111_1 (
  R F.fettleref4_SameAct #[t109_1, t82] M15 fun t127_1 M16 =>
  BR t127_1 (
  R F.fettleref1_SameRows #[t110_1, x2] M16 fun t132_1 M17 =>
  BR t132_1 (
  OP (abin Try.prog false .eql Ty.bool t116_1 t122_1) fun t137_1 =>
  BR t137_1 (
  OP (cvBS t115_1 M17) fun t141_1 =>
  OP (cvBS t121_1 M17) fun t143_1 =>
  OP (binS .eql t141_1 t143_1) fun t144_1 =>
  BR t144_1 (
  R F.fettlelaw10_awake #[] M17 fun t147_1 M18 =>
  NTs [t147_1] ∧ Q t147_1 M18
  ) (
  NTs [(.bool false)] ∧ Q (.bool false) M17
  )
  ) (
  NTs [(.bool false)] ∧ Q (.bool false) M17
  )
  ) (
  NTs [(.bool false)] ∧ Q (.bool false) M17
  )
  ) (
  NTs [(.bool false)] ∧ Q (.bool false) M16
  )
  ) (
  NTs [(.bool false)] ∧ Q (.bool false) M15
  )
  )
  )
theorem T_fettlelaw10_PrntApart_5 {x0 x1 x2 x12 : Value} {M : Store} {Q : Value → Store → Prop} (h : S_fettlelaw10_PrntApart_5 x0 x1 x2 x12 M Q) : P_fettlelaw10_PrntApart_5 x0 x1 x2 x12 M Q := by
  intro f h0 h1 h2 h12; subst h0; subst h1; subst h2; subst h12
  unfold At
  exact rule (B := 1000) (N := 149) (ct := .no)
    [⟨1, fun a M => kfin Try.prog Try.f6.results.toList Q 1 a M, fun a M => kfin Try.prog Try.f6.results.toList Q 1 a M⟩]
    [] [1] (by kernel_rfl) (by kernel_rfl) (by kernel_rfl) (by kernel_rfl) (by kernel_rfl)
    ⟨fun _ _ _ h => h,
    trivial⟩
    (cast (by kernel_rfl) h)
end Go.G
