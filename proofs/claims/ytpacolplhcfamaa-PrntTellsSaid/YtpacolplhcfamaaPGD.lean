/-  -/
import Derived.Test.YtpacolplhcfamaaPGN
open Go.RowKit
namespace Go.G
open Go.Ab Go.Proofs
set_option linter.unusedVariables false
set_option maxRecDepth 100000
def P_fettlelaw10_PrntOwn_1 (x0 x1 : Value) (M : Store) (Q : Value → Store → Prop) : Prop :=
  ∀ f : Nat → Value, f 0 = x0 → f 1 = x1 → At Try.prog Ex none Try.f4 [1, 1] ⟨⟨109, f⟩, []⟩ M Q
def P_fettlelaw10_PrntOwn_2 (x0 x1 x26 x27 x28 : Value) (M : Store) (Q : Value → Store → Prop) : Prop :=
  ∀ f : Nat → Value, f 0 = x0 → f 1 = x1 → f 26 = x26 → f 27 = x27 → f 28 = x28 → At Try.prog Ex none Try.f4 [1, 1, 0, 1, 0] ⟨⟨109, f⟩, []⟩ M Q
def P_fettlelaw10_PrntOwn_3 (x0 x1 x26 x27 x28 : Value) (M : Store) (Q : Value → Store → Prop) : Prop :=
  ∀ f : Nat → Value, f 0 = x0 → f 1 = x1 → f 26 = x26 → f 27 = x27 → f 28 = x28 → At Try.prog Ex none Try.f4 [1, 1, 0, 1, 0, 0, 1, 1] ⟨⟨109, f⟩, []⟩ M Q
def P_fettlelaw10_PrntOwn_4 (x0 x1 : Value) (M : Store) (Q : Value → Store → Prop) : Prop :=
  ∀ f : Nat → Value, f 0 = x0 → f 1 = x1 → At Try.prog Ex none Try.f4 [1, 1, 1] ⟨⟨109, f⟩, []⟩ M Q
def P_fettlelaw10_PrntOwn_5 (x1 x7 x8 x11 x49 x50 x51 : Value) (M : Store) (Q : Value → Store → Prop) : Prop :=
  ∀ f : Nat → Value, f 1 = x1 → f 7 = x7 → f 8 = x8 → f 11 = x11 → f 49 = x49 → f 50 = x50 → f 51 = x51 → At Try.prog Ex none Try.f4 [1, 1, 1, 1, 1, 1, 0, 1, 0] ⟨⟨109, f⟩, []⟩ M Q
def P_fettlelaw10_PrntOwn_6 (x1 x7 x8 x11 x13 x49 x50 x51 x56 x57 : Value) (M : Store) (Q : Value → Store → Prop) : Prop :=
  ∀ f : Nat → Value, f 1 = x1 → f 7 = x7 → f 8 = x8 → f 11 = x11 → f 13 = x13 → f 49 = x49 → f 50 = x50 → f 51 = x51 → f 56 = x56 → f 57 = x57 → At Try.prog Ex none Try.f4 [1, 1, 1, 1, 1, 1, 0, 1, 0, 0, 1, 1, 0, 0, 1, 1, 0] ⟨⟨109, f⟩, []⟩ M Q
def P_fettlelaw10_PrntOwn_7 (x1 x7 x8 x11 : Value) (M : Store) (Q : Value → Store → Prop) : Prop :=
  ∀ f : Nat → Value, f 1 = x1 → f 7 = x7 → f 8 = x8 → f 11 = x11 → At Try.prog Ex none Try.f4 [1, 1, 1, 1, 1, 1, 1] ⟨⟨109, f⟩, []⟩ M Q
def P_fettlelaw10_PrntOwn_8 (x1 x7 x8 x11 x49 x50 x51 : Value) (M : Store) (Q : Value → Store → Prop) : Prop :=
  ∀ f : Nat → Value, f 1 = x1 → f 7 = x7 → f 8 = x8 → f 11 = x11 → f 49 = x49 → f 50 = x50 → f 51 = x51 → At Try.prog Ex none Try.f4 [1, 1, 1, 1, 1, 1, 0, 1, 0, 0, 1, 1, 1] ⟨⟨109, f⟩, []⟩ M Q
def P_fettlelaw10_PrntOwn_9 (x1 x7 x8 x11 x15 x74 x75 : Value) (M : Store) (Q : Value → Store → Prop) : Prop :=
  ∀ f : Nat → Value, f 1 = x1 → f 7 = x7 → f 8 = x8 → f 11 = x11 → f 15 = x15 → f 74 = x74 → f 75 = x75 → At Try.prog Ex none Try.f4 [1, 1, 1, 1, 1, 1, 1, 1, 0, 1, 0] ⟨⟨109, f⟩, []⟩ M Q
def P_fettlelaw10_PrntOwn_10 (x1 x7 x8 x11 : Value) (M : Store) (Q : Value → Store → Prop) : Prop :=
  ∀ f : Nat → Value, f 1 = x1 → f 7 = x7 → f 8 = x8 → f 11 = x11 → At Try.prog Ex none Try.f4 [1, 1, 1, 1, 1, 1, 1, 1, 1] ⟨⟨109, f⟩, []⟩ M Q
def S_fettlelaw10_PrntOwn (x0 x1 : Value) (M : Store) (Q : Value → Store → Prop) : Prop :=
  OP (lenV x1) fun t22 =>
  OP (binI .gtr t22 (.int .i64 8)) fun t23 =>
  BR t23 (
  OP (slV 1 Ty.sl_uint8 x1 none (some (.int .i64 8)) M) fun t25 =>
  P_fettlelaw10_PrntOwn_1 x0 t25 M Q
  ) (
  P_fettlelaw10_PrntOwn_1 x0 x1 M Q
  )
theorem T_fettlelaw10_PrntOwn {x0 x1 : Value} {M : Store} {Q : Value → Store → Prop} (h : S_fettlelaw10_PrntOwn x0 x1 M Q) : R F.fettlelaw10_PrntOwn #[x0, x1] M Q := by
  refine runs_of (c := bodyOf Try.f4) Try.func4 rfl (by kernel_rfl) (by kernel_rfl) ?_
  unfold At
  exact rule (B := 1000) (N := 109) (ct := (.two .no (.two .no (.here 1000))))
    [⟨1002, fun a M => dfr a.defers (P_fettlelaw10_PrntOwn_1 (a.get 0) (a.get 1) M Q), fun a M => At Try.prog Ex none Try.f4 [1, 1] a M Q⟩]
    [1000] [] (by kernel_rfl) (by kernel_rfl) (by kernel_rfl) (by kernel_rfl) (by kernel_rfl)
    ⟨fun a M hn h => by obtain ⟨⟨n, f⟩, ds⟩ := a; have hn : n = 109 := hn; subst hn; obtain ⟨hd, h⟩ := dfr_iff h; have hd : ds = [] := hd; subst hd; exact h f rfl rfl,
    trivial⟩
    (cast (by kernel_rfl) h)
def S_fettlelaw10_PrntOwn_1 (x0 x1 : Value) (M : Store) (Q : Value → Store → Prop) : Prop :=
  OP (lenV x1) fun t27 =>
  P_fettlelaw10_PrntOwn_2 x0 x1 x1 t27 (.int .i64 0) M Q
theorem T_fettlelaw10_PrntOwn_1 {x0 x1 : Value} {M : Store} {Q : Value → Store → Prop} (h : S_fettlelaw10_PrntOwn_1 x0 x1 M Q) : P_fettlelaw10_PrntOwn_1 x0 x1 M Q := by
  intro f h0 h1; subst h0; subst h1
  unfold At
  exact rule (B := 1000) (N := 109) (ct := (.two (.two .no (.two (.here 1000) .no)) (.here 1001)))
    [⟨1002, fun a M => dfr a.defers (P_fettlelaw10_PrntOwn_2 (a.get 0) (a.get 1) (a.get 26) (a.get 27) (a.get 28) M Q), fun a M => At Try.prog Ex none Try.f4 [1, 1, 0, 1, 0] a M Q⟩,
    ⟨1003, fun _ _ => False, fun a M => At Try.prog Ex none Try.f4 [1, 1, 1] a M Q⟩]
    [1000, 1001] [] (by kernel_rfl) (by kernel_rfl) (by kernel_rfl) (by kernel_rfl) (by kernel_rfl)
    ⟨fun a M hn h => by obtain ⟨⟨n, f⟩, ds⟩ := a; have hn : n = 109 := hn; subst hn; obtain ⟨hd, h⟩ := dfr_iff h; have hd : ds = [] := hd; subst hd; exact h f rfl rfl rfl rfl rfl,
    fun _ _ _ h => h.elim,
    trivial⟩
    (cast (by kernel_rfl) h)
def S_fettlelaw10_PrntOwn_2 (x0 x1 x26 x27 x28 : Value) (M : Store) (Q : Value → Store → Prop) : Prop :=
  OP (binI .lss x28 x27) fun t29 =>
  BR t29 (
  P_fettlelaw10_PrntOwn_3 x0 x1 x26 x27 x28 M Q
  ) (
  P_fettlelaw10_PrntOwn_4 x0 x1 M Q
  )
theorem T_fettlelaw10_PrntOwn_2 {x0 x1 x26 x27 x28 : Value} {M : Store} {Q : Value → Store → Prop} (h : S_fettlelaw10_PrntOwn_2 x0 x1 x26 x27 x28 M Q) : P_fettlelaw10_PrntOwn_2 x0 x1 x26 x27 x28 M Q := by
  intro f h0 h1 h26 h27 h28; subst h0; subst h1; subst h26; subst h27; subst h28
  unfold At
  refine cast (by kernel_rfl) (CW.loop (P := Try.prog) (E := Ex) (rd := none) (x := sub (bodyOf Try.f4) [1, 1, 0, 1, 0, 0]) (a := ⟨⟨109, f⟩, []⟩) (M := M) (K := kcont Try.prog Ex none (bodyOf Try.f4) [1, 1, 0, 1, 0] (kfin Try.prog Try.f4.results.toList Q)) ?_)
  exact rule (B := 1000) (N := 109) (ct := (.two .no (.two .no (.here 1000))))
    [⟨1002, fun a M => dfr a.defers (P_fettlelaw10_PrntOwn_3 (a.get 0) (a.get 1) (a.get 26) (a.get 27) (a.get 28) M Q), fun a M => At Try.prog Ex none Try.f4 [1, 1, 0, 1, 0, 0, 1, 1] a M Q⟩,
    ⟨2, fun a M => dfr a.defers (P_fettlelaw10_PrntOwn_4 (a.get 0) (a.get 1) M Q), fun a M => At Try.prog Ex none Try.f4 [1, 1, 1] a M Q⟩]
    [1000] [2] (by kernel_rfl) (by kernel_rfl) (by kernel_rfl) (by kernel_rfl) (by kernel_rfl)
    ⟨fun a M hn h => by obtain ⟨⟨n, f⟩, ds⟩ := a; have hn : n = 109 := hn; subst hn; obtain ⟨hd, h⟩ := dfr_iff h; have hd : ds = [] := hd; subst hd; exact h f rfl rfl rfl rfl rfl,
    fun a M hn h => by obtain ⟨⟨n, f⟩, ds⟩ := a; have hn : n = 109 := hn; subst hn; obtain ⟨hd, h⟩ := dfr_iff h; have hd : ds = [] := hd; subst hd; exact h f rfl rfl,
    trivial⟩
    (cast (by kernel_rfl) h)
def S_fettlelaw10_PrntOwn_3 (x0 x1 x26 x27 x28 : Value) (M : Store) (Q : Value → Store → Prop) : Prop :=
  OP (ixA 1 x26 x28) fun t30 =>
  OP (ld 1 false t30 M) fun t31 =>
  OP (lenV t31) fun t33 =>
  OP (binI .gtr t33 (.int .i64 256)) fun t34 =>
  BR t34 (
  R F.fettlelaw10_awake #[] M fun t35 M1 =>
  NTs [t35] ∧ Q t35 M1
  ) (
  OP (binI .add x28 (.int .i64 1)) fun t36 =>
  P_fettlelaw10_PrntOwn_2 x0 x1 x26 x27 t36 M Q
  )
theorem T_fettlelaw10_PrntOwn_3 {x0 x1 x26 x27 x28 : Value} {M : Store} {Q : Value → Store → Prop} (h : S_fettlelaw10_PrntOwn_3 x0 x1 x26 x27 x28 M Q) : P_fettlelaw10_PrntOwn_3 x0 x1 x26 x27 x28 M Q := by
  intro f h0 h1 h26 h27 h28; subst h0; subst h1; subst h26; subst h27; subst h28
  unfold At
  exact rule (B := 1000) (N := 109) (ct := .no)
    [⟨0, fun a M => dfr a.defers (P_fettlelaw10_PrntOwn_2 (a.get 0) (a.get 1) (a.get 26) (a.get 27) (a.get 28) M Q), fun a M => At Try.prog Ex none Try.f4 [1, 1, 0, 1, 0] a M Q⟩,
    ⟨1, fun a M => kfin Try.prog Try.f4.results.toList Q 1 a M, fun a M => kfin Try.prog Try.f4.results.toList Q 1 a M⟩]
    [] [0, 1] (by kernel_rfl) (by kernel_rfl) (by kernel_rfl) (by kernel_rfl) (by kernel_rfl)
    ⟨fun a M hn h => by obtain ⟨⟨n, f⟩, ds⟩ := a; have hn : n = 109 := hn; subst hn; obtain ⟨hd, h⟩ := dfr_iff h; have hd : ds = [] := hd; subst hd; exact h f rfl rfl rfl rfl rfl,
    fun _ _ _ h => h,
    trivial⟩
    (cast (by kernel_rfl) h)
def S_fettlelaw10_PrntOwn_4 (x0 x1 : Value) (M : Store) (Q : Value → Store → Prop) : Prop :=
  R F.fettlelaw6_Act #[x0] M fun t38 M1 =>
  R F.prnt_Print #[t38, x1] M1 fun t40 M2 =>
  OP (cvBS t40 M2) fun t42 =>
  R F.prnt_Parse #[t40] M2 fun t45 M3 =>
  OP (tup t45 0) fun t46 =>
  OP (tup t45 1) fun t47 =>
  OP (tup t45 2) fun t48 =>
  OP (lenV t47) fun t50 =>
  P_fettlelaw10_PrntOwn_5 x1 t40 t42 t48 t47 t50 (.int .i64 0) M3 Q
theorem T_fettlelaw10_PrntOwn_4 {x0 x1 : Value} {M : Store} {Q : Value → Store → Prop} (h : S_fettlelaw10_PrntOwn_4 x0 x1 M Q) : P_fettlelaw10_PrntOwn_4 x0 x1 M Q := by
  intro f h0 h1; subst h0; subst h1
  unfold At
  exact rule (B := 1000) (N := 109) (ct := (.two .no (.two .no (.two .no (.two (.two .no (.two (.here 1000) .no)) (.here 1001))))))
    [⟨1002, fun a M => dfr a.defers (P_fettlelaw10_PrntOwn_5 (a.get 1) (a.get 7) (a.get 8) (a.get 11) (a.get 49) (a.get 50) (a.get 51) M Q), fun a M => At Try.prog Ex none Try.f4 [1, 1, 1, 1, 1, 1, 0, 1, 0] a M Q⟩,
    ⟨1003, fun _ _ => False, fun a M => At Try.prog Ex none Try.f4 [1, 1, 1, 1, 1, 1, 1] a M Q⟩]
    [1000, 1001] [] (by kernel_rfl) (by kernel_rfl) (by kernel_rfl) (by kernel_rfl) (by kernel_rfl)
    ⟨fun a M hn h => by obtain ⟨⟨n, f⟩, ds⟩ := a; have hn : n = 109 := hn; subst hn; obtain ⟨hd, h⟩ := dfr_iff h; have hd : ds = [] := hd; subst hd; exact h f rfl rfl rfl rfl rfl rfl rfl,
    fun _ _ _ h => h.elim,
    trivial⟩
    (cast (by kernel_rfl) h)
def S_fettlelaw10_PrntOwn_5 (x1 x7 x8 x11 x49 x50 x51 : Value) (M : Store) (Q : Value → Store → Prop) : Prop :=
  OP (binI .lss x51 x50) fun t52 =>
  BR t52 (
  OP (ixA 1 x49 x51) fun t53 =>
  OP (ld 1 false t53 M) fun t54 =>
  OP (lenV t54) fun t56 =>
  P_fettlelaw10_PrntOwn_6 x1 x7 x8 x11 t54 x49 x50 x51 t56 (.int .i64 0) M Q
  ) (
  P_fettlelaw10_PrntOwn_7 x1 x7 x8 x11 M Q
  )
theorem T_fettlelaw10_PrntOwn_5 {x1 x7 x8 x11 x49 x50 x51 : Value} {M : Store} {Q : Value → Store → Prop} (h : S_fettlelaw10_PrntOwn_5 x1 x7 x8 x11 x49 x50 x51 M Q) : P_fettlelaw10_PrntOwn_5 x1 x7 x8 x11 x49 x50 x51 M Q := by
  intro f h1 h7 h8 h11 h49 h50 h51; subst h1; subst h7; subst h8; subst h11; subst h49; subst h50; subst h51
  unfold At
  refine cast (by kernel_rfl) (CW.loop (P := Try.prog) (E := Ex) (rd := none) (x := sub (bodyOf Try.f4) [1, 1, 1, 1, 1, 1, 0, 1, 0, 0]) (a := ⟨⟨109, f⟩, []⟩) (M := M) (K := kcont Try.prog Ex none (bodyOf Try.f4) [1, 1, 1, 1, 1, 1, 0, 1, 0] (kfin Try.prog Try.f4.results.toList Q)) ?_)
  exact rule (B := 1000) (N := 109) (ct := (.two .no (.two .no (.two (.two (.two .no (.two .no (.two (.here 1000) .no))) .no) (.here 1001)))))
    [⟨1002, fun a M => dfr a.defers (P_fettlelaw10_PrntOwn_6 (a.get 1) (a.get 7) (a.get 8) (a.get 11) (a.get 13) (a.get 49) (a.get 50) (a.get 51) (a.get 56) (a.get 57) M Q), fun a M => At Try.prog Ex none Try.f4 [1, 1, 1, 1, 1, 1, 0, 1, 0, 0, 1, 1, 0, 0, 1, 1, 0] a M Q⟩,
    ⟨1003, fun _ _ => False, fun a M => At Try.prog Ex none Try.f4 [1, 1, 1, 1, 1, 1, 0, 1, 0, 0, 1, 1, 1] a M Q⟩,
    ⟨4, fun a M => dfr a.defers (P_fettlelaw10_PrntOwn_7 (a.get 1) (a.get 7) (a.get 8) (a.get 11) M Q), fun a M => At Try.prog Ex none Try.f4 [1, 1, 1, 1, 1, 1, 1] a M Q⟩]
    [1000, 1001] [4] (by kernel_rfl) (by kernel_rfl) (by kernel_rfl) (by kernel_rfl) (by kernel_rfl)
    ⟨fun a M hn h => by obtain ⟨⟨n, f⟩, ds⟩ := a; have hn : n = 109 := hn; subst hn; obtain ⟨hd, h⟩ := dfr_iff h; have hd : ds = [] := hd; subst hd; exact h f rfl rfl rfl rfl rfl rfl rfl rfl rfl rfl,
    fun _ _ _ h => h.elim,
    fun a M hn h => by obtain ⟨⟨n, f⟩, ds⟩ := a; have hn : n = 109 := hn; subst hn; obtain ⟨hd, h⟩ := dfr_iff h; have hd : ds = [] := hd; subst hd; exact h f rfl rfl rfl rfl,
    trivial⟩
    (cast (by kernel_rfl) h)
def S_fettlelaw10_PrntOwn_6 (x1 x7 x8 x11 x13 x49 x50 x51 x56 x57 : Value) (M : Store) (Q : Value → Store → Prop) : Prop :=
  OP (binI .lss x57 x56) fun t58 =>
  BR t58 (
  OP (ixA 1 x13 x57) fun t62 =>
  OP (ld 1 false t62 M) fun t63 =>
  OP (binI .add t63 (.int .u8 1)) fun t64 =>
  OP (ixA 1 x13 x57) fun t65 =>
  OP (st 1 t65 t64 M) fun M1 =>
  OP (binI .add x57 (.int .i64 1)) fun t66 =>
  P_fettlelaw10_PrntOwn_6 x1 x7 x8 x11 x13 x49 x50 x51 x56 t66 M1 Q
  ) (
  P_fettlelaw10_PrntOwn_8 x1 x7 x8 x11 x49 x50 x51 M Q
  )
theorem T_fettlelaw10_PrntOwn_6 {x1 x7 x8 x11 x13 x49 x50 x51 x56 x57 : Value} {M : Store} {Q : Value → Store → Prop} (h : S_fettlelaw10_PrntOwn_6 x1 x7 x8 x11 x13 x49 x50 x51 x56 x57 M Q) : P_fettlelaw10_PrntOwn_6 x1 x7 x8 x11 x13 x49 x50 x51 x56 x57 M Q := by
  intro f h1 h7 h8 h11 h13 h49 h50 h51 h56 h57; subst h1; subst h7; subst h8; subst h11; subst h13; subst h49; subst h50; subst h51; subst h56; subst h57
  unfold At
  refine cast (by kernel_rfl) (CW.loop (P := Try.prog) (E := Ex) (rd := none) (x := sub (bodyOf Try.f4) [1, 1, 1, 1, 1, 1, 0, 1, 0, 0, 1, 1, 0, 0, 1, 1, 0, 0]) (a := ⟨⟨109, f⟩, []⟩) (M := M) (K := kcont Try.prog Ex none (bodyOf Try.f4) [1, 1, 1, 1, 1, 1, 0, 1, 0, 0, 1, 1, 0, 0, 1, 1, 0] (kfin Try.prog Try.f4.results.toList Q)) ?_)
  exact rule (B := 1000) (N := 109) (ct := .no)
    [⟨0, fun a M => dfr a.defers (P_fettlelaw10_PrntOwn_6 (a.get 1) (a.get 7) (a.get 8) (a.get 11) (a.get 13) (a.get 49) (a.get 50) (a.get 51) (a.get 56) (a.get 57) M Q), fun a M => At Try.prog Ex none Try.f4 [1, 1, 1, 1, 1, 1, 0, 1, 0, 0, 1, 1, 0, 0, 1, 1, 0] a M Q⟩,
    ⟨6, fun a M => dfr a.defers (P_fettlelaw10_PrntOwn_8 (a.get 1) (a.get 7) (a.get 8) (a.get 11) (a.get 49) (a.get 50) (a.get 51) M Q), fun a M => At Try.prog Ex none Try.f4 [1, 1, 1, 1, 1, 1, 0, 1, 0, 0, 1, 1, 1] a M Q⟩]
    [] [0, 6] (by kernel_rfl) (by kernel_rfl) (by kernel_rfl) (by kernel_rfl) (by kernel_rfl)
    ⟨fun a M hn h => by obtain ⟨⟨n, f⟩, ds⟩ := a; have hn : n = 109 := hn; subst hn; obtain ⟨hd, h⟩ := dfr_iff h; have hd : ds = [] := hd; subst hd; exact h f rfl rfl rfl rfl rfl rfl rfl rfl rfl rfl,
    fun a M hn h => by obtain ⟨⟨n, f⟩, ds⟩ := a; have hn : n = 109 := hn; subst hn; obtain ⟨hd, h⟩ := dfr_iff h; have hd : ds = [] := hd; subst hd; exact h f rfl rfl rfl rfl rfl rfl rfl,
    trivial⟩
    (cast (by kernel_rfl) h)
def S_fettlelaw10_PrntOwn_7 (x1 x7 x8 x11 : Value) (M : Store) (Q : Value → Store → Prop) : Prop :=
  R F.prnt_Value #[x7] M fun t70 M1 =>
  OP (tup t70 0) fun t71 =>
  OP (tup t70 1) fun t72 =>
  OP (lenV t71) fun t74 =>
  P_fettlelaw10_PrntOwn_9 x1 x7 x8 x11 t71 t74 (.int .i64 0) M1 Q
theorem T_fettlelaw10_PrntOwn_7 {x1 x7 x8 x11 : Value} {M : Store} {Q : Value → Store → Prop} (h : S_fettlelaw10_PrntOwn_7 x1 x7 x8 x11 M Q) : P_fettlelaw10_PrntOwn_7 x1 x7 x8 x11 M Q := by
  intro f h1 h7 h8 h11; subst h1; subst h7; subst h8; subst h11
  unfold At
  exact rule (B := 1000) (N := 109) (ct := (.two .no (.two (.two .no (.two (.here 1000) .no)) (.here 1001))))
    [⟨1002, fun a M => dfr a.defers (P_fettlelaw10_PrntOwn_9 (a.get 1) (a.get 7) (a.get 8) (a.get 11) (a.get 15) (a.get 74) (a.get 75) M Q), fun a M => At Try.prog Ex none Try.f4 [1, 1, 1, 1, 1, 1, 1, 1, 0, 1, 0] a M Q⟩,
    ⟨1003, fun _ _ => False, fun a M => At Try.prog Ex none Try.f4 [1, 1, 1, 1, 1, 1, 1, 1, 1] a M Q⟩]
    [1000, 1001] [] (by kernel_rfl) (by kernel_rfl) (by kernel_rfl) (by kernel_rfl) (by kernel_rfl)
    ⟨fun a M hn h => by obtain ⟨⟨n, f⟩, ds⟩ := a; have hn : n = 109 := hn; subst hn; obtain ⟨hd, h⟩ := dfr_iff h; have hd : ds = [] := hd; subst hd; exact h f rfl rfl rfl rfl rfl rfl rfl,
    fun _ _ _ h => h.elim,
    trivial⟩
    (cast (by kernel_rfl) h)
def S_fettlelaw10_PrntOwn_8 (x1 x7 x8 x11 x49 x50 x51 : Value) (M : Store) (Q : Value → Store → Prop) : Prop :=
  OP (binI .add x51 (.int .i64 1)) fun t67 =>
  P_fettlelaw10_PrntOwn_5 x1 x7 x8 x11 x49 x50 t67 M Q
theorem T_fettlelaw10_PrntOwn_8 {x1 x7 x8 x11 x49 x50 x51 : Value} {M : Store} {Q : Value → Store → Prop} (h : S_fettlelaw10_PrntOwn_8 x1 x7 x8 x11 x49 x50 x51 M Q) : P_fettlelaw10_PrntOwn_8 x1 x7 x8 x11 x49 x50 x51 M Q := by
  intro f h1 h7 h8 h11 h49 h50 h51; subst h1; subst h7; subst h8; subst h11; subst h49; subst h50; subst h51
  unfold At
  exact rule (B := 1000) (N := 109) (ct := .no)
    [⟨0, fun a M => dfr a.defers (P_fettlelaw10_PrntOwn_5 (a.get 1) (a.get 7) (a.get 8) (a.get 11) (a.get 49) (a.get 50) (a.get 51) M Q), fun a M => At Try.prog Ex none Try.f4 [1, 1, 1, 1, 1, 1, 0, 1, 0] a M Q⟩]
    [] [0] (by kernel_rfl) (by kernel_rfl) (by kernel_rfl) (by kernel_rfl) (by kernel_rfl)
    ⟨fun a M hn h => by obtain ⟨⟨n, f⟩, ds⟩ := a; have hn : n = 109 := hn; subst hn; obtain ⟨hd, h⟩ := dfr_iff h; have hd : ds = [] := hd; subst hd; exact h f rfl rfl rfl rfl rfl rfl rfl,
    trivial⟩
    (cast (by kernel_rfl) h)
def S_fettlelaw10_PrntOwn_9 (x1 x7 x8 x11 x15 x74 x75 : Value) (M : Store) (Q : Value → Store → Prop) : Prop :=
  OP (binI .lss x75 x74) fun t76 =>
  BR t76 (
  OP (ixA 1 x15 x75) fun t80 =>
  OP (ld 1 false t80 M) fun t81 =>
  OP (binI .add t81 (.int .u8 1)) fun t82 =>
  OP (ixA 1 x15 x75) fun t83 =>
  OP (st 1 t83 t82 M) fun M1 =>
  OP (binI .add x75 (.int .i64 1)) fun t84 =>
  P_fettlelaw10_PrntOwn_9 x1 x7 x8 x11 x15 x74 t84 M1 Q
  ) (
  P_fettlelaw10_PrntOwn_10 x1 x7 x8 x11 M Q
  )
theorem T_fettlelaw10_PrntOwn_9 {x1 x7 x8 x11 x15 x74 x75 : Value} {M : Store} {Q : Value → Store → Prop} (h : S_fettlelaw10_PrntOwn_9 x1 x7 x8 x11 x15 x74 x75 M Q) : P_fettlelaw10_PrntOwn_9 x1 x7 x8 x11 x15 x74 x75 M Q := by
  intro f h1 h7 h8 h11 h15 h74 h75; subst h1; subst h7; subst h8; subst h11; subst h15; subst h74; subst h75
  unfold At
  refine cast (by kernel_rfl) (CW.loop (P := Try.prog) (E := Ex) (rd := none) (x := sub (bodyOf Try.f4) [1, 1, 1, 1, 1, 1, 1, 1, 0, 1, 0, 0]) (a := ⟨⟨109, f⟩, []⟩) (M := M) (K := kcont Try.prog Ex none (bodyOf Try.f4) [1, 1, 1, 1, 1, 1, 1, 1, 0, 1, 0] (kfin Try.prog Try.f4.results.toList Q)) ?_)
  exact rule (B := 1000) (N := 109) (ct := .no)
    [⟨0, fun a M => dfr a.defers (P_fettlelaw10_PrntOwn_9 (a.get 1) (a.get 7) (a.get 8) (a.get 11) (a.get 15) (a.get 74) (a.get 75) M Q), fun a M => At Try.prog Ex none Try.f4 [1, 1, 1, 1, 1, 1, 1, 1, 0, 1, 0] a M Q⟩,
    ⟨8, fun a M => dfr a.defers (P_fettlelaw10_PrntOwn_10 (a.get 1) (a.get 7) (a.get 8) (a.get 11) M Q), fun a M => At Try.prog Ex none Try.f4 [1, 1, 1, 1, 1, 1, 1, 1, 1] a M Q⟩]
    [] [0, 8] (by kernel_rfl) (by kernel_rfl) (by kernel_rfl) (by kernel_rfl) (by kernel_rfl)
    ⟨fun a M hn h => by obtain ⟨⟨n, f⟩, ds⟩ := a; have hn : n = 109 := hn; subst hn; obtain ⟨hd, h⟩ := dfr_iff h; have hd : ds = [] := hd; subst hd; exact h f rfl rfl rfl rfl rfl rfl rfl,
    fun a M hn h => by obtain ⟨⟨n, f⟩, ds⟩ := a; have hn : n = 109 := hn; subst hn; obtain ⟨hd, h⟩ := dfr_iff h; have hd : ds = [] := hd; subst hd; exact h f rfl rfl rfl rfl,
    trivial⟩
    (cast (by kernel_rfl) h)
def S_fettlelaw10_PrntOwn_10 (x1 x7 x8 x11 : Value) (M : Store) (Q : Value → Store → Prop) : Prop :=
  R F.prnt_Parse #[x7] M fun t87 M1 =>
  OP (tup t87 0) fun t88 =>
  OP (tup t87 1) fun t89 =>
  OP (tup t87 2) fun t90 =>
  BR x11 (
  BR t90 (
  OP (cvBS x7 M1) fun t97 =>
  OP (binS .eql t97 x8) fun t99 =>
  BR t99 (
  R F.fettleref1_SameRows #[t89, x1] M1 fun t104 M2 =>
  BR t104 (
  R F.fettlelaw10_awake #[] M2 fun t107 M3 =>
  NTs [t107] ∧ Q t107 M3
  ) (
  NTs [(.bool false)] ∧ Q (.bool false) M2
  )
  ) (
  NTs [(.bool false)] ∧ Q (.bool false) M1
  )
  ) (
  NTs [(.bool false)] ∧ Q (.bool false) M1
  )
  ) (
  NTs [(.bool false)] ∧ Q (.bool false) M1
  )
theorem T_fettlelaw10_PrntOwn_10 {x1 x7 x8 x11 : Value} {M : Store} {Q : Value → Store → Prop} (h : S_fettlelaw10_PrntOwn_10 x1 x7 x8 x11 M Q) : P_fettlelaw10_PrntOwn_10 x1 x7 x8 x11 M Q := by
  intro f h1 h7 h8 h11; subst h1; subst h7; subst h8; subst h11
  unfold At
  exact rule (B := 1000) (N := 109) (ct := .no)
    [⟨1, fun a M => kfin Try.prog Try.f4.results.toList Q 1 a M, fun a M => kfin Try.prog Try.f4.results.toList Q 1 a M⟩]
    [] [1] (by kernel_rfl) (by kernel_rfl) (by kernel_rfl) (by kernel_rfl) (by kernel_rfl)
    ⟨fun _ _ _ h => h,
    trivial⟩
    (cast (by kernel_rfl) h)
end Go.G
