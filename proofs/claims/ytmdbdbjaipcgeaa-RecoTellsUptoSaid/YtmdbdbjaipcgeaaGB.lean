import Derived.Test.YtmdbdbjaipcgeaaGN
open Go.RowKit
namespace Go.G
open Go.Ab Go.Proofs
set_option linter.unusedVariables false
set_option maxRecDepth 100000
def P_fettlelaw11_ArtiOwn_1 (x0 x1 x2 x3 x9 x10 x11 x12 x13 x51 x52 : Value) (M : Store) (Q : Value → Store → Prop) : Prop :=
  ∀ f : Nat → Value, f 0 = x0 → f 1 = x1 → f 2 = x2 → f 3 = x3 → f 9 = x9 → f 10 = x10 → f 11 = x11 → f 12 = x12 → f 13 = x13 → f 51 = x51 → f 52 = x52 → At Try.prog Ex none Try.f5 [1, 1, 1, 1, 1, 0, 1, 0] ⟨⟨105, f⟩, []⟩ M Q
def P_fettlelaw11_ArtiOwn_2 (x0 x1 x2 x3 x9 x10 x12 x13 : Value) (M : Store) (Q : Value → Store → Prop) : Prop :=
  ∀ f : Nat → Value, f 0 = x0 → f 1 = x1 → f 2 = x2 → f 3 = x3 → f 9 = x9 → f 10 = x10 → f 12 = x12 → f 13 = x13 → At Try.prog Ex none Try.f5 [1, 1, 1, 1, 1, 1] ⟨⟨105, f⟩, []⟩ M Q
def P_fettlelaw11_ArtiOwn_3 (x0 x1 x2 x3 x9 x10 x12 x13 x63 x64 : Value) (M : Store) (Q : Value → Store → Prop) : Prop :=
  ∀ f : Nat → Value, f 0 = x0 → f 1 = x1 → f 2 = x2 → f 3 = x3 → f 9 = x9 → f 10 = x10 → f 12 = x12 → f 13 = x13 → f 63 = x63 → f 64 = x64 → At Try.prog Ex none Try.f5 [1, 1, 1, 1, 1, 1, 0, 1, 0] ⟨⟨105, f⟩, []⟩ M Q
def P_fettlelaw11_ArtiOwn_4 (x0 x1 x2 x3 x9 x10 x13 : Value) (M : Store) (Q : Value → Store → Prop) : Prop :=
  ∀ f : Nat → Value, f 0 = x0 → f 1 = x1 → f 2 = x2 → f 3 = x3 → f 9 = x9 → f 10 = x10 → f 13 = x13 → At Try.prog Ex none Try.f5 [1, 1, 1, 1, 1, 1, 1] ⟨⟨105, f⟩, []⟩ M Q
def S_fettlelaw11_ArtiOwn (x0 x1 x2 x3 : Value) (M : Store) (Q : Value → Store → Prop) : Prop :=
  OP (lenV x0) fun t17 =>
  OP (lenV x1) fun t19 =>
  OP (binI .add t17 t19) fun t20 =>
  OP (lenV x2) fun t22 =>
  OP (binI .add t20 t22) fun t23 =>
  OP (lenV x3) fun t25 =>
  OP (binI .add t23 t25) fun t26 =>
  OP (binI .gtr t26 (.int .i64 400)) fun t27 =>
  BR t27 (
  R F.fettlelaw11_awake #[] M fun t38 M1 =>
  NTs [t38] ∧ Q t38 M1
  ) (
  OP (lenV x1) fun t30 =>
  OP (binI .gtr t30 (.int .i64 256)) fun t31 =>
  BR t31 (
  R F.fettlelaw11_awake #[] M fun t38_1 M2 =>
  NTs [t38_1] ∧ Q t38_1 M2
  ) (
  OP (lenV x3) fun t35 =>
  OP (binI .gtr t35 (.int .i64 256)) fun t36 =>
  BR t36 (
  R F.fettlelaw11_awake #[] M fun t38_2 M3 =>
  NTs [t38_2] ∧ Q t38_2 M3
  ) (
  R F.arti_Make #[x0, x1] M fun t41 M4 =>
  OP (cvBS t41 M4) fun t43 =>
  R F.arti_Open #[t41] M4 fun t46 M5 =>
  OP (tup t46 0) fun t47 =>
  OP (tup t46 1) fun t48 =>
  OP (tup t46 2) fun t49 =>
  OP (lenV t47) fun t51 =>
  P_fettlelaw11_ArtiOwn_1 x0 x1 x2 x3 t41 t43 t47 t48 t49 t51 (.int .i64 0) M5 Q
  )
  )
  )
theorem T_fettlelaw11_ArtiOwn {x0 x1 x2 x3 : Value} {M : Store} {Q : Value → Store → Prop} (h : S_fettlelaw11_ArtiOwn x0 x1 x2 x3 M Q) : R F.fettlelaw11_ArtiOwn #[x0, x1, x2, x3] M Q := by
  refine runs_of (c := bodyOf Try.f5) Try.func5 rfl (by kernel_rfl) (by kernel_rfl) ?_
  unfold At
  exact rule (B := 1000) (N := 105) (ct := (.two .no (.two .no (.two .no (.two .no (.two .no (.two (.two .no (.two (.here 1000) .no)) (.here 1001))))))))
    [⟨1002, fun a M => dfr a.defers (P_fettlelaw11_ArtiOwn_1 (a.get 0) (a.get 1) (a.get 2) (a.get 3) (a.get 9) (a.get 10) (a.get 11) (a.get 12) (a.get 13) (a.get 51) (a.get 52) M Q), fun a M => At Try.prog Ex none Try.f5 [1, 1, 1, 1, 1, 0, 1, 0] a M Q⟩,
    ⟨1003, fun _ _ => False, fun a M => At Try.prog Ex none Try.f5 [1, 1, 1, 1, 1, 1] a M Q⟩,
    ⟨1, fun a M => kfin Try.prog Try.f5.results.toList Q 1 a M, fun a M => kfin Try.prog Try.f5.results.toList Q 1 a M⟩]
    [1000, 1001] [1] (by kernel_rfl) (by kernel_rfl) (by kernel_rfl) (by kernel_rfl) (by kernel_rfl)
    ⟨fun a M hn h => by obtain ⟨⟨n, f⟩, ds⟩ := a; have hn : n = 105 := hn; subst hn; obtain ⟨hd, h⟩ := dfr_iff h; have hd : ds = [] := hd; subst hd; exact h f rfl rfl rfl rfl rfl rfl rfl rfl rfl rfl rfl,
    fun _ _ _ h => h.elim,
    fun _ _ _ h => h,
    trivial⟩
    (cast (by kernel_rfl) h)
def S_fettlelaw11_ArtiOwn_1 (x0 x1 x2 x3 x9 x10 x11 x12 x13 x51 x52 : Value) (M : Store) (Q : Value → Store → Prop) : Prop :=
  OP (binI .lss x52 x51) fun t53 =>
  BR t53 (
  OP (ixA 1 x11 x52) fun t57 =>
  OP (ld 1 false t57 M) fun t58 =>
  OP (binI .add t58 (.int .u8 1)) fun t59 =>
  OP (ixA 1 x11 x52) fun t60 =>
  OP (st 1 t60 t59 M) fun M1 =>
  OP (binI .add x52 (.int .i64 1)) fun t61 =>
  P_fettlelaw11_ArtiOwn_1 x0 x1 x2 x3 x9 x10 x11 x12 x13 x51 t61 M1 Q
  ) (
  P_fettlelaw11_ArtiOwn_2 x0 x1 x2 x3 x9 x10 x12 x13 M Q
  )
theorem T_fettlelaw11_ArtiOwn_1 {x0 x1 x2 x3 x9 x10 x11 x12 x13 x51 x52 : Value} {M : Store} {Q : Value → Store → Prop} (h : S_fettlelaw11_ArtiOwn_1 x0 x1 x2 x3 x9 x10 x11 x12 x13 x51 x52 M Q) : P_fettlelaw11_ArtiOwn_1 x0 x1 x2 x3 x9 x10 x11 x12 x13 x51 x52 M Q := by
  intro f h0 h1 h2 h3 h9 h10 h11 h12 h13 h51 h52; subst h0; subst h1; subst h2; subst h3; subst h9; subst h10; subst h11; subst h12; subst h13; subst h51; subst h52
  unfold At
  refine cast (by kernel_rfl) (CW.loop (P := Try.prog) (E := Ex) (rd := none) (x := sub (bodyOf Try.f5) [1, 1, 1, 1, 1, 0, 1, 0, 0]) (a := ⟨⟨105, f⟩, []⟩) (M := M) (K := kcont Try.prog Ex none (bodyOf Try.f5) [1, 1, 1, 1, 1, 0, 1, 0] (kfin Try.prog Try.f5.results.toList Q)) ?_)
  exact rule (B := 1000) (N := 105) (ct := .no)
    [⟨0, fun a M => dfr a.defers (P_fettlelaw11_ArtiOwn_1 (a.get 0) (a.get 1) (a.get 2) (a.get 3) (a.get 9) (a.get 10) (a.get 11) (a.get 12) (a.get 13) (a.get 51) (a.get 52) M Q), fun a M => At Try.prog Ex none Try.f5 [1, 1, 1, 1, 1, 0, 1, 0] a M Q⟩,
    ⟨2, fun a M => dfr a.defers (P_fettlelaw11_ArtiOwn_2 (a.get 0) (a.get 1) (a.get 2) (a.get 3) (a.get 9) (a.get 10) (a.get 12) (a.get 13) M Q), fun a M => At Try.prog Ex none Try.f5 [1, 1, 1, 1, 1, 1] a M Q⟩]
    [] [0, 2] (by kernel_rfl) (by kernel_rfl) (by kernel_rfl) (by kernel_rfl) (by kernel_rfl)
    ⟨fun a M hn h => by obtain ⟨⟨n, f⟩, ds⟩ := a; have hn : n = 105 := hn; subst hn; obtain ⟨hd, h⟩ := dfr_iff h; have hd : ds = [] := hd; subst hd; exact h f rfl rfl rfl rfl rfl rfl rfl rfl rfl rfl rfl,
    fun a M hn h => by obtain ⟨⟨n, f⟩, ds⟩ := a; have hn : n = 105 := hn; subst hn; obtain ⟨hd, h⟩ := dfr_iff h; have hd : ds = [] := hd; subst hd; exact h f rfl rfl rfl rfl rfl rfl rfl rfl,
    trivial⟩
    (cast (by kernel_rfl) h)
def S_fettlelaw11_ArtiOwn_2 (x0 x1 x2 x3 x9 x10 x12 x13 : Value) (M : Store) (Q : Value → Store → Prop) : Prop :=
  OP (lenV x12) fun t63 =>
  P_fettlelaw11_ArtiOwn_3 x0 x1 x2 x3 x9 x10 x12 x13 t63 (.int .i64 0) M Q
theorem T_fettlelaw11_ArtiOwn_2 {x0 x1 x2 x3 x9 x10 x12 x13 : Value} {M : Store} {Q : Value → Store → Prop} (h : S_fettlelaw11_ArtiOwn_2 x0 x1 x2 x3 x9 x10 x12 x13 M Q) : P_fettlelaw11_ArtiOwn_2 x0 x1 x2 x3 x9 x10 x12 x13 M Q := by
  intro f h0 h1 h2 h3 h9 h10 h12 h13; subst h0; subst h1; subst h2; subst h3; subst h9; subst h10; subst h12; subst h13
  unfold At
  exact rule (B := 1000) (N := 105) (ct := (.two (.two .no (.two (.here 1000) .no)) (.here 1001)))
    [⟨1002, fun a M => dfr a.defers (P_fettlelaw11_ArtiOwn_3 (a.get 0) (a.get 1) (a.get 2) (a.get 3) (a.get 9) (a.get 10) (a.get 12) (a.get 13) (a.get 63) (a.get 64) M Q), fun a M => At Try.prog Ex none Try.f5 [1, 1, 1, 1, 1, 1, 0, 1, 0] a M Q⟩,
    ⟨1003, fun _ _ => False, fun a M => At Try.prog Ex none Try.f5 [1, 1, 1, 1, 1, 1, 1] a M Q⟩]
    [1000, 1001] [] (by kernel_rfl) (by kernel_rfl) (by kernel_rfl) (by kernel_rfl) (by kernel_rfl)
    ⟨fun a M hn h => by obtain ⟨⟨n, f⟩, ds⟩ := a; have hn : n = 105 := hn; subst hn; obtain ⟨hd, h⟩ := dfr_iff h; have hd : ds = [] := hd; subst hd; exact h f rfl rfl rfl rfl rfl rfl rfl rfl rfl rfl,
    fun _ _ _ h => h.elim,
    trivial⟩
    (cast (by kernel_rfl) h)
def S_fettlelaw11_ArtiOwn_3 (x0 x1 x2 x3 x9 x10 x12 x13 x63 x64 : Value) (M : Store) (Q : Value → Store → Prop) : Prop :=
  OP (binI .lss x64 x63) fun t65 =>
  BR t65 (
  OP (ixA 1 x12 x64) fun t69 =>
  OP (ld 1 false t69 M) fun t70 =>
  OP (binI .add t70 (.int .u8 1)) fun t71 =>
  OP (ixA 1 x12 x64) fun t72 =>
  OP (st 1 t72 t71 M) fun M1 =>
  OP (binI .add x64 (.int .i64 1)) fun t73 =>
  P_fettlelaw11_ArtiOwn_3 x0 x1 x2 x3 x9 x10 x12 x13 x63 t73 M1 Q
  ) (
  P_fettlelaw11_ArtiOwn_4 x0 x1 x2 x3 x9 x10 x13 M Q
  )
theorem T_fettlelaw11_ArtiOwn_3 {x0 x1 x2 x3 x9 x10 x12 x13 x63 x64 : Value} {M : Store} {Q : Value → Store → Prop} (h : S_fettlelaw11_ArtiOwn_3 x0 x1 x2 x3 x9 x10 x12 x13 x63 x64 M Q) : P_fettlelaw11_ArtiOwn_3 x0 x1 x2 x3 x9 x10 x12 x13 x63 x64 M Q := by
  intro f h0 h1 h2 h3 h9 h10 h12 h13 h63 h64; subst h0; subst h1; subst h2; subst h3; subst h9; subst h10; subst h12; subst h13; subst h63; subst h64
  unfold At
  refine cast (by kernel_rfl) (CW.loop (P := Try.prog) (E := Ex) (rd := none) (x := sub (bodyOf Try.f5) [1, 1, 1, 1, 1, 1, 0, 1, 0, 0]) (a := ⟨⟨105, f⟩, []⟩) (M := M) (K := kcont Try.prog Ex none (bodyOf Try.f5) [1, 1, 1, 1, 1, 1, 0, 1, 0] (kfin Try.prog Try.f5.results.toList Q)) ?_)
  exact rule (B := 1000) (N := 105) (ct := .no)
    [⟨0, fun a M => dfr a.defers (P_fettlelaw11_ArtiOwn_3 (a.get 0) (a.get 1) (a.get 2) (a.get 3) (a.get 9) (a.get 10) (a.get 12) (a.get 13) (a.get 63) (a.get 64) M Q), fun a M => At Try.prog Ex none Try.f5 [1, 1, 1, 1, 1, 1, 0, 1, 0] a M Q⟩,
    ⟨4, fun a M => dfr a.defers (P_fettlelaw11_ArtiOwn_4 (a.get 0) (a.get 1) (a.get 2) (a.get 3) (a.get 9) (a.get 10) (a.get 13) M Q), fun a M => At Try.prog Ex none Try.f5 [1, 1, 1, 1, 1, 1, 1] a M Q⟩]
    [] [0, 4] (by kernel_rfl) (by kernel_rfl) (by kernel_rfl) (by kernel_rfl) (by kernel_rfl)
    ⟨fun a M hn h => by obtain ⟨⟨n, f⟩, ds⟩ := a; have hn : n = 105 := hn; subst hn; obtain ⟨hd, h⟩ := dfr_iff h; have hd : ds = [] := hd; subst hd; exact h f rfl rfl rfl rfl rfl rfl rfl rfl rfl rfl,
    fun a M hn h => by obtain ⟨⟨n, f⟩, ds⟩ := a; have hn : n = 105 := hn; subst hn; obtain ⟨hd, h⟩ := dfr_iff h; have hd : ds = [] := hd; subst hd; exact h f rfl rfl rfl rfl rfl rfl rfl,
    trivial⟩
    (cast (by kernel_rfl) h)
def S_fettlelaw11_ArtiOwn_4 (x0 x1 x2 x3 x9 x10 x13 : Value) (M : Store) (Q : Value → Store → Prop) : Prop :=
  BR x13 (
  OP (cvBS x9 M) fun t77 =>
  OP (binS .eql t77 x10) fun t79 =>
  BR t79 (
  R F.arti_Make #[x2, x3] M fun t84 M1 =>
  TDj [8, 9] [M.n, M.n, M.n, M.n, M.n, M.n, M.n, M.n, M.n, M.n, M.n] M M1 ∧
  OP (cvBS t84 M1) fun t85 =>
  OP (binS .eql t85 x10) fun t87 =>
  OP (cvBS x0 M1) fun t89 =>
  OP (cvBS x2 M1) fun t91 =>
  OP (binS .eql t89 t91) fun t92 =>
  BR3 t92 (
  OP (cvBS x1 M1) fun t95 =>
  OP (cvBS x3 M1) fun t97 =>
  OP (binS .eql t95 t97) fun t98 =>
  OP (abin Try.prog false .eql Ty.bool t87 t98) fun t100 =>
  BR t100 (
  R F.fettlelaw11_awake #[] M1 fun t103 M2 =>
  TDx [0, 1, 3, 7, 3, 31, 63, 127, 255, 255, 1023, 2047, 255, 8191, 255, 16639, 255, 65791, 246015, 509951, 1034239, 2082815, 1034239, 5228543, 16762879, 33540095, 67108863, 134217727, 268435455, 536870911, 1073741823, 2147483647] [M.n, M.n, M.n, M.n, M.n, M.n, M.n, M.n, M.n, M.n, M.n, M1.n, M1.n, M1.n, M1.n, M1.n, M1.n, M1.n, M1.n, M1.n, M1.n, M1.n, M1.n, M1.n, M1.n, M1.n, M1.n, M1.n, M1.n, M1.n] 29 M1 M2 ∧
  NTs [t103] ∧ Q t103 M2
  ) (
  NTs [(.bool false)] ∧ Q (.bool false) M1
  )
  ) (
  OP (abin Try.prog false .eql Ty.bool t87 (.bool false)) fun t100_1 =>
  BR t100_1 (
  R F.fettlelaw11_awake #[] M1 fun t103_1 M3 =>
  TDx [0, 1, 3, 7, 3, 31, 63, 127, 255, 255, 1023, 2047, 255, 8191, 255, 16639, 255, 65791, 246015, 509951, 1034239, 2082815, 1034239, 5228543, 16762879, 33540095, 67108863, 134217727, 268435455, 536870911, 1073741823, 2147483647] [M.n, M.n, M.n, M.n, M.n, M.n, M.n, M.n, M.n, M.n, M.n, M1.n, M1.n, M1.n, M1.n, M1.n, M1.n, M1.n, M1.n, M1.n, M1.n, M1.n, M1.n, M1.n, M1.n, M1.n, M1.n, M1.n, M1.n, M1.n] 29 M1 M3 ∧
  NTs [t103_1] ∧ Q t103_1 M3
  ) (
  NTs [(.bool false)] ∧ Q (.bool false) M1
  )
  ) (
  BR3 t92 (
  OP (cvBS undef M1) fun t95_1 =>
  OP (cvBS x3 M1) fun t97_1 =>
  OP (binS .eql t95_1 t97_1) fun t98_1 =>
  OP (abin Try.prog false .eql Ty.bool t87 t98_1) fun t100_2 =>
  BR t100_2 (
  R F.fettlelaw11_awake #[] M1 fun t103_2 M4 =>
  TDx [0, 1, 3, 7, 3, 31, 63, 127, 255, 255, 1023, 2047, 255, 8191, 255, 16639, 255, 65791, 246015, 509951, 1034239, 2082815, 1034239, 5228543, 16762879, 33540095, 67108863, 134217727, 268435455, 536870911, 1073741823, 2147483647] [M.n, M.n, M.n, M.n, M.n, M.n, M.n, M.n, M.n, M.n, M.n, M1.n, M1.n, M1.n, M1.n, M1.n, M1.n, M1.n, M1.n, M1.n, M1.n, M1.n, M1.n, M1.n, M1.n, M1.n, M1.n, M1.n, M1.n, M1.n] 29 M1 M4 ∧
  NTs [t103_2] ∧ Q t103_2 M4
  ) (
  NTs [(.bool false)] ∧ Q (.bool false) M1
  )
  ) (
  OP (abin Try.prog false .eql Ty.bool t87 (.bool false)) fun t100_3 =>
  BR t100_3 (
  R F.fettlelaw11_awake #[] M1 fun t103_3 M5 =>
  TDx [0, 1, 3, 7, 3, 31, 63, 127, 255, 255, 1023, 2047, 255, 8191, 255, 16639, 255, 65791, 246015, 509951, 1034239, 2082815, 1034239, 5228543, 16762879, 33540095, 67108863, 134217727, 268435455, 536870911, 1073741823, 2147483647] [M.n, M.n, M.n, M.n, M.n, M.n, M.n, M.n, M.n, M.n, M.n, M1.n, M1.n, M1.n, M1.n, M1.n, M1.n, M1.n, M1.n, M1.n, M1.n, M1.n, M1.n, M1.n, M1.n, M1.n, M1.n, M1.n, M1.n, M1.n] 29 M1 M5 ∧
  NTs [t103_3] ∧ Q t103_3 M5
  ) (
  NTs [(.bool false)] ∧ Q (.bool false) M1
  )
  ) (
  BR3 t92 (
  OP (cvBS x3 M1) fun t97_2 =>
  OP (binS .eql undef t97_2) fun t98_2 =>
  OP (abin Try.prog false .eql Ty.bool t87 t98_2) fun t100_4 =>
  BR t100_4 (
  R F.fettlelaw11_awake #[] M1 fun t103_4 M6 =>
  TDx [0, 1, 3, 7, 3, 31, 63, 127, 255, 255, 1023, 2047, 255, 8191, 255, 16639, 255, 65791, 246015, 509951, 1034239, 2082815, 1034239, 5228543, 16762879, 33540095, 67108863, 134217727, 268435455, 536870911, 1073741823, 2147483647] [M.n, M.n, M.n, M.n, M.n, M.n, M.n, M.n, M.n, M.n, M.n, M1.n, M1.n, M1.n, M1.n, M1.n, M1.n, M1.n, M1.n, M1.n, M1.n, M1.n, M1.n, M1.n, M1.n, M1.n, M1.n, M1.n, M1.n, M1.n] 29 M1 M6 ∧
  NTs [t103_4] ∧ Q t103_4 M6
  ) (
  NTs [(.bool false)] ∧ Q (.bool false) M1
  )
  ) (
  OP (abin Try.prog false .eql Ty.bool t87 (.bool false)) fun t100_5 =>
  BR t100_5 (
  R F.fettlelaw11_awake #[] M1 fun t103_5 M7 =>
  TDx [0, 1, 3, 7, 3, 31, 63, 127, 255, 255, 1023, 2047, 255, 8191, 255, 16639, 255, 65791, 246015, 509951, 1034239, 2082815, 1034239, 5228543, 16762879, 33540095, 67108863, 134217727, 268435455, 536870911, 1073741823, 2147483647] [M.n, M.n, M.n, M.n, M.n, M.n, M.n, M.n, M.n, M.n, M.n, M1.n, M1.n, M1.n, M1.n, M1.n, M1.n, M1.n, M1.n, M1.n, M1.n, M1.n, M1.n, M1.n, M1.n, M1.n, M1.n, M1.n, M1.n, M1.n] 29 M1 M7 ∧
  NTs [t103_5] ∧ Q t103_5 M7
  ) (
  NTs [(.bool false)] ∧ Q (.bool false) M1
  )
  ) (
  BR3 t92 (
  OP (cvBS undef M1) fun t97_3 =>
  OP (binS .eql undef t97_3) fun t98_3 =>
  OP (abin Try.prog false .eql Ty.bool t87 t98_3) fun t100_6 =>
  BR t100_6 (
  R F.fettlelaw11_awake #[] M1 fun t103_6 M8 =>
  TDx [0, 1, 3, 7, 3, 31, 63, 127, 255, 255, 1023, 2047, 255, 8191, 255, 16639, 255, 65791, 246015, 509951, 1034239, 2082815, 1034239, 5228543, 16762879, 33540095, 67108863, 134217727, 268435455, 536870911, 1073741823, 2147483647] [M.n, M.n, M.n, M.n, M.n, M.n, M.n, M.n, M.n, M.n, M.n, M1.n, M1.n, M1.n, M1.n, M1.n, M1.n, M1.n, M1.n, M1.n, M1.n, M1.n, M1.n, M1.n, M1.n, M1.n, M1.n, M1.n, M1.n, M1.n] 29 M1 M8 ∧
  NTs [t103_6] ∧ Q t103_6 M8
  ) (
  NTs [(.bool false)] ∧ Q (.bool false) M1
  )
  ) (
  OP (abin Try.prog false .eql Ty.bool t87 (.bool false)) fun t100_7 =>
  BR t100_7 (
  R F.fettlelaw11_awake #[] M1 fun t103_7 M9 =>
  TDx [0, 1, 3, 7, 3, 31, 63, 127, 255, 255, 1023, 2047, 255, 8191, 255, 16639, 255, 65791, 246015, 509951, 1034239, 2082815, 1034239, 5228543, 16762879, 33540095, 67108863, 134217727, 268435455, 536870911, 1073741823, 2147483647] [M.n, M.n, M.n, M.n, M.n, M.n, M.n, M.n, M.n, M.n, M.n, M1.n, M1.n, M1.n, M1.n, M1.n, M1.n, M1.n, M1.n, M1.n, M1.n, M1.n, M1.n, M1.n, M1.n, M1.n, M1.n, M1.n, M1.n, M1.n] 29 M1 M9 ∧
  NTs [t103_7] ∧ Q t103_7 M9
  ) (
  NTs [(.bool false)] ∧ Q (.bool false) M1
  )
  ) (
  BR3 t92 (
  OP (binS .eql undef undef) fun t98_4 =>
  OP (abin Try.prog false .eql Ty.bool t87 t98_4) fun t100_8 =>
  BR t100_8 (
  R F.fettlelaw11_awake #[] M1 fun t103_8 M10 =>
  TDx [0, 1, 3, 7, 3, 31, 63, 127, 255, 255, 1023, 2047, 255, 8191, 255, 16639, 255, 65791, 246015, 509951, 1034239, 2082815, 1034239, 5228543, 16762879, 33540095, 67108863, 134217727, 268435455, 536870911, 1073741823, 2147483647] [M.n, M.n, M.n, M.n, M.n, M.n, M.n, M.n, M.n, M.n, M.n, M1.n, M1.n, M1.n, M1.n, M1.n, M1.n, M1.n, M1.n, M1.n, M1.n, M1.n, M1.n, M1.n, M1.n, M1.n, M1.n, M1.n, M1.n, M1.n] 29 M1 M10 ∧
  NTs [t103_8] ∧ Q t103_8 M10
  ) (
  NTs [(.bool false)] ∧ Q (.bool false) M1
  )
  ) (
  OP (abin Try.prog false .eql Ty.bool t87 (.bool false)) fun t100_9 =>
  BR t100_9 (
  R F.fettlelaw11_awake #[] M1 fun t103_9 M11 =>
  TDx [0, 1, 3, 7, 3, 31, 63, 127, 255, 255, 1023, 2047, 255, 8191, 255, 16639, 255, 65791, 246015, 509951, 1034239, 2082815, 1034239, 5228543, 16762879, 33540095, 67108863, 134217727, 268435455, 536870911, 1073741823, 2147483647] [M.n, M.n, M.n, M.n, M.n, M.n, M.n, M.n, M.n, M.n, M.n, M1.n, M1.n, M1.n, M1.n, M1.n, M1.n, M1.n, M1.n, M1.n, M1.n, M1.n, M1.n, M1.n, M1.n, M1.n, M1.n, M1.n, M1.n, M1.n] 29 M1 M11 ∧
  NTs [t103_9] ∧ Q t103_9 M11
  ) (
  NTs [(.bool false)] ∧ Q (.bool false) M1
  )
  ) (
  BR t92 (
  OP (abin Try.prog false .eql Ty.bool t87 undef) fun t100_10 =>
  BR t100_10 (
  R F.fettlelaw11_awake #[] M1 fun t103_10 M12 =>
  TDx [0, 1, 3, 7, 3, 31, 63, 127, 255, 255, 1023, 2047, 255, 8191, 255, 16639, 255, 65791, 246015, 509951, 1034239, 2082815, 1034239, 5228543, 16762879, 33540095, 67108863, 134217727, 268435455, 536870911, 1073741823, 2147483647] [M.n, M.n, M.n, M.n, M.n, M.n, M.n, M.n, M.n, M.n, M.n, M1.n, M1.n, M1.n, M1.n, M1.n, M1.n, M1.n, M1.n, M1.n, M1.n, M1.n, M1.n, M1.n, M1.n, M1.n, M1.n, M1.n, M1.n, M1.n] 29 M1 M12 ∧
  NTs [t103_10] ∧ Q t103_10 M12
  ) (
  NTs [(.bool false)] ∧ Q (.bool false) M1
  )
  ) (
  OP (abin Try.prog false .eql Ty.bool t87 (.bool false)) fun t100_11 =>
  BR t100_11 (
  R F.fettlelaw11_awake #[] M1 fun t103_11 M13 =>
  TDx [0, 1, 3, 7, 3, 31, 63, 127, 255, 255, 1023, 2047, 255, 8191, 255, 16639, 255, 65791, 246015, 509951, 1034239, 2082815, 1034239, 5228543, 16762879, 33540095, 67108863, 134217727, 268435455, 536870911, 1073741823, 2147483647] [M.n, M.n, M.n, M.n, M.n, M.n, M.n, M.n, M.n, M.n, M.n, M1.n, M1.n, M1.n, M1.n, M1.n, M1.n, M1.n, M1.n, M1.n, M1.n, M1.n, M1.n, M1.n, M1.n, M1.n, M1.n, M1.n, M1.n, M1.n] 29 M1 M13 ∧
  NTs [t103_11] ∧ Q t103_11 M13
  ) (
  NTs [(.bool false)] ∧ Q (.bool false) M1
  )
  )
  )
  )
  )
  )
  )
  ) (
  NTs [(.bool false)] ∧ Q (.bool false) M
  )
  ) (
  NTs [(.bool false)] ∧ Q (.bool false) M
  )
theorem T_fettlelaw11_ArtiOwn_4 {x0 x1 x2 x3 x9 x10 x13 : Value} {M : Store} {Q : Value → Store → Prop} (h : S_fettlelaw11_ArtiOwn_4 x0 x1 x2 x3 x9 x10 x13 M Q) : P_fettlelaw11_ArtiOwn_4 x0 x1 x2 x3 x9 x10 x13 M Q := by
  intro f h0 h1 h2 h3 h9 h10 h13; subst h0; subst h1; subst h2; subst h3; subst h9; subst h10; subst h13
  unfold At
  exact rule (B := 1000) (N := 105) (ct := .no)
    [⟨1, fun a M => kfin Try.prog Try.f5.results.toList Q 1 a M, fun a M => kfin Try.prog Try.f5.results.toList Q 1 a M⟩]
    [] [1] (by kernel_rfl) (by kernel_rfl) (by kernel_rfl) (by kernel_rfl) (by kernel_rfl)
    ⟨fun _ _ _ h => h,
    trivial⟩
    (cast (by kernel_rfl) h)
def P_fettlelaw11_ArtiTells_1 (x75 x76 x77 : Value) (M : Store) (Q : Value → Store → Prop) : Prop :=
  ∀ f : Nat → Value, f 75 = x75 → f 76 = x76 → f 77 = x77 → At Try.prog Ex none Try.f6 [1, 1, 1, 1, 1, 1, 1, 0, 1, 0] ⟨⟨112, f⟩, []⟩ M Q
def P_fettlelaw11_ArtiTells_2 (x75 x76 x77 : Value) (M : Store) (Q : Value → Store → Prop) : Prop :=
  ∀ f : Nat → Value, f 75 = x75 → f 76 = x76 → f 77 = x77 → At Try.prog Ex none Try.f6 [1, 1, 1, 1, 1, 1, 1, 0, 1, 0, 0, 1, 1] ⟨⟨112, f⟩, []⟩ M Q
def P_fettlelaw11_ArtiTells_3 (M : Store) (Q : Value → Store → Prop) : Prop :=
  ∀ f : Nat → Value, At Try.prog Ex none Try.f6 [1, 1, 1, 1, 1, 1, 1, 1] ⟨⟨112, f⟩, []⟩ M Q
def S_fettlelaw11_ArtiTells (x0 x1 x2 x3 x4 : Value) (M : Store) (Q : Value → Store → Prop) : Prop :=
  OP (lenV x0) fun t23 =>
  OP (binI .gtr t23 (.int .i64 300)) fun t24 =>
  BR t24 (
  R F.fettlelaw11_awake #[] M fun t35 M1 =>
  NTs [t35] ∧ Q t35 M1
  ) (
  OP (lenV x1) fun t27 =>
  OP (binI .gtr t27 (.int .i64 300)) fun t28 =>
  BR t28 (
  R F.fettlelaw11_awake #[] M fun t35_1 M2 =>
  NTs [t35_1] ∧ Q t35_1 M2
  ) (
  OP (lenV x2) fun t32 =>
  OP (binI .gtr t32 (.int .i64 300)) fun t33 =>
  BR t33 (
  R F.fettlelaw11_awake #[] M fun t35_2 M3 =>
  NTs [t35_2] ∧ Q t35_2 M3
  ) (
  R F.fettleref10_Make #[x0, x1] M fun t38 M4 =>
  R F.arti_Make #[x0, x1] M4 fun t41 M5 =>
  TDj [0, 1] [M4.n, M4.n, M4.n] M4 M5 ∧
  OP (cvBS t41 M5) fun t42 =>
  OP (cvBS t38 M5) fun t44 =>
  OP (binS .neq t42 t44) fun t45 =>
  BR t45 (
  NTs [(.bool false)] ∧ Q (.bool false) M5
  ) (
  OP (bldL (.int .u8 0) 1 0 []) fun c =>
  LT (.slice (some ⟨M5.n, 0, none⟩) 0 0) (M5.push (some (.inl (c, Ty.uint8, true)))) fun t46 M6 =>
  OP2 (appV 1 Ty.uint8 t46 t38 M6) fun t48 M7 =>
  OP (binI .and x3 (.int .i64 65535)) fun t50 =>
  OP (lenV t48) fun t52 =>
  OP (binI .rem t50 t52) fun t53 =>
  OP (ixA 1 t48 t53) fun t57 =>
  OP (st 1 t57 x4 M7) fun M8 =>
  OP (slV 1 Ty.uint8 t38 none (some t53) M8) fun t63 =>
  OP (bldL (.int .u8 0) 1 0 []) fun c_1 =>
  LT (.slice (some ⟨M8.n, 0, none⟩) 0 0) (M8.push (some (.inl (c_1, Ty.uint8, true)))) fun t64 M9 =>
  OP2 (appV 1 Ty.uint8 t64 t38 M9) fun t66 M10 =>
  TDj [6, 7] [M8.n, M8.n, M8.n, M8.n, M8.n, M8.n, M8.n, M9.n, M9.n] M9 M10 ∧
  OP (bldL (.int .u8 0) 1 1 [(0, x4)]) fun c_2 =>
  LT (.slice (some ⟨M10.n, 0, none⟩) 1 1) (M10.push (some (.inl (c_2, Ty.uint8, true)))) fun t68 M11 =>
  OP2 (appV 1 Ty.uint8 t66 t68 M11) fun t69 M12 =>
  TDj [6, 7, 8, 9, 10] [M8.n, M8.n, M8.n, M8.n, M8.n, M8.n, M8.n, M9.n, M9.n, M10.n, M10.n, M11.n] M11 M12 ∧
  OP (bldL (.int .u8 0) 1 0 []) fun c_3 =>
  LT (.slice (some ⟨M12.n, 0, none⟩) 0 0) (M12.push (some (.inl (c_3, Ty.uint8, true)))) fun t70 M13 =>
  OP2 (appV 1 Ty.uint8 t70 t38 M13) fun t72 M14 =>
  TDj [6, 7, 8, 9, 10, 11, 12, 13] [M8.n, M8.n, M8.n, M8.n, M8.n, M8.n, M8.n, M9.n, M9.n, M10.n, M10.n, M11.n, M12.n, M13.n, M13.n] M13 M14 ∧
  OP2 (appV 1 Ty.uint8 t72 t38 M14) fun t74 M15 =>
  TDj [6, 7, 8, 9, 10, 11, 12, 13, 14, 15] [M8.n, M8.n, M8.n, M8.n, M8.n, M8.n, M8.n, M9.n, M9.n, M10.n, M10.n, M11.n, M12.n, M13.n, M13.n, M14.n, M14.n] M14 M15 ∧
  OP (bldL (.slice none 0 0) 1 6 [(0, x2), (1, t38), (2, t48), (3, t63), (4, t69), (5, t74)]) fun c_4 =>
  LT (.slice (some ⟨M15.n, 0, none⟩) 6 6) (M15.push (some (.inl (c_4, Ty.sl_uint8, true)))) fun t75 M16 =>
  OP (lenV t75) fun t76 =>
  P_fettlelaw11_ArtiTells_1 t75 t76 (.int .i64 0) M16 Q
  )
  )
  )
  )
theorem T_fettlelaw11_ArtiTells {x0 x1 x2 x3 x4 : Value} {M : Store} {Q : Value → Store → Prop} (h : S_fettlelaw11_ArtiTells x0 x1 x2 x3 x4 M Q) : R F.fettlelaw11_ArtiTells #[x0, x1, x2, x3, x4] M Q := by
  refine runs_of (c := bodyOf Try.f6) Try.func6 rfl (by kernel_rfl) (by kernel_rfl) ?_
  unfold At
  exact rule (B := 1000) (N := 112) (ct := (.two .no (.two .no (.two .no (.two .no (.two .no (.two .no (.two .no (.two (.two .no (.two (.here 1000) .no)) (.here 1001))))))))))
    [⟨1002, fun a M => dfr a.defers (P_fettlelaw11_ArtiTells_1 (a.get 75) (a.get 76) (a.get 77) M Q), fun a M => At Try.prog Ex none Try.f6 [1, 1, 1, 1, 1, 1, 1, 0, 1, 0] a M Q⟩,
    ⟨1003, fun _ _ => False, fun a M => At Try.prog Ex none Try.f6 [1, 1, 1, 1, 1, 1, 1, 1] a M Q⟩,
    ⟨1, fun a M => kfin Try.prog Try.f6.results.toList Q 1 a M, fun a M => kfin Try.prog Try.f6.results.toList Q 1 a M⟩]
    [1000, 1001] [1] (by kernel_rfl) (by kernel_rfl) (by kernel_rfl) (by kernel_rfl) (by kernel_rfl)
    ⟨fun a M hn h => by obtain ⟨⟨n, f⟩, ds⟩ := a; have hn : n = 112 := hn; subst hn; obtain ⟨hd, h⟩ := dfr_iff h; have hd : ds = [] := hd; subst hd; exact h f rfl rfl rfl,
    fun _ _ _ h => h.elim,
    fun _ _ _ h => h,
    trivial⟩
    (cast (by kernel_rfl) h)
def S_fettlelaw11_ArtiTells_1 (x75 x76 x77 : Value) (M : Store) (Q : Value → Store → Prop) : Prop :=
  OP (binI .lss x77 x76) fun t78 =>
  BR t78 (
  P_fettlelaw11_ArtiTells_2 x75 x76 x77 M Q
  ) (
  P_fettlelaw11_ArtiTells_3 M Q
  )
theorem T_fettlelaw11_ArtiTells_1 {x75 x76 x77 : Value} {M : Store} {Q : Value → Store → Prop} (h : S_fettlelaw11_ArtiTells_1 x75 x76 x77 M Q) : P_fettlelaw11_ArtiTells_1 x75 x76 x77 M Q := by
  intro f h75 h76 h77; subst h75; subst h76; subst h77
  unfold At
  refine cast (by kernel_rfl) (CW.loop (P := Try.prog) (E := Ex) (rd := none) (x := sub (bodyOf Try.f6) [1, 1, 1, 1, 1, 1, 1, 0, 1, 0, 0]) (a := ⟨⟨112, f⟩, []⟩) (M := M) (K := kcont Try.prog Ex none (bodyOf Try.f6) [1, 1, 1, 1, 1, 1, 1, 0, 1, 0] (kfin Try.prog Try.f6.results.toList Q)) ?_)
  exact rule (B := 1000) (N := 112) (ct := (.two .no (.two .no (.here 1000))))
    [⟨1002, fun a M => dfr a.defers (P_fettlelaw11_ArtiTells_2 (a.get 75) (a.get 76) (a.get 77) M Q), fun a M => At Try.prog Ex none Try.f6 [1, 1, 1, 1, 1, 1, 1, 0, 1, 0, 0, 1, 1] a M Q⟩,
    ⟨2, fun a M => dfr a.defers (P_fettlelaw11_ArtiTells_3 M Q), fun a M => At Try.prog Ex none Try.f6 [1, 1, 1, 1, 1, 1, 1, 1] a M Q⟩]
    [1000] [2] (by kernel_rfl) (by kernel_rfl) (by kernel_rfl) (by kernel_rfl) (by kernel_rfl)
    ⟨fun a M hn h => by obtain ⟨⟨n, f⟩, ds⟩ := a; have hn : n = 112 := hn; subst hn; obtain ⟨hd, h⟩ := dfr_iff h; have hd : ds = [] := hd; subst hd; exact h f rfl rfl rfl,
    fun a M hn h => by obtain ⟨⟨n, f⟩, ds⟩ := a; have hn : n = 112 := hn; subst hn; obtain ⟨hd, h⟩ := dfr_iff h; have hd : ds = [] := hd; subst hd; exact h f,
    trivial⟩
    (cast (by kernel_rfl) h)
def S_fettlelaw11_ArtiTells_2 (x75 x76 x77 : Value) (M : Store) (Q : Value → Store → Prop) : Prop :=
  OP (ixA 1 x75 x77) fun t79 =>
  OP (ld 1 false t79 M) fun t80 =>
  R F.arti_Open #[t80] M fun t83 M1 =>
  OP (tup t83 0) fun t84 =>
  OP (tup t83 1) fun t85 =>
  OP (tup t83 2) fun t86 =>
  R F.fettleref10_Open #[t80] M1 fun t89 M2 =>
  OP (tup t89 0) fun t90 =>
  OP (tup t89 1) fun t91 =>
  OP (tup t89 2) fun t92 =>
  OP (abin Try.prog false .neq Ty.bool t86 t92) fun t95 =>
  BR t95 (
  NTs [(.bool false)] ∧ Q (.bool false) M2
  ) (
  OP (cvBS t84 M2) fun t98 =>
  OP (cvBS t90 M2) fun t100 =>
  OP (binS .neq t98 t100) fun t101 =>
  BR t101 (
  NTs [(.bool false)] ∧ Q (.bool false) M2
  ) (
  OP (cvBS t85 M2) fun t105 =>
  OP (cvBS t91 M2) fun t107 =>
  OP (binS .neq t105 t107) fun t108 =>
  BR t108 (
  NTs [(.bool false)] ∧ Q (.bool false) M2
  ) (
  OP (binI .add x77 (.int .i64 1)) fun t110 =>
  P_fettlelaw11_ArtiTells_1 x75 x76 t110 M2 Q
  )
  )
  )
theorem T_fettlelaw11_ArtiTells_2 {x75 x76 x77 : Value} {M : Store} {Q : Value → Store → Prop} (h : S_fettlelaw11_ArtiTells_2 x75 x76 x77 M Q) : P_fettlelaw11_ArtiTells_2 x75 x76 x77 M Q := by
  intro f h75 h76 h77; subst h75; subst h76; subst h77
  unfold At
  exact rule (B := 1000) (N := 112) (ct := .no)
    [⟨0, fun a M => dfr a.defers (P_fettlelaw11_ArtiTells_1 (a.get 75) (a.get 76) (a.get 77) M Q), fun a M => At Try.prog Ex none Try.f6 [1, 1, 1, 1, 1, 1, 1, 0, 1, 0] a M Q⟩,
    ⟨1, fun a M => kfin Try.prog Try.f6.results.toList Q 1 a M, fun a M => kfin Try.prog Try.f6.results.toList Q 1 a M⟩]
    [] [0, 1] (by kernel_rfl) (by kernel_rfl) (by kernel_rfl) (by kernel_rfl) (by kernel_rfl)
    ⟨fun a M hn h => by obtain ⟨⟨n, f⟩, ds⟩ := a; have hn : n = 112 := hn; subst hn; obtain ⟨hd, h⟩ := dfr_iff h; have hd : ds = [] := hd; subst hd; exact h f rfl rfl rfl,
    fun _ _ _ h => h,
    trivial⟩
    (cast (by kernel_rfl) h)
def S_fettlelaw11_ArtiTells_3 (M : Store) (Q : Value → Store → Prop) : Prop :=
  R F.fettlelaw11_awake #[] M fun t111 M1 =>
  NTs [t111] ∧ Q t111 M1
theorem T_fettlelaw11_ArtiTells_3 {M : Store} {Q : Value → Store → Prop} (h : S_fettlelaw11_ArtiTells_3 M Q) : P_fettlelaw11_ArtiTells_3 M Q := by
  intro f 
  unfold At
  exact rule (B := 1000) (N := 112) (ct := .no)
    [⟨1, fun a M => kfin Try.prog Try.f6.results.toList Q 1 a M, fun a M => kfin Try.prog Try.f6.results.toList Q 1 a M⟩]
    [] [1] (by kernel_rfl) (by kernel_rfl) (by kernel_rfl) (by kernel_rfl) (by kernel_rfl)
    ⟨fun _ _ _ h => h,
    trivial⟩
    (cast (by kernel_rfl) h)
def S_fettlelaw11_ArtiTurned (x0 x1 x2 x3 : Value) (M : Store) (Q : Value → Store → Prop) : Prop :=
  OP (lenV x0) fun t25 =>
  OP (binI .gtr t25 (.int .i64 200)) fun t26 =>
  BR t26 (
  R F.fettlelaw11_awake #[] M fun t32 M1 =>
  NTs [t32] ∧ Q t32 M1
  ) (
  OP (lenV x1) fun t29 =>
  OP (binI .gtr t29 (.int .i64 200)) fun t30 =>
  BR t30 (
  R F.fettlelaw11_awake #[] M fun t32_1 M2 =>
  NTs [t32_1] ∧ Q t32_1 M2
  ) (
  R F.arti_Make #[x0, x1] M fun t35 M3 =>
  R F.arti_Open #[t35] M3 fun t38 M4 =>
  OP (tup t38 0) fun t39 =>
  OP (tup t38 1) fun t40 =>
  OP (tup t38 2) fun t41 =>
  OP (aun .not t41) fun t43 =>
  BR t43 (
  NTs [(.bool false)] ∧ Q (.bool false) M4
  ) (
  OP (cvBS t39 M4) fun t46 =>
  OP (cvBS x0 M4) fun t48 =>
  OP (binS .neq t46 t48) fun t49 =>
  BR t49 (
  NTs [(.bool false)] ∧ Q (.bool false) M4
  ) (
  OP (cvBS t40 M4) fun t53 =>
  OP (cvBS x1 M4) fun t55 =>
  OP (binS .neq t53 t55) fun t56 =>
  BR t56 (
  NTs [(.bool false)] ∧ Q (.bool false) M4
  ) (
  OP (bldL (.int .u8 0) 1 0 []) fun c =>
  LT (.slice (some ⟨M4.n, 0, none⟩) 0 0) (M4.push (some (.inl (c, Ty.uint8, true)))) fun t58 M5 =>
  OP2 (appV 1 Ty.uint8 t58 t35 M5) fun t60 M6 =>
  OP (binI .and x2 (.int .i64 65535)) fun t62 =>
  OP (lenV t35) fun t64 =>
  OP (binI .mul (.int .i64 8) t64) fun t65 =>
  OP (binI .rem t62 t65) fun t66 =>
  OP (binI .quo t66 (.int .i64 8)) fun t69 =>
  OP (binI .quo t66 (.int .i64 8)) fun t72 =>
  OP (ixA 1 t60 t72) fun t73 =>
  OP (ld 1 false t73 M6) fun t74 =>
  OP (binI .and t66 (.int .i64 7)) fun t76 =>
  OP (cvI .u64 t76) fun t77 =>
  OP (binI .shl (.int .u8 1) t77) fun t78 =>
  OP (binI .xor t74 t78) fun t79 =>
  OP (ixA 1 t60 t69) fun t80 =>
  OP (st 1 t80 t79 M6) fun M7 =>
  R F.arti_Open #[t60] M7 fun t83 M8 =>
  OP (tup t83 0) fun t84 =>
  OP (tup t83 1) fun t85 =>
  OP (tup t83 2) fun t86 =>
  OP (binI .and x3 (.int .i64 65535)) fun t90 =>
  OP (lenV t35) fun t92 =>
  OP (binI .rem t90 t92) fun t93 =>
  OP (slV 1 Ty.uint8 t35 none (some t93) M8) fun t94 =>
  R F.arti_Open #[t94] M8 fun t95 M9 =>
  OP (tup t95 0) fun t96 =>
  OP (tup t95 1) fun t97 =>
  OP (tup t95 2) fun t98 =>
  OP (bldL (.int .u8 0) 1 0 []) fun c_1 =>
  LT (.slice (some ⟨M9.n, 0, none⟩) 0 0) (M9.push (some (.inl (c_1, Ty.uint8, true)))) fun t100 M10 =>
  OP2 (appV 1 Ty.uint8 t100 t35 M10) fun t102 M11 =>
  OP (bldL (.int .u8 0) 1 1 [(0, (.int .u8 0))]) fun c_2 =>
  LT (.slice (some ⟨M11.n, 0, none⟩) 1 1) (M11.push (some (.inl (c_2, Ty.uint8, true)))) fun t103 M12 =>
  OP2 (appV 1 Ty.uint8 t102 t103 M12) fun t104 M13 =>
  R F.arti_Open #[t104] M13 fun t105 M14 =>
  OP (tup t105 0) fun t106 =>
  OP (tup t105 1) fun t107 =>
  OP (tup t105 2) fun t108 =>
  OP (aun .not t86) fun t110 =>
  BR t110 (
  OP (aun .not t98) fun t113 =>
  BR t113 (
  OP (aun .not t108) fun t117 =>
  BR t117 (
  R F.fettlelaw11_awake #[] M14 fun t120 M15 =>
  NTs [t120] ∧ Q t120 M15
  ) (
  NTs [(.bool false)] ∧ Q (.bool false) M14
  )
  ) (
  NTs [(.bool false)] ∧ Q (.bool false) M14
  )
  ) (
  NTs [(.bool false)] ∧ Q (.bool false) M14
  )
  )
  )
  )
  )
  )
theorem T_fettlelaw11_ArtiTurned {x0 x1 x2 x3 : Value} {M : Store} {Q : Value → Store → Prop} (h : S_fettlelaw11_ArtiTurned x0 x1 x2 x3 M Q) : R F.fettlelaw11_ArtiTurned #[x0, x1, x2, x3] M Q := by
  refine runs_of (c := bodyOf Try.f7) Try.func7 rfl (by kernel_rfl) (by kernel_rfl) ?_
  unfold At
  exact rule (B := 1000) (N := 122) (ct := .no)
    [⟨1, fun a M => kfin Try.prog Try.f7.results.toList Q 1 a M, fun a M => kfin Try.prog Try.f7.results.toList Q 1 a M⟩]
    [] [1] (by kernel_rfl) (by kernel_rfl) (by kernel_rfl) (by kernel_rfl) (by kernel_rfl)
    ⟨fun _ _ _ h => h,
    trivial⟩
    (cast (by kernel_rfl) h)
def S_arti_Open (x0 : Value) (M : Store) (Q : Value → Store → Prop) : Prop :=
  R F.fram_Scan #[x0] M fun t10 M1 =>
  OP (tup t10 0) fun t11 =>
  OP (tup t10 1) fun t12 =>
  OP (lenV t11) fun t14 =>
  OP (binI .neq t14 (.int .i64 1)) fun t15 =>
  BR t15 (
  NTs [(.slice none 0 0), (.slice none 0 0), (.bool false)] ∧ Q (.tuple #[(.slice none 0 0), (.slice none 0 0), (.bool false)]) M1
  ) (
  OP (lenV x0) fun t19 =>
  OP (binI .neq t12 t19) fun t20 =>
  BR t20 (
  NTs [(.slice none 0 0), (.slice none 0 0), (.bool false)] ∧ Q (.tuple #[(.slice none 0 0), (.slice none 0 0), (.bool false)]) M1
  ) (
  OP (ixA 1 t11 (.int .i64 0)) fun t23 =>
  OP (ld 1 false t23 M1) fun t24 =>
  R F.code_Read #[t24] M1 fun t25 M2 =>
  R F.code_Reader_Bytes #[t25, (.int .i64 4000)] M2 fun t27 M3 =>
  R F.code_Reader_Bytes #[t25, (.int .i64 256)] M3 fun t29 M4 =>
  R F.code_Reader_End #[t25] M4 fun t31 M5 =>
  OP (aun .not t31) fun t32 =>
  BR t32 (
  NTs [(.slice none 0 0), (.slice none 0 0), (.bool false)] ∧ Q (.tuple #[(.slice none 0 0), (.slice none 0 0), (.bool false)]) M5
  ) (
  NTs [t27, t29, (.bool true)] ∧ Q (.tuple #[t27, t29, (.bool true)]) M5
  )
  )
  )
theorem T_arti_Open {x0 : Value} {M : Store} {Q : Value → Store → Prop} (h : S_arti_Open x0 M Q) : R F.arti_Open #[x0] M Q := by
  refine runs_of (c := bodyOf Try.f28) Try.func28 rfl (by kernel_rfl) (by kernel_rfl) ?_
  unfold At
  exact rule (B := 1000) (N := 35) (ct := .no)
    [⟨1, fun a M => kfin Try.prog Try.f28.results.toList Q 1 a M, fun a M => kfin Try.prog Try.f28.results.toList Q 1 a M⟩]
    [] [1] (by kernel_rfl) (by kernel_rfl) (by kernel_rfl) (by kernel_rfl) (by kernel_rfl)
    ⟨fun _ _ _ h => h,
    trivial⟩
    (cast (by kernel_rfl) h)
def S_arti_Make (x0 x1 : Value) (M : Store) (Q : Value → Store → Prop) : Prop :=
  R F.code_Bytes #[(.slice none 0 0), x0] M fun t6 M1 =>
  R F.code_Bytes #[t6, x1] M1 fun t8 M2 =>
  R F.fram_Put #[(.slice none 0 0), t8] M2 fun t9 M3 =>
  NTs [t9] ∧ Q t9 M3
theorem T_arti_Make {x0 x1 : Value} {M : Store} {Q : Value → Store → Prop} (h : S_arti_Make x0 x1 M Q) : R F.arti_Make #[x0, x1] M Q := by
  refine runs_of (c := bodyOf Try.f29) Try.func29 rfl (by kernel_rfl) (by kernel_rfl) ?_
  unfold At
  exact rule (B := 1000) (N := 10) (ct := .no)
    [⟨1, fun a M => kfin Try.prog Try.f29.results.toList Q 1 a M, fun a M => kfin Try.prog Try.f29.results.toList Q 1 a M⟩]
    [] [1] (by kernel_rfl) (by kernel_rfl) (by kernel_rfl) (by kernel_rfl) (by kernel_rfl)
    ⟨fun _ _ _ h => h,
    trivial⟩
    (cast (by kernel_rfl) h)
def S_fettlelaw11_awake (M : Store) (Q : Value → Store → Prop) : Prop :=
  OP (bldL (.int .u8 0) 1 1 [(0, (.int .u8 112))]) fun c =>
  LT (.slice (some ⟨M.n, 0, none⟩) 1 1) (M.push (some (.inl (c, Ty.uint8, true)))) fun t8 M1 =>
  OP2 (cvId t8 M1) fun t9 M2 =>
  OP (bldL (.int .u8 0) 1 5 [(0, (.int .u8 118)), (1, (.int .u8 97)), (2, (.int .u8 108)), (3, (.int .u8 117)), (4, (.int .u8 101))]) fun c_1 =>
  LT (.slice (some ⟨M2.n, 0, none⟩) 5 5) (M2.push (some (.inl (c_1, Ty.uint8, true)))) fun t10 M3 =>
  OP2 (cvId t10 M3) fun t11 M4 =>
  R F.arti_Make #[t9, t11] M4 fun t12 M5 =>
  R F.arti_Open #[t12] M5 fun t15 M6 =>
  OP (tup t15 0) fun t16 =>
  OP (tup t15 1) fun t17 =>
  OP (tup t15 2) fun t18 =>
  OP (lenV t12) fun t22 =>
  OP (binI .quo t22 (.int .i64 2)) fun t23 =>
  OP (slV 1 Ty.uint8 t12 none (some t23) M6) fun t24 =>
  R F.arti_Open #[t24] M6 fun t25 M7 =>
  OP (tup t25 0) fun t26 =>
  OP (tup t25 1) fun t27 =>
  OP (tup t25 2) fun t28 =>
  OP (lenV t12) fun t30 =>
  OP (binI .eql t30 (.int .i64 28)) fun t31 =>
  BR t31 (
  BR t18 (
  OP (cvBS t16 M7) fun t37 =>
  OP (binS .eql t37 (.string ⟨#[112]⟩)) fun t38 =>
  BR t38 (
  OP (cvBS t17 M7) fun t42 =>
  OP (binS .eql t42 (.string ⟨#[118, 97, 108, 117, 101]⟩)) fun t43 =>
  BR t43 (
  OP (aun .not t28) fun t47 =>
  NTs [t47] ∧ Q t47 M7
  ) (
  NTs [(.bool false)] ∧ Q (.bool false) M7
  )
  ) (
  NTs [(.bool false)] ∧ Q (.bool false) M7
  )
  ) (
  NTs [(.bool false)] ∧ Q (.bool false) M7
  )
  ) (
  NTs [(.bool false)] ∧ Q (.bool false) M7
  )
theorem T_fettlelaw11_awake {M : Store} {Q : Value → Store → Prop} (h : S_fettlelaw11_awake M Q) : R F.fettlelaw11_awake #[] M Q := by
  refine runs_of (c := bodyOf Try.f30) Try.func30 rfl (by kernel_rfl) (by kernel_rfl) ?_
  unfold At
  exact rule (B := 1000) (N := 49) (ct := .no)
    [⟨1, fun a M => kfin Try.prog Try.f30.results.toList Q 1 a M, fun a M => kfin Try.prog Try.f30.results.toList Q 1 a M⟩]
    [] [1] (by kernel_rfl) (by kernel_rfl) (by kernel_rfl) (by kernel_rfl) (by kernel_rfl)
    ⟨fun _ _ _ h => h,
    trivial⟩
    (cast (by kernel_rfl) h)
def S_fettleref10_Make (x0 x1 : Value) (M : Store) (Q : Value → Store → Prop) : Prop :=
  R F.fettleref1_Bytes #[(.slice none 0 0), x0] M fun t6 M1 =>
  R F.fettleref1_Bytes #[t6, x1] M1 fun t8 M2 =>
  R F.fettleref1_Put #[(.slice none 0 0), t8] M2 fun t9 M3 =>
  NTs [t9] ∧ Q t9 M3
theorem T_fettleref10_Make {x0 x1 : Value} {M : Store} {Q : Value → Store → Prop} (h : S_fettleref10_Make x0 x1 M Q) : R F.fettleref10_Make #[x0, x1] M Q := by
  refine runs_of (c := bodyOf Try.f31) Try.func31 rfl (by kernel_rfl) (by kernel_rfl) ?_
  unfold At
  exact rule (B := 1000) (N := 10) (ct := .no)
    [⟨1, fun a M => kfin Try.prog Try.f31.results.toList Q 1 a M, fun a M => kfin Try.prog Try.f31.results.toList Q 1 a M⟩]
    [] [1] (by kernel_rfl) (by kernel_rfl) (by kernel_rfl) (by kernel_rfl) (by kernel_rfl)
    ⟨fun _ _ _ h => h,
    trivial⟩
    (cast (by kernel_rfl) h)
def S_fettleref10_Open (x0 : Value) (M : Store) (Q : Value → Store → Prop) : Prop :=
  R F.fettleref10_whole #[x0] M fun t12 M1 =>
  OP (tup t12 0) fun t13 =>
  OP (tup t12 1) fun t14 =>
  OP (bldS #[(.slice none 0 0), (.bool false)] [(0, 1), (1, 1)] [(0, t13)]) fun t16 =>
  OP (boxv t16) fun c =>
  LT (.pointer (some ⟨M1.n, 0, none⟩)) (M1.push (some (.inl (c, Ty.fettleref1_Reader, true)))) fun t17 M2 =>
  R F.fettleref1_Reader_Bytes #[t17, (.int .i64 4000)] M2 fun t19 M3 =>
  R F.fettleref1_Reader_Bytes #[t17, (.int .i64 256)] M3 fun t21 M4 =>
  OP (aun .not t14) fun t23 =>
  BR t23 (
  NTs [(.slice none 0 0), (.slice none 0 0), (.bool false)] ∧ Q (.tuple #[(.slice none 0 0), (.slice none 0 0), (.bool false)]) M4
  ) (
  R F.fettleref1_Reader_End #[t17] M4 fun t26 M5 =>
  OP (aun .not t26) fun t27 =>
  BR t27 (
  NTs [(.slice none 0 0), (.slice none 0 0), (.bool false)] ∧ Q (.tuple #[(.slice none 0 0), (.slice none 0 0), (.bool false)]) M5
  ) (
  NTs [t19, t21, (.bool true)] ∧ Q (.tuple #[t19, t21, (.bool true)]) M5
  )
  )
theorem T_fettleref10_Open {x0 : Value} {M : Store} {Q : Value → Store → Prop} (h : S_fettleref10_Open x0 M Q) : R F.fettleref10_Open #[x0] M Q := by
  refine runs_of (c := bodyOf Try.f32) Try.func32 rfl (by kernel_rfl) (by kernel_rfl) ?_
  unfold At
  exact rule (B := 1000) (N := 31) (ct := .no)
    [⟨1, fun a M => kfin Try.prog Try.f32.results.toList Q 1 a M, fun a M => kfin Try.prog Try.f32.results.toList Q 1 a M⟩]
    [] [1] (by kernel_rfl) (by kernel_rfl) (by kernel_rfl) (by kernel_rfl) (by kernel_rfl)
    ⟨fun _ _ _ h => h,
    trivial⟩
    (cast (by kernel_rfl) h)
def S_code_Reader_End (x0 : Value) (M : Store) (Q : Value → Store → Prop) : Prop :=
  OP (nilc x0) fun t4 =>
  OP (fad 1 t4) fun t5 =>
  OP (ld 1 false t5 M) fun t6 =>
  OP (aun .not t6) fun t7 =>
  BR t7 (
  OP (nilc x0) fun t10 =>
  OP (fad 0 t10) fun t11 =>
  OP (ld 1 false t11 M) fun t12 =>
  OP (lenV t12) fun t13 =>
  OP (binI .eql t13 (.int .i64 0)) fun t14 =>
  NTs [t14] ∧ Q t14 M
  ) (
  NTs [(.bool false)] ∧ Q (.bool false) M
  )
theorem T_code_Reader_End {x0 : Value} {M : Store} {Q : Value → Store → Prop} (h : S_code_Reader_End x0 M Q) : R F.code_Reader_End #[x0] M Q := by
  refine runs_of (c := bodyOf Try.f82) Try.func82 rfl (by kernel_rfl) (by kernel_rfl) ?_
  unfold At
  exact rule (B := 1000) (N := 16) (ct := .no)
    [⟨1, fun a M => kfin Try.prog Try.f82.results.toList Q 1 a M, fun a M => kfin Try.prog Try.f82.results.toList Q 1 a M⟩]
    [] [1] (by kernel_rfl) (by kernel_rfl) (by kernel_rfl) (by kernel_rfl) (by kernel_rfl)
    ⟨fun _ _ _ h => h,
    trivial⟩
    (cast (by kernel_rfl) h)
def S_fettleref10_whole (x0 : Value) (M : Store) (Q : Value → Store → Prop) : Prop :=
  R F.fettleref1_Scan #[x0] M fun t8 M1 =>
  OP (tup t8 0) fun t9 =>
  OP (tup t8 1) fun t10 =>
  OP (lenV t9) fun t12 =>
  OP (binI .neq t12 (.int .i64 1)) fun t13 =>
  BR t13 (
  NTs [(.slice none 0 0), (.bool false)] ∧ Q (.tuple #[(.slice none 0 0), (.bool false)]) M1
  ) (
  OP (lenV x0) fun t17 =>
  OP (binI .neq t10 t17) fun t18 =>
  BR t18 (
  NTs [(.slice none 0 0), (.bool false)] ∧ Q (.tuple #[(.slice none 0 0), (.bool false)]) M1
  ) (
  OP (ixA 1 t9 (.int .i64 0)) fun t21 =>
  OP (ld 1 false t21 M1) fun t22 =>
  NTs [t22, (.bool true)] ∧ Q (.tuple #[t22, (.bool true)]) M1
  )
  )
theorem T_fettleref10_whole {x0 : Value} {M : Store} {Q : Value → Store → Prop} (h : S_fettleref10_whole x0 M Q) : R F.fettleref10_whole #[x0] M Q := by
  refine runs_of (c := bodyOf Try.f83) Try.func83 rfl (by kernel_rfl) (by kernel_rfl) ?_
  unfold At
  exact rule (B := 1000) (N := 23) (ct := .no)
    [⟨1, fun a M => kfin Try.prog Try.f83.results.toList Q 1 a M, fun a M => kfin Try.prog Try.f83.results.toList Q 1 a M⟩]
    [] [1] (by kernel_rfl) (by kernel_rfl) (by kernel_rfl) (by kernel_rfl) (by kernel_rfl)
    ⟨fun _ _ _ h => h,
    trivial⟩
    (cast (by kernel_rfl) h)
def S_fettleref1_Reader_End (x0 : Value) (M : Store) (Q : Value → Store → Prop) : Prop :=
  OP (nilc x0) fun t4 =>
  OP (fad 1 t4) fun t5 =>
  OP (ld 1 false t5 M) fun t6 =>
  OP (aun .not t6) fun t7 =>
  BR t7 (
  OP (nilc x0) fun t10 =>
  OP (fad 0 t10) fun t11 =>
  OP (ld 1 false t11 M) fun t12 =>
  OP (lenV t12) fun t13 =>
  OP (binI .eql t13 (.int .i64 0)) fun t14 =>
  NTs [t14] ∧ Q t14 M
  ) (
  NTs [(.bool false)] ∧ Q (.bool false) M
  )
theorem T_fettleref1_Reader_End {x0 : Value} {M : Store} {Q : Value → Store → Prop} (h : S_fettleref1_Reader_End x0 M Q) : R F.fettleref1_Reader_End #[x0] M Q := by
  refine runs_of (c := bodyOf Try.f85) Try.func85 rfl (by kernel_rfl) (by kernel_rfl) ?_
  unfold At
  exact rule (B := 1000) (N := 16) (ct := .no)
    [⟨1, fun a M => kfin Try.prog Try.f85.results.toList Q 1 a M, fun a M => kfin Try.prog Try.f85.results.toList Q 1 a M⟩]
    [] [1] (by kernel_rfl) (by kernel_rfl) (by kernel_rfl) (by kernel_rfl) (by kernel_rfl)
    ⟨fun _ _ _ h => h,
    trivial⟩
    (cast (by kernel_rfl) h)
end Go.G
