/-  -/
import Derived.Test.YtpacolplhcfamaaPGN
open Go.RowKit
namespace Go.G
open Go.Ab Go.Proofs
set_option linter.unusedVariables false
set_option maxRecDepth 100000
def P_fettlelaw15_SourOwn_1 (x0 x1 x5 x7 x8 : Value) (M : Store) (Q : Value → Store → Prop) : Prop :=
  ∀ f : Nat → Value, f 0 = x0 → f 1 = x1 → f 5 = x5 → f 7 = x7 → f 8 = x8 → At Try.prog Ex none Try.f8 [1, 1, 1, 1, 1, 1, 1, 1, 1, 1, 0, 1, 0] ⟨⟨110, f⟩, []⟩ M Q
def P_fettlelaw15_SourOwn_2 (x0 x1 x7 : Value) (M : Store) (Q : Value → Store → Prop) : Prop :=
  ∀ f : Nat → Value, f 0 = x0 → f 1 = x1 → f 7 = x7 → At Try.prog Ex none Try.f8 [1, 1, 1, 1, 1, 1, 1, 1, 1, 1, 1] ⟨⟨110, f⟩, []⟩ M Q
def P_fettlelaw15_SourOwn_3 (x0 x1 x7 x10 x55 x56 x57 : Value) (M : Store) (Q : Value → Store → Prop) : Prop :=
  ∀ f : Nat → Value, f 0 = x0 → f 1 = x1 → f 7 = x7 → f 10 = x10 → f 55 = x55 → f 56 = x56 → f 57 = x57 → At Try.prog Ex none Try.f8 [1, 1, 1, 1, 1, 1, 1, 1, 1, 1, 1, 1, 0, 1, 0] ⟨⟨110, f⟩, []⟩ M Q
def P_fettlelaw15_SourOwn_4 (x0 x1 x7 x10 x12 x55 x56 x57 x62 x63 : Value) (M : Store) (Q : Value → Store → Prop) : Prop :=
  ∀ f : Nat → Value, f 0 = x0 → f 1 = x1 → f 7 = x7 → f 10 = x10 → f 12 = x12 → f 55 = x55 → f 56 = x56 → f 57 = x57 → f 62 = x62 → f 63 = x63 → At Try.prog Ex none Try.f8 [1, 1, 1, 1, 1, 1, 1, 1, 1, 1, 1, 1, 0, 1, 0, 0, 1, 1, 0, 0, 1, 1, 0] ⟨⟨110, f⟩, []⟩ M Q
def P_fettlelaw15_SourOwn_5 (x0 x1 x7 x10 : Value) (M : Store) (Q : Value → Store → Prop) : Prop :=
  ∀ f : Nat → Value, f 0 = x0 → f 1 = x1 → f 7 = x7 → f 10 = x10 → At Try.prog Ex none Try.f8 [1, 1, 1, 1, 1, 1, 1, 1, 1, 1, 1, 1, 1] ⟨⟨110, f⟩, []⟩ M Q
def P_fettlelaw15_SourOwn_6 (x0 x1 x7 x10 x55 x56 x57 : Value) (M : Store) (Q : Value → Store → Prop) : Prop :=
  ∀ f : Nat → Value, f 0 = x0 → f 1 = x1 → f 7 = x7 → f 10 = x10 → f 55 = x55 → f 56 = x56 → f 57 = x57 → At Try.prog Ex none Try.f8 [1, 1, 1, 1, 1, 1, 1, 1, 1, 1, 1, 1, 0, 1, 0, 0, 1, 1, 1] ⟨⟨110, f⟩, []⟩ M Q
def P_fettlelaw15_SourOwn_7 (x0 x1 x7 x10 x14 x77 x78 : Value) (M : Store) (Q : Value → Store → Prop) : Prop :=
  ∀ f : Nat → Value, f 0 = x0 → f 1 = x1 → f 7 = x7 → f 10 = x10 → f 14 = x14 → f 77 = x77 → f 78 = x78 → At Try.prog Ex none Try.f8 [1, 1, 1, 1, 1, 1, 1, 1, 1, 1, 1, 1, 1, 1, 0, 1, 0] ⟨⟨110, f⟩, []⟩ M Q
def P_fettlelaw15_SourOwn_8 (x0 x1 x7 x10 : Value) (M : Store) (Q : Value → Store → Prop) : Prop :=
  ∀ f : Nat → Value, f 0 = x0 → f 1 = x1 → f 7 = x7 → f 10 = x10 → At Try.prog Ex none Try.f8 [1, 1, 1, 1, 1, 1, 1, 1, 1, 1, 1, 1, 1, 1, 1] ⟨⟨110, f⟩, []⟩ M Q
def S_fettlelaw15_SourOwn (x0 x1 : Value) (M : Store) (Q : Value → Store → Prop) : Prop :=
  OP (lenV x0) fun t19 =>
  OP (binI .gtr t19 (.int .i64 256)) fun t20 =>
  BR t20 (
  R F.fettlelaw15_awake #[] M fun t26 M1 =>
  NTs [t26] ∧ Q t26 M1
  ) (
  OP (lenV x1) fun t23 =>
  OP (binI .gtr t23 (.int .i64 256)) fun t24 =>
  BR t24 (
  R F.fettlelaw15_awake #[] M fun t26_1 M2 =>
  NTs [t26_1] ∧ Q t26_1 M2
  ) (
  R F.simf_New #[(.int .i64 10000)] M fun t27 M3 =>
  OP (abin Try.prog true .eql Ty.p_simf_FS t27 (.pointer none)) fun t29 =>
  BR t29 (
  NTs [(.bool false)] ∧ Q (.bool false) M3
  ) (
  R F.simf_FS_Put #[t27, (.string ⟨#[115]⟩), x0] M3 fun t32 M4 =>
  R F.simf_FS_Put #[t27, (.string ⟨#[116]⟩), x1] M4 fun t35 M5 =>
  OP (bldL (.string ⟨#[]⟩) 1 2 [(0, (.string ⟨#[115]⟩)), (1, (.string ⟨#[116]⟩))]) fun c =>
  LT (.slice (some ⟨M5.n, 0, none⟩) 2 2) (M5.push (some (.inl (c, Ty.string, true)))) fun t36 M6 =>
  R F.sour_New #[t36, (.func (.func F.fettlelaw15_made) #[] #[])] M6 fun t38 M7 =>
  OP (abin Try.prog true .eql Ty.p_sour_Read t38 (.pointer none)) fun t40 =>
  BR t40 (
  NTs [(.bool false)] ∧ Q (.bool false) M7
  ) (
  OP (ixA 1 t36 (.int .i64 0)) fun t42 =>
  OP (st 1 t42 (.string ⟨#[122, 122]⟩) M7) fun M8 =>
  P_fettlelaw15_SourOwn_1 x0 x1 t27 t38 (.int .i64 0) M8 Q
  )
  )
  )
  )
theorem T_fettlelaw15_SourOwn {x0 x1 : Value} {M : Store} {Q : Value → Store → Prop} (h : S_fettlelaw15_SourOwn x0 x1 M Q) : R F.fettlelaw15_SourOwn #[x0, x1] M Q := by
  refine runs_of (c := bodyOf Try.f8) Try.func8 rfl (by kernel_rfl) (by kernel_rfl) ?_
  unfold At
  exact rule (B := 1000) (N := 110) (ct := (.two .no (.two .no (.two .no (.two .no (.two .no (.two .no (.two .no (.two .no (.two .no (.two .no (.two (.two .no (.two (.here 1000) .no)) (.here 1001)))))))))))))
    [⟨1002, fun a M => dfr a.defers (P_fettlelaw15_SourOwn_1 (a.get 0) (a.get 1) (a.get 5) (a.get 7) (a.get 8) M Q), fun a M => At Try.prog Ex none Try.f8 [1, 1, 1, 1, 1, 1, 1, 1, 1, 1, 0, 1, 0] a M Q⟩,
    ⟨1003, fun _ _ => False, fun a M => At Try.prog Ex none Try.f8 [1, 1, 1, 1, 1, 1, 1, 1, 1, 1, 1] a M Q⟩,
    ⟨1, fun a M => kfin Try.prog Try.f8.results.toList Q 1 a M, fun a M => kfin Try.prog Try.f8.results.toList Q 1 a M⟩]
    [1000, 1001] [1] (by kernel_rfl) (by kernel_rfl) (by kernel_rfl) (by kernel_rfl) (by kernel_rfl)
    ⟨fun a M hn h => by obtain ⟨⟨n, f⟩, ds⟩ := a; have hn : n = 110 := hn; subst hn; obtain ⟨hd, h⟩ := dfr_iff h; have hd : ds = [] := hd; subst hd; exact h f rfl rfl rfl rfl rfl,
    fun _ _ _ h => h.elim,
    fun _ _ _ h => h,
    trivial⟩
    (cast (by kernel_rfl) h)
def S_fettlelaw15_SourOwn_1 (x0 x1 x5 x7 x8 : Value) (M : Store) (Q : Value → Store → Prop) : Prop :=
  OP (binI .lss x8 (.int .i64 8)) fun t44 =>
  BR t44 (
  R F.sour_Read_Step #[x7, x5] M fun t49 M1 =>
  OP (binI .add x8 (.int .i64 1)) fun t46 =>
  P_fettlelaw15_SourOwn_1 x0 x1 x5 x7 t46 M1 Q
  ) (
  P_fettlelaw15_SourOwn_2 x0 x1 x7 M Q
  )
theorem T_fettlelaw15_SourOwn_1 {x0 x1 x5 x7 x8 : Value} {M : Store} {Q : Value → Store → Prop} (h : S_fettlelaw15_SourOwn_1 x0 x1 x5 x7 x8 M Q) : P_fettlelaw15_SourOwn_1 x0 x1 x5 x7 x8 M Q := by
  intro f h0 h1 h5 h7 h8; subst h0; subst h1; subst h5; subst h7; subst h8
  unfold At
  refine cast (by kernel_rfl) (CW.loop (P := Try.prog) (E := Ex) (rd := none) (x := sub (bodyOf Try.f8) [1, 1, 1, 1, 1, 1, 1, 1, 1, 1, 0, 1, 0, 0]) (a := ⟨⟨110, f⟩, []⟩) (M := M) (K := kcont Try.prog Ex none (bodyOf Try.f8) [1, 1, 1, 1, 1, 1, 1, 1, 1, 1, 0, 1, 0] (kfin Try.prog Try.f8.results.toList Q)) ?_)
  exact rule (B := 1000) (N := 110) (ct := .no)
    [⟨0, fun a M => dfr a.defers (P_fettlelaw15_SourOwn_1 (a.get 0) (a.get 1) (a.get 5) (a.get 7) (a.get 8) M Q), fun a M => At Try.prog Ex none Try.f8 [1, 1, 1, 1, 1, 1, 1, 1, 1, 1, 0, 1, 0] a M Q⟩,
    ⟨2, fun a M => dfr a.defers (P_fettlelaw15_SourOwn_2 (a.get 0) (a.get 1) (a.get 7) M Q), fun a M => At Try.prog Ex none Try.f8 [1, 1, 1, 1, 1, 1, 1, 1, 1, 1, 1] a M Q⟩]
    [] [0, 2] (by kernel_rfl) (by kernel_rfl) (by kernel_rfl) (by kernel_rfl) (by kernel_rfl)
    ⟨fun a M hn h => by obtain ⟨⟨n, f⟩, ds⟩ := a; have hn : n = 110 := hn; subst hn; obtain ⟨hd, h⟩ := dfr_iff h; have hd : ds = [] := hd; subst hd; exact h f rfl rfl rfl rfl rfl,
    fun a M hn h => by obtain ⟨⟨n, f⟩, ds⟩ := a; have hn : n = 110 := hn; subst hn; obtain ⟨hd, h⟩ := dfr_iff h; have hd : ds = [] := hd; subst hd; exact h f rfl rfl rfl,
    trivial⟩
    (cast (by kernel_rfl) h)
def S_fettlelaw15_SourOwn_2 (x0 x1 x7 : Value) (M : Store) (Q : Value → Store → Prop) : Prop :=
  R F.sour_Read_Values #[x7] M fun t52 M1 =>
  OP (tup t52 0) fun t53 =>
  OP (tup t52 1) fun t54 =>
  OP (lenV t53) fun t56 =>
  P_fettlelaw15_SourOwn_3 x0 x1 x7 t54 t53 t56 (.int .i64 0) M1 Q
theorem T_fettlelaw15_SourOwn_2 {x0 x1 x7 : Value} {M : Store} {Q : Value → Store → Prop} (h : S_fettlelaw15_SourOwn_2 x0 x1 x7 M Q) : P_fettlelaw15_SourOwn_2 x0 x1 x7 M Q := by
  intro f h0 h1 h7; subst h0; subst h1; subst h7
  unfold At
  exact rule (B := 1000) (N := 110) (ct := (.two .no (.two (.two .no (.two (.here 1000) .no)) (.here 1001))))
    [⟨1002, fun a M => dfr a.defers (P_fettlelaw15_SourOwn_3 (a.get 0) (a.get 1) (a.get 7) (a.get 10) (a.get 55) (a.get 56) (a.get 57) M Q), fun a M => At Try.prog Ex none Try.f8 [1, 1, 1, 1, 1, 1, 1, 1, 1, 1, 1, 1, 0, 1, 0] a M Q⟩,
    ⟨1003, fun _ _ => False, fun a M => At Try.prog Ex none Try.f8 [1, 1, 1, 1, 1, 1, 1, 1, 1, 1, 1, 1, 1] a M Q⟩]
    [1000, 1001] [] (by kernel_rfl) (by kernel_rfl) (by kernel_rfl) (by kernel_rfl) (by kernel_rfl)
    ⟨fun a M hn h => by obtain ⟨⟨n, f⟩, ds⟩ := a; have hn : n = 110 := hn; subst hn; obtain ⟨hd, h⟩ := dfr_iff h; have hd : ds = [] := hd; subst hd; exact h f rfl rfl rfl rfl rfl rfl rfl,
    fun _ _ _ h => h.elim,
    trivial⟩
    (cast (by kernel_rfl) h)
def S_fettlelaw15_SourOwn_3 (x0 x1 x7 x10 x55 x56 x57 : Value) (M : Store) (Q : Value → Store → Prop) : Prop :=
  OP (binI .lss x57 x56) fun t58 =>
  BR t58 (
  OP (ixA 1 x55 x57) fun t59 =>
  OP (ld 1 false t59 M) fun t60 =>
  OP (lenV t60) fun t62 =>
  P_fettlelaw15_SourOwn_4 x0 x1 x7 x10 t60 x55 x56 x57 t62 (.int .i64 0) M Q
  ) (
  P_fettlelaw15_SourOwn_5 x0 x1 x7 x10 M Q
  )
theorem T_fettlelaw15_SourOwn_3 {x0 x1 x7 x10 x55 x56 x57 : Value} {M : Store} {Q : Value → Store → Prop} (h : S_fettlelaw15_SourOwn_3 x0 x1 x7 x10 x55 x56 x57 M Q) : P_fettlelaw15_SourOwn_3 x0 x1 x7 x10 x55 x56 x57 M Q := by
  intro f h0 h1 h7 h10 h55 h56 h57; subst h0; subst h1; subst h7; subst h10; subst h55; subst h56; subst h57
  unfold At
  refine cast (by kernel_rfl) (CW.loop (P := Try.prog) (E := Ex) (rd := none) (x := sub (bodyOf Try.f8) [1, 1, 1, 1, 1, 1, 1, 1, 1, 1, 1, 1, 0, 1, 0, 0]) (a := ⟨⟨110, f⟩, []⟩) (M := M) (K := kcont Try.prog Ex none (bodyOf Try.f8) [1, 1, 1, 1, 1, 1, 1, 1, 1, 1, 1, 1, 0, 1, 0] (kfin Try.prog Try.f8.results.toList Q)) ?_)
  exact rule (B := 1000) (N := 110) (ct := (.two .no (.two .no (.two (.two (.two .no (.two .no (.two (.here 1000) .no))) .no) (.here 1001)))))
    [⟨1002, fun a M => dfr a.defers (P_fettlelaw15_SourOwn_4 (a.get 0) (a.get 1) (a.get 7) (a.get 10) (a.get 12) (a.get 55) (a.get 56) (a.get 57) (a.get 62) (a.get 63) M Q), fun a M => At Try.prog Ex none Try.f8 [1, 1, 1, 1, 1, 1, 1, 1, 1, 1, 1, 1, 0, 1, 0, 0, 1, 1, 0, 0, 1, 1, 0] a M Q⟩,
    ⟨1003, fun _ _ => False, fun a M => At Try.prog Ex none Try.f8 [1, 1, 1, 1, 1, 1, 1, 1, 1, 1, 1, 1, 0, 1, 0, 0, 1, 1, 1] a M Q⟩,
    ⟨4, fun a M => dfr a.defers (P_fettlelaw15_SourOwn_5 (a.get 0) (a.get 1) (a.get 7) (a.get 10) M Q), fun a M => At Try.prog Ex none Try.f8 [1, 1, 1, 1, 1, 1, 1, 1, 1, 1, 1, 1, 1] a M Q⟩]
    [1000, 1001] [4] (by kernel_rfl) (by kernel_rfl) (by kernel_rfl) (by kernel_rfl) (by kernel_rfl)
    ⟨fun a M hn h => by obtain ⟨⟨n, f⟩, ds⟩ := a; have hn : n = 110 := hn; subst hn; obtain ⟨hd, h⟩ := dfr_iff h; have hd : ds = [] := hd; subst hd; exact h f rfl rfl rfl rfl rfl rfl rfl rfl rfl rfl,
    fun _ _ _ h => h.elim,
    fun a M hn h => by obtain ⟨⟨n, f⟩, ds⟩ := a; have hn : n = 110 := hn; subst hn; obtain ⟨hd, h⟩ := dfr_iff h; have hd : ds = [] := hd; subst hd; exact h f rfl rfl rfl rfl,
    trivial⟩
    (cast (by kernel_rfl) h)
def S_fettlelaw15_SourOwn_4 (x0 x1 x7 x10 x12 x55 x56 x57 x62 x63 : Value) (M : Store) (Q : Value → Store → Prop) : Prop :=
  OP (binI .lss x63 x62) fun t64 =>
  BR t64 (
  OP (ixA 1 x12 x63) fun t68 =>
  OP (ld 1 false t68 M) fun t69 =>
  OP (binI .add t69 (.int .u8 1)) fun t70 =>
  OP (ixA 1 x12 x63) fun t71 =>
  OP (st 1 t71 t70 M) fun M1 =>
  OP (binI .add x63 (.int .i64 1)) fun t72 =>
  P_fettlelaw15_SourOwn_4 x0 x1 x7 x10 x12 x55 x56 x57 x62 t72 M1 Q
  ) (
  P_fettlelaw15_SourOwn_6 x0 x1 x7 x10 x55 x56 x57 M Q
  )
theorem T_fettlelaw15_SourOwn_4 {x0 x1 x7 x10 x12 x55 x56 x57 x62 x63 : Value} {M : Store} {Q : Value → Store → Prop} (h : S_fettlelaw15_SourOwn_4 x0 x1 x7 x10 x12 x55 x56 x57 x62 x63 M Q) : P_fettlelaw15_SourOwn_4 x0 x1 x7 x10 x12 x55 x56 x57 x62 x63 M Q := by
  intro f h0 h1 h7 h10 h12 h55 h56 h57 h62 h63; subst h0; subst h1; subst h7; subst h10; subst h12; subst h55; subst h56; subst h57; subst h62; subst h63
  unfold At
  refine cast (by kernel_rfl) (CW.loop (P := Try.prog) (E := Ex) (rd := none) (x := sub (bodyOf Try.f8) [1, 1, 1, 1, 1, 1, 1, 1, 1, 1, 1, 1, 0, 1, 0, 0, 1, 1, 0, 0, 1, 1, 0, 0]) (a := ⟨⟨110, f⟩, []⟩) (M := M) (K := kcont Try.prog Ex none (bodyOf Try.f8) [1, 1, 1, 1, 1, 1, 1, 1, 1, 1, 1, 1, 0, 1, 0, 0, 1, 1, 0, 0, 1, 1, 0] (kfin Try.prog Try.f8.results.toList Q)) ?_)
  exact rule (B := 1000) (N := 110) (ct := .no)
    [⟨0, fun a M => dfr a.defers (P_fettlelaw15_SourOwn_4 (a.get 0) (a.get 1) (a.get 7) (a.get 10) (a.get 12) (a.get 55) (a.get 56) (a.get 57) (a.get 62) (a.get 63) M Q), fun a M => At Try.prog Ex none Try.f8 [1, 1, 1, 1, 1, 1, 1, 1, 1, 1, 1, 1, 0, 1, 0, 0, 1, 1, 0, 0, 1, 1, 0] a M Q⟩,
    ⟨6, fun a M => dfr a.defers (P_fettlelaw15_SourOwn_6 (a.get 0) (a.get 1) (a.get 7) (a.get 10) (a.get 55) (a.get 56) (a.get 57) M Q), fun a M => At Try.prog Ex none Try.f8 [1, 1, 1, 1, 1, 1, 1, 1, 1, 1, 1, 1, 0, 1, 0, 0, 1, 1, 1] a M Q⟩]
    [] [0, 6] (by kernel_rfl) (by kernel_rfl) (by kernel_rfl) (by kernel_rfl) (by kernel_rfl)
    ⟨fun a M hn h => by obtain ⟨⟨n, f⟩, ds⟩ := a; have hn : n = 110 := hn; subst hn; obtain ⟨hd, h⟩ := dfr_iff h; have hd : ds = [] := hd; subst hd; exact h f rfl rfl rfl rfl rfl rfl rfl rfl rfl rfl,
    fun a M hn h => by obtain ⟨⟨n, f⟩, ds⟩ := a; have hn : n = 110 := hn; subst hn; obtain ⟨hd, h⟩ := dfr_iff h; have hd : ds = [] := hd; subst hd; exact h f rfl rfl rfl rfl rfl rfl rfl,
    trivial⟩
    (cast (by kernel_rfl) h)
def S_fettlelaw15_SourOwn_5 (x0 x1 x7 x10 : Value) (M : Store) (Q : Value → Store → Prop) : Prop :=
  R F.sour_Read_Stamps #[x7] M fun t75 M1 =>
  OP (lenV t75) fun t77 =>
  P_fettlelaw15_SourOwn_7 x0 x1 x7 x10 t75 t77 (.int .i64 0) M1 Q
theorem T_fettlelaw15_SourOwn_5 {x0 x1 x7 x10 : Value} {M : Store} {Q : Value → Store → Prop} (h : S_fettlelaw15_SourOwn_5 x0 x1 x7 x10 M Q) : P_fettlelaw15_SourOwn_5 x0 x1 x7 x10 M Q := by
  intro f h0 h1 h7 h10; subst h0; subst h1; subst h7; subst h10
  unfold At
  exact rule (B := 1000) (N := 110) (ct := (.two .no (.two (.two .no (.two (.here 1000) .no)) (.here 1001))))
    [⟨1002, fun a M => dfr a.defers (P_fettlelaw15_SourOwn_7 (a.get 0) (a.get 1) (a.get 7) (a.get 10) (a.get 14) (a.get 77) (a.get 78) M Q), fun a M => At Try.prog Ex none Try.f8 [1, 1, 1, 1, 1, 1, 1, 1, 1, 1, 1, 1, 1, 1, 0, 1, 0] a M Q⟩,
    ⟨1003, fun _ _ => False, fun a M => At Try.prog Ex none Try.f8 [1, 1, 1, 1, 1, 1, 1, 1, 1, 1, 1, 1, 1, 1, 1] a M Q⟩]
    [1000, 1001] [] (by kernel_rfl) (by kernel_rfl) (by kernel_rfl) (by kernel_rfl) (by kernel_rfl)
    ⟨fun a M hn h => by obtain ⟨⟨n, f⟩, ds⟩ := a; have hn : n = 110 := hn; subst hn; obtain ⟨hd, h⟩ := dfr_iff h; have hd : ds = [] := hd; subst hd; exact h f rfl rfl rfl rfl rfl rfl rfl,
    fun _ _ _ h => h.elim,
    trivial⟩
    (cast (by kernel_rfl) h)
def S_fettlelaw15_SourOwn_6 (x0 x1 x7 x10 x55 x56 x57 : Value) (M : Store) (Q : Value → Store → Prop) : Prop :=
  OP (binI .add x57 (.int .i64 1)) fun t73 =>
  P_fettlelaw15_SourOwn_3 x0 x1 x7 x10 x55 x56 t73 M Q
theorem T_fettlelaw15_SourOwn_6 {x0 x1 x7 x10 x55 x56 x57 : Value} {M : Store} {Q : Value → Store → Prop} (h : S_fettlelaw15_SourOwn_6 x0 x1 x7 x10 x55 x56 x57 M Q) : P_fettlelaw15_SourOwn_6 x0 x1 x7 x10 x55 x56 x57 M Q := by
  intro f h0 h1 h7 h10 h55 h56 h57; subst h0; subst h1; subst h7; subst h10; subst h55; subst h56; subst h57
  unfold At
  exact rule (B := 1000) (N := 110) (ct := .no)
    [⟨0, fun a M => dfr a.defers (P_fettlelaw15_SourOwn_3 (a.get 0) (a.get 1) (a.get 7) (a.get 10) (a.get 55) (a.get 56) (a.get 57) M Q), fun a M => At Try.prog Ex none Try.f8 [1, 1, 1, 1, 1, 1, 1, 1, 1, 1, 1, 1, 0, 1, 0] a M Q⟩]
    [] [0] (by kernel_rfl) (by kernel_rfl) (by kernel_rfl) (by kernel_rfl) (by kernel_rfl)
    ⟨fun a M hn h => by obtain ⟨⟨n, f⟩, ds⟩ := a; have hn : n = 110 := hn; subst hn; obtain ⟨hd, h⟩ := dfr_iff h; have hd : ds = [] := hd; subst hd; exact h f rfl rfl rfl rfl rfl rfl rfl,
    trivial⟩
    (cast (by kernel_rfl) h)
def S_fettlelaw15_SourOwn_7 (x0 x1 x7 x10 x14 x77 x78 : Value) (M : Store) (Q : Value → Store → Prop) : Prop :=
  OP (binI .lss x78 x77) fun t79 =>
  BR t79 (
  OP (ixA 1 x14 x78) fun t83 =>
  OP (st 1 t83 (.int .i64 (-1)) M) fun M1 =>
  OP (binI .add x78 (.int .i64 1)) fun t84 =>
  P_fettlelaw15_SourOwn_7 x0 x1 x7 x10 x14 x77 t84 M1 Q
  ) (
  P_fettlelaw15_SourOwn_8 x0 x1 x7 x10 M Q
  )
theorem T_fettlelaw15_SourOwn_7 {x0 x1 x7 x10 x14 x77 x78 : Value} {M : Store} {Q : Value → Store → Prop} (h : S_fettlelaw15_SourOwn_7 x0 x1 x7 x10 x14 x77 x78 M Q) : P_fettlelaw15_SourOwn_7 x0 x1 x7 x10 x14 x77 x78 M Q := by
  intro f h0 h1 h7 h10 h14 h77 h78; subst h0; subst h1; subst h7; subst h10; subst h14; subst h77; subst h78
  unfold At
  refine cast (by kernel_rfl) (CW.loop (P := Try.prog) (E := Ex) (rd := none) (x := sub (bodyOf Try.f8) [1, 1, 1, 1, 1, 1, 1, 1, 1, 1, 1, 1, 1, 1, 0, 1, 0, 0]) (a := ⟨⟨110, f⟩, []⟩) (M := M) (K := kcont Try.prog Ex none (bodyOf Try.f8) [1, 1, 1, 1, 1, 1, 1, 1, 1, 1, 1, 1, 1, 1, 0, 1, 0] (kfin Try.prog Try.f8.results.toList Q)) ?_)
  exact rule (B := 1000) (N := 110) (ct := .no)
    [⟨0, fun a M => dfr a.defers (P_fettlelaw15_SourOwn_7 (a.get 0) (a.get 1) (a.get 7) (a.get 10) (a.get 14) (a.get 77) (a.get 78) M Q), fun a M => At Try.prog Ex none Try.f8 [1, 1, 1, 1, 1, 1, 1, 1, 1, 1, 1, 1, 1, 1, 0, 1, 0] a M Q⟩,
    ⟨8, fun a M => dfr a.defers (P_fettlelaw15_SourOwn_8 (a.get 0) (a.get 1) (a.get 7) (a.get 10) M Q), fun a M => At Try.prog Ex none Try.f8 [1, 1, 1, 1, 1, 1, 1, 1, 1, 1, 1, 1, 1, 1, 1] a M Q⟩]
    [] [0, 8] (by kernel_rfl) (by kernel_rfl) (by kernel_rfl) (by kernel_rfl) (by kernel_rfl)
    ⟨fun a M hn h => by obtain ⟨⟨n, f⟩, ds⟩ := a; have hn : n = 110 := hn; subst hn; obtain ⟨hd, h⟩ := dfr_iff h; have hd : ds = [] := hd; subst hd; exact h f rfl rfl rfl rfl rfl rfl rfl,
    fun a M hn h => by obtain ⟨⟨n, f⟩, ds⟩ := a; have hn : n = 110 := hn; subst hn; obtain ⟨hd, h⟩ := dfr_iff h; have hd : ds = [] := hd; subst hd; exact h f rfl rfl rfl rfl,
    trivial⟩
    (cast (by kernel_rfl) h)
def S_fettlelaw15_SourOwn_8 (x0 x1 x7 x10 : Value) (M : Store) (Q : Value → Store → Prop) : Prop :=
  R F.sour_Read_Values #[x7] M fun t87 M1 =>
  OP (tup t87 0) fun t88 =>
  OP (tup t87 1) fun t89 =>
  BR x10 (
  BR t89 (
  OP (bldL (.slice none 0 0) 1 2 [(0, x0), (1, x1)]) fun c =>
  LT (.slice (some ⟨M1.n, 0, none⟩) 2 2) (M1.push (some (.inl (c, Ty.sl_uint8, true)))) fun t98 M2 =>
  R F.fettleref1_SameRows #[t88, t98] M2 fun t99 M3 =>
  BR t99 (
  R F.sour_Read_Stamps #[x7] M3 fun t103 M4 =>
  OP (bldL (.int .i64 0) 1 2 [(0, (.int .i64 1)), (1, (.int .i64 2))]) fun c_1 =>
  LT (.slice (some ⟨M4.n, 0, none⟩) 2 2) (M4.push (some (.inl (c_1, Ty.int, true)))) fun t104 M5 =>
  R F.fettleref1_SameInts #[t103, t104] M5 fun t105 M6 =>
  BR t105 (
  R F.fettlelaw15_awake #[] M6 fun t108 M7 =>
  NTs [t108] ∧ Q t108 M7
  ) (
  NTs [(.bool false)] ∧ Q (.bool false) M6
  )
  ) (
  NTs [(.bool false)] ∧ Q (.bool false) M3
  )
  ) (
  NTs [(.bool false)] ∧ Q (.bool false) M1
  )
  ) (
  NTs [(.bool false)] ∧ Q (.bool false) M1
  )
theorem T_fettlelaw15_SourOwn_8 {x0 x1 x7 x10 : Value} {M : Store} {Q : Value → Store → Prop} (h : S_fettlelaw15_SourOwn_8 x0 x1 x7 x10 M Q) : P_fettlelaw15_SourOwn_8 x0 x1 x7 x10 M Q := by
  intro f h0 h1 h7 h10; subst h0; subst h1; subst h7; subst h10
  unfold At
  exact rule (B := 1000) (N := 110) (ct := .no)
    [⟨1, fun a M => kfin Try.prog Try.f8.results.toList Q 1 a M, fun a M => kfin Try.prog Try.f8.results.toList Q 1 a M⟩]
    [] [1] (by kernel_rfl) (by kernel_rfl) (by kernel_rfl) (by kernel_rfl) (by kernel_rfl)
    ⟨fun _ _ _ h => h,
    trivial⟩
    (cast (by kernel_rfl) h)
end Go.G
