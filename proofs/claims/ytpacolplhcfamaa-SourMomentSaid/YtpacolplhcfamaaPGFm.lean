/-  -/
import Derived.Test.YtpacolplhcfamaaPGN
open Go.RowKit
namespace Go.G
open Go.Ab Go.Proofs
set_option linter.unusedVariables false
set_option maxRecDepth 100000
def P_fettlelaw15_SourMisses_1 (x0 x3 x4 x5 x19 x20 x21 : Value) (M : Store) (Q : Value → Store → Prop) : Prop :=
  ∀ f : Nat → Value, f 0 = x0 → f 3 = x3 → f 4 = x4 → f 5 = x5 → f 19 = x19 → f 20 = x20 → f 21 = x21 → At Try.prog Ex none Try.f10 [1, 1, 1, 1, 1, 0, 1, 0] ⟨⟨96, f⟩, []⟩ M Q
def P_fettlelaw15_SourMisses_2 (x0 x3 x4 x5 x19 x20 x21 : Value) (M : Store) (Q : Value → Store → Prop) : Prop :=
  ∀ f : Nat → Value, f 0 = x0 → f 3 = x3 → f 4 = x4 → f 5 = x5 → f 19 = x19 → f 20 = x20 → f 21 = x21 → At Try.prog Ex none Try.f10 [1, 1, 1, 1, 1, 0, 1, 0, 0, 1, 1] ⟨⟨96, f⟩, []⟩ M Q
def P_fettlelaw15_SourMisses_3 (x3 x4 x5 : Value) (M : Store) (Q : Value → Store → Prop) : Prop :=
  ∀ f : Nat → Value, f 3 = x3 → f 4 = x4 → f 5 = x5 → At Try.prog Ex none Try.f10 [1, 1, 1, 1, 1, 1] ⟨⟨96, f⟩, []⟩ M Q
def P_fettlelaw15_SourMisses_4 (x3 x5 x10 x11 x12 : Value) (M : Store) (Q : Value → Store → Prop) : Prop :=
  ∀ f : Nat → Value, f 3 = x3 → f 5 = x5 → f 10 = x10 → f 11 = x11 → f 12 = x12 → At Try.prog Ex none Try.f10 [1, 1, 1, 1, 1, 1, 1, 1, 1, 0, 1, 0] ⟨⟨96, f⟩, []⟩ M Q
def P_fettlelaw15_SourMisses_5 (x3 x5 x10 x11 : Value) (M : Store) (Q : Value → Store → Prop) : Prop :=
  ∀ f : Nat → Value, f 3 = x3 → f 5 = x5 → f 10 = x10 → f 11 = x11 → At Try.prog Ex none Try.f10 [1, 1, 1, 1, 1, 1, 1, 1, 1, 1] ⟨⟨96, f⟩, []⟩ M Q
def S_fettlelaw15_SourMisses (x0 : Value) (M : Store) (Q : Value → Store → Prop) : Prop :=
  R F.simf_New #[(.int .i64 1048576)] M fun t15 M1 =>
  OP (abin Try.prog true .eql Ty.p_simf_FS t15 (.pointer none)) fun t17 =>
  BR t17 (
  NTs [(.bool false)] ∧ Q (.bool false) M1
  ) (
  OP (bldL (.string ⟨#[]⟩) 1 4 [(0, (.string ⟨#[115]⟩)), (1, (.string ⟨#[97]⟩)), (2, (.string ⟨#[116]⟩)), (3, (.string ⟨#[98]⟩))]) fun c =>
  LT (.slice (some ⟨M1.n, 0, none⟩) 4 4) (M1.push (some (.inl (c, Ty.string, true)))) fun t18 M2 =>
  OP (lenV t18) fun t20 =>
  P_fettlelaw15_SourMisses_1 x0 t15 t18 (.int .i64 1) t18 t20 (.int .i64 0) M2 Q
  )
theorem T_fettlelaw15_SourMisses {x0 : Value} {M : Store} {Q : Value → Store → Prop} (h : S_fettlelaw15_SourMisses x0 M Q) : R F.fettlelaw15_SourMisses #[x0] M Q := by
  refine runs_of (c := bodyOf Try.f10) Try.func10 rfl (by kernel_rfl) (by kernel_rfl) ?_
  unfold At
  exact rule (B := 1000) (N := 96) (ct := (.two .no (.two .no (.two .no (.two .no (.two .no (.two (.two .no (.two (.here 1000) .no)) (.here 1001))))))))
    [⟨1002, fun a M => dfr a.defers (P_fettlelaw15_SourMisses_1 (a.get 0) (a.get 3) (a.get 4) (a.get 5) (a.get 19) (a.get 20) (a.get 21) M Q), fun a M => At Try.prog Ex none Try.f10 [1, 1, 1, 1, 1, 0, 1, 0] a M Q⟩,
    ⟨1003, fun _ _ => False, fun a M => At Try.prog Ex none Try.f10 [1, 1, 1, 1, 1, 1] a M Q⟩,
    ⟨1, fun a M => kfin Try.prog Try.f10.results.toList Q 1 a M, fun a M => kfin Try.prog Try.f10.results.toList Q 1 a M⟩]
    [1000, 1001] [1] (by kernel_rfl) (by kernel_rfl) (by kernel_rfl) (by kernel_rfl) (by kernel_rfl)
    ⟨fun a M hn h => by obtain ⟨⟨n, f⟩, ds⟩ := a; have hn : n = 96 := hn; subst hn; obtain ⟨hd, h⟩ := dfr_iff h; have hd : ds = [] := hd; subst hd; exact h f rfl rfl rfl rfl rfl rfl rfl,
    fun _ _ _ h => h.elim,
    fun _ _ _ h => h,
    trivial⟩
    (cast (by kernel_rfl) h)
def S_fettlelaw15_SourMisses_1 (x0 x3 x4 x5 x19 x20 x21 : Value) (M : Store) (Q : Value → Store → Prop) : Prop :=
  OP (binI .lss x21 x20) fun t22 =>
  BR t22 (
  P_fettlelaw15_SourMisses_2 x0 x3 x4 x5 x19 x20 x21 M Q
  ) (
  P_fettlelaw15_SourMisses_3 x3 x4 x5 M Q
  )
theorem T_fettlelaw15_SourMisses_1 {x0 x3 x4 x5 x19 x20 x21 : Value} {M : Store} {Q : Value → Store → Prop} (h : S_fettlelaw15_SourMisses_1 x0 x3 x4 x5 x19 x20 x21 M Q) : P_fettlelaw15_SourMisses_1 x0 x3 x4 x5 x19 x20 x21 M Q := by
  intro f h0 h3 h4 h5 h19 h20 h21; subst h0; subst h3; subst h4; subst h5; subst h19; subst h20; subst h21
  unfold At
  refine cast (by kernel_rfl) (CW.loop (P := Try.prog) (E := Ex) (rd := none) (x := sub (bodyOf Try.f10) [1, 1, 1, 1, 1, 0, 1, 0, 0]) (a := ⟨⟨96, f⟩, []⟩) (M := M) (K := kcont Try.prog Ex none (bodyOf Try.f10) [1, 1, 1, 1, 1, 0, 1, 0] (kfin Try.prog Try.f10.results.toList Q)) ?_)
  exact rule (B := 1000) (N := 96) (ct := (.two .no (.two .no (.here 1000))))
    [⟨1002, fun a M => dfr a.defers (P_fettlelaw15_SourMisses_2 (a.get 0) (a.get 3) (a.get 4) (a.get 5) (a.get 19) (a.get 20) (a.get 21) M Q), fun a M => At Try.prog Ex none Try.f10 [1, 1, 1, 1, 1, 0, 1, 0, 0, 1, 1] a M Q⟩,
    ⟨2, fun a M => dfr a.defers (P_fettlelaw15_SourMisses_3 (a.get 3) (a.get 4) (a.get 5) M Q), fun a M => At Try.prog Ex none Try.f10 [1, 1, 1, 1, 1, 1] a M Q⟩]
    [1000] [2] (by kernel_rfl) (by kernel_rfl) (by kernel_rfl) (by kernel_rfl) (by kernel_rfl)
    ⟨fun a M hn h => by obtain ⟨⟨n, f⟩, ds⟩ := a; have hn : n = 96 := hn; subst hn; obtain ⟨hd, h⟩ := dfr_iff h; have hd : ds = [] := hd; subst hd; exact h f rfl rfl rfl rfl rfl rfl rfl,
    fun a M hn h => by obtain ⟨⟨n, f⟩, ds⟩ := a; have hn : n = 96 := hn; subst hn; obtain ⟨hd, h⟩ := dfr_iff h; have hd : ds = [] := hd; subst hd; exact h f rfl rfl rfl,
    trivial⟩
    (cast (by kernel_rfl) h)
def S_fettlelaw15_SourMisses_2 (x0 x3 x4 x5 x19 x20 x21 : Value) (M : Store) (Q : Value → Store → Prop) : Prop :=
  OP (ixA 1 x19 x21) fun t24 =>
  OP (ld 1 false t24 M) fun t25 =>
  OP (binI .mul (.int .i64 2) x21) fun t28 =>
  OP (cvI .u64 t28) fun t29 =>
  OP (binI .shr x0 t29) fun t30 =>
  OP (binI .and t30 (.int .i64 3)) fun t31 =>
  OP (binI .eql t31 (.int .i64 0)) fun t38 =>
  BR t38 (
  R F.fettlelaw15_write #[x3, t25, (.int .i64 1)] M fun t41 M1 =>
  OP (binI .eql x5 (.int .i64 1)) fun t54 =>
  BR t54 (
  OP (binI .add x21 (.int .i64 1)) fun t56 =>
  P_fettlelaw15_SourMisses_1 x0 x3 x4 (.int .i64 1) x19 x20 t56 M1 Q
  ) (
  OP (binI .add x21 (.int .i64 1)) fun t56_1 =>
  P_fettlelaw15_SourMisses_1 x0 x3 x4 x5 x19 x20 t56_1 M1 Q
  )
  ) (
  OP (binI .eql t31 (.int .i64 1)) fun t43 =>
  BR t43 (
  OP (binI .eql x5 (.int .i64 1)) fun t54_1 =>
  BR t54_1 (
  OP (binI .add x21 (.int .i64 1)) fun t56_2 =>
  P_fettlelaw15_SourMisses_1 x0 x3 x4 (.int .i64 2) x19 x20 t56_2 M Q
  ) (
  OP (binI .add x21 (.int .i64 1)) fun t56_3 =>
  P_fettlelaw15_SourMisses_1 x0 x3 x4 x5 x19 x20 t56_3 M Q
  )
  ) (
  OP (binI .eql t31 (.int .i64 2)) fun t45 =>
  BR t45 (
  OP (bldL (.int .u8 0) 1 11 [(0, (.int .u8 110)), (1, (.int .u8 111)), (2, (.int .u8 32)), (3, (.int .u8 97)), (4, (.int .u8 114)), (5, (.int .u8 116)), (6, (.int .u8 105)), (7, (.int .u8 102)), (8, (.int .u8 97)), (9, (.int .u8 99)), (10, (.int .u8 116))]) fun c =>
  LT (.slice (some ⟨M.n, 0, none⟩) 11 11) (M.push (some (.inl (c, Ty.uint8, true)))) fun t48 M2 =>
  OP2 (cvId t48 M2) fun t49 M3 =>
  R F.simf_FS_Put #[x3, t25, t49] M3 fun t50 M4 =>
  R F.fettlelaw15_made #[t25] M4 fun t52 M5 =>
  BR t52 (
  OP (binI .eql x5 (.int .i64 1)) fun t54_2 =>
  BR t54_2 (
  OP (binI .add x21 (.int .i64 1)) fun t56_4 =>
  P_fettlelaw15_SourMisses_1 x0 x3 x4 (.int .i64 3) x19 x20 t56_4 M5 Q
  ) (
  OP (binI .add x21 (.int .i64 1)) fun t56_5 =>
  P_fettlelaw15_SourMisses_1 x0 x3 x4 x5 x19 x20 t56_5 M5 Q
  )
  ) (
  OP (binI .eql x5 (.int .i64 1)) fun t54_3 =>
  BR t54_3 (
  OP (binI .add x21 (.int .i64 1)) fun t56_6 =>
  P_fettlelaw15_SourMisses_1 x0 x3 x4 (.int .i64 1) x19 x20 t56_6 M5 Q
  ) (
  OP (binI .add x21 (.int .i64 1)) fun t56_7 =>
  P_fettlelaw15_SourMisses_1 x0 x3 x4 x5 x19 x20 t56_7 M5 Q
  )
  )
  ) (
  OP2 (mkS (.int .u8 0) 1 1 Ty.uint8 (.int .i64 300) (.int .i64 300) M) fun t35 M6 =>
  R F.simf_FS_Put #[x3, t25, t35] M6 fun t36 M7 =>
  OP (binI .eql x5 (.int .i64 1)) fun t54_4 =>
  BR t54_4 (
  OP (binI .add x21 (.int .i64 1)) fun t56_8 =>
  P_fettlelaw15_SourMisses_1 x0 x3 x4 (.int .i64 3) x19 x20 t56_8 M7 Q
  ) (
  OP (binI .add x21 (.int .i64 1)) fun t56_9 =>
  P_fettlelaw15_SourMisses_1 x0 x3 x4 x5 x19 x20 t56_9 M7 Q
  )
  )
  )
  )
theorem T_fettlelaw15_SourMisses_2 {x0 x3 x4 x5 x19 x20 x21 : Value} {M : Store} {Q : Value → Store → Prop} (h : S_fettlelaw15_SourMisses_2 x0 x3 x4 x5 x19 x20 x21 M Q) : P_fettlelaw15_SourMisses_2 x0 x3 x4 x5 x19 x20 x21 M Q := by
  intro f h0 h3 h4 h5 h19 h20 h21; subst h0; subst h3; subst h4; subst h5; subst h19; subst h20; subst h21
  unfold At
  exact rule (B := 1000) (N := 96) (ct := .no)
    [⟨0, fun a M => dfr a.defers (P_fettlelaw15_SourMisses_1 (a.get 0) (a.get 3) (a.get 4) (a.get 5) (a.get 19) (a.get 20) (a.get 21) M Q), fun a M => At Try.prog Ex none Try.f10 [1, 1, 1, 1, 1, 0, 1, 0] a M Q⟩]
    [] [0] (by kernel_rfl) (by kernel_rfl) (by kernel_rfl) (by kernel_rfl) (by kernel_rfl)
    ⟨fun a M hn h => by obtain ⟨⟨n, f⟩, ds⟩ := a; have hn : n = 96 := hn; subst hn; obtain ⟨hd, h⟩ := dfr_iff h; have hd : ds = [] := hd; subst hd; exact h f rfl rfl rfl rfl rfl rfl rfl,
    trivial⟩
    (cast (by kernel_rfl) h)
def S_fettlelaw15_SourMisses_3 (x3 x4 x5 : Value) (M : Store) (Q : Value → Store → Prop) : Prop :=
  R F.sour_New #[x4, (.func (.func F.fettlelaw15_made) #[] #[])] M fun t58 M1 =>
  OP (abin Try.prog true .eql Ty.p_sour_Read t58 (.pointer none)) fun t60 =>
  BR t60 (
  NTs [(.bool false)] ∧ Q (.bool false) M1
  ) (
  P_fettlelaw15_SourMisses_4 x3 x5 t58 (.int .i64 0) (.int .i64 0) M1 Q
  )
theorem T_fettlelaw15_SourMisses_3 {x3 x4 x5 : Value} {M : Store} {Q : Value → Store → Prop} (h : S_fettlelaw15_SourMisses_3 x3 x4 x5 M Q) : P_fettlelaw15_SourMisses_3 x3 x4 x5 M Q := by
  intro f h3 h4 h5; subst h3; subst h4; subst h5
  unfold At
  exact rule (B := 1000) (N := 96) (ct := (.two .no (.two .no (.two .no (.two (.two .no (.two (.here 1000) .no)) (.here 1001))))))
    [⟨1002, fun a M => dfr a.defers (P_fettlelaw15_SourMisses_4 (a.get 3) (a.get 5) (a.get 10) (a.get 11) (a.get 12) M Q), fun a M => At Try.prog Ex none Try.f10 [1, 1, 1, 1, 1, 1, 1, 1, 1, 0, 1, 0] a M Q⟩,
    ⟨1003, fun _ _ => False, fun a M => At Try.prog Ex none Try.f10 [1, 1, 1, 1, 1, 1, 1, 1, 1, 1] a M Q⟩,
    ⟨1, fun a M => kfin Try.prog Try.f10.results.toList Q 1 a M, fun a M => kfin Try.prog Try.f10.results.toList Q 1 a M⟩]
    [1000, 1001] [1] (by kernel_rfl) (by kernel_rfl) (by kernel_rfl) (by kernel_rfl) (by kernel_rfl)
    ⟨fun a M hn h => by obtain ⟨⟨n, f⟩, ds⟩ := a; have hn : n = 96 := hn; subst hn; obtain ⟨hd, h⟩ := dfr_iff h; have hd : ds = [] := hd; subst hd; exact h f rfl rfl rfl rfl rfl,
    fun _ _ _ h => h.elim,
    fun _ _ _ h => h,
    trivial⟩
    (cast (by kernel_rfl) h)
def S_fettlelaw15_SourMisses_4 (x3 x5 x10 x11 x12 : Value) (M : Store) (Q : Value → Store → Prop) : Prop :=
  OP (binI .lss x12 (.int .i64 20)) fun t62 =>
  BR t62 (
  OP (binI .eql x11 (.int .i64 0)) fun t65 =>
  BR t65 (
  R F.sour_Read_Step #[x10, x3] M fun t71 M1 =>
  OP (binI .add x12 (.int .i64 1)) fun t68 =>
  P_fettlelaw15_SourMisses_4 x3 x5 x10 t71 t68 M1 Q
  ) (
  P_fettlelaw15_SourMisses_5 x3 x5 x10 x11 M Q
  )
  ) (
  P_fettlelaw15_SourMisses_5 x3 x5 x10 x11 M Q
  )
theorem T_fettlelaw15_SourMisses_4 {x3 x5 x10 x11 x12 : Value} {M : Store} {Q : Value → Store → Prop} (h : S_fettlelaw15_SourMisses_4 x3 x5 x10 x11 x12 M Q) : P_fettlelaw15_SourMisses_4 x3 x5 x10 x11 x12 M Q := by
  intro f h3 h5 h10 h11 h12; subst h3; subst h5; subst h10; subst h11; subst h12
  unfold At
  refine cast (by kernel_rfl) (CW.loop (P := Try.prog) (E := Ex) (rd := none) (x := sub (bodyOf Try.f10) [1, 1, 1, 1, 1, 1, 1, 1, 1, 0, 1, 0, 0]) (a := ⟨⟨96, f⟩, []⟩) (M := M) (K := kcont Try.prog Ex none (bodyOf Try.f10) [1, 1, 1, 1, 1, 1, 1, 1, 1, 0, 1, 0] (kfin Try.prog Try.f10.results.toList Q)) ?_)
  exact rule (B := 1000) (N := 96) (ct := .no)
    [⟨0, fun a M => dfr a.defers (P_fettlelaw15_SourMisses_4 (a.get 3) (a.get 5) (a.get 10) (a.get 11) (a.get 12) M Q), fun a M => At Try.prog Ex none Try.f10 [1, 1, 1, 1, 1, 1, 1, 1, 1, 0, 1, 0] a M Q⟩,
    ⟨5, fun a M => dfr a.defers (P_fettlelaw15_SourMisses_5 (a.get 3) (a.get 5) (a.get 10) (a.get 11) M Q), fun a M => At Try.prog Ex none Try.f10 [1, 1, 1, 1, 1, 1, 1, 1, 1, 1] a M Q⟩]
    [] [0, 5] (by kernel_rfl) (by kernel_rfl) (by kernel_rfl) (by kernel_rfl) (by kernel_rfl)
    ⟨fun a M hn h => by obtain ⟨⟨n, f⟩, ds⟩ := a; have hn : n = 96 := hn; subst hn; obtain ⟨hd, h⟩ := dfr_iff h; have hd : ds = [] := hd; subst hd; exact h f rfl rfl rfl rfl rfl,
    fun a M hn h => by obtain ⟨⟨n, f⟩, ds⟩ := a; have hn : n = 96 := hn; subst hn; obtain ⟨hd, h⟩ := dfr_iff h; have hd : ds = [] := hd; subst hd; exact h f rfl rfl rfl rfl,
    trivial⟩
    (cast (by kernel_rfl) h)
def S_fettlelaw15_SourMisses_5 (x3 x5 x10 x11 : Value) (M : Store) (Q : Value → Store → Prop) : Prop :=
  R F.sour_Read_Values #[x10] M fun t74 M1 =>
  OP (tup t74 0) fun t75 =>
  OP (tup t74 1) fun t76 =>
  OP (binI .eql x11 x5) fun t79 =>
  BR t79 (
  OP (binI .eql x5 (.int .i64 1)) fun t83 =>
  OP (abin Try.prog false .eql Ty.bool t76 t83) fun t84 =>
  BR t84 (
  R F.sour_Read_Step #[x10, x3] M1 fun t89 M2 =>
  OP (binI .eql t89 x5) fun t91 =>
  BR t91 (
  R F.fettlelaw15_awake #[] M2 fun t94 M3 =>
  NTs [t94] ∧ Q t94 M3
  ) (
  NTs [(.bool false)] ∧ Q (.bool false) M2
  )
  ) (
  NTs [(.bool false)] ∧ Q (.bool false) M1
  )
  ) (
  NTs [(.bool false)] ∧ Q (.bool false) M1
  )
theorem T_fettlelaw15_SourMisses_5 {x3 x5 x10 x11 : Value} {M : Store} {Q : Value → Store → Prop} (h : S_fettlelaw15_SourMisses_5 x3 x5 x10 x11 M Q) : P_fettlelaw15_SourMisses_5 x3 x5 x10 x11 M Q := by
  intro f h3 h5 h10 h11; subst h3; subst h5; subst h10; subst h11
  unfold At
  exact rule (B := 1000) (N := 96) (ct := .no)
    [⟨1, fun a M => kfin Try.prog Try.f10.results.toList Q 1 a M, fun a M => kfin Try.prog Try.f10.results.toList Q 1 a M⟩]
    [] [1] (by kernel_rfl) (by kernel_rfl) (by kernel_rfl) (by kernel_rfl) (by kernel_rfl)
    ⟨fun _ _ _ h => h,
    trivial⟩
    (cast (by kernel_rfl) h)
end Go.G
