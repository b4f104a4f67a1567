/-  -/
import Derived.Test.YtmdbdbjaipcgeaaPGN
open Go.RowKit
namespace Go.G
open Go.Ab Go.Proofs
set_option linter.unusedVariables false
set_option maxRecDepth 100000
def P_fettlelaw3_FramTells_1 (ds : List Deferred) (x0 x8 x9 x10 x11 : Value) (M : Store) (Q : Value → Store → Prop) : Prop :=
  ∀ f : Nat → Value, f 0 = x0 → f 8 = x8 → f 9 = x9 → f 10 = x10 → f 11 = x11 → At Try.prog Ex none Try.f3 [1, 1, 1, 1, 1, 1, 1] ⟨⟨133, f⟩, ds⟩ M Q
def P_fettlelaw3_FramTells_2 (ds : List Deferred) (x8 x69 x70 x71 : Value) (M : Store) (Q : Value → Store → Prop) : Prop :=
  ∀ f : Nat → Value, f 8 = x8 → f 69 = x69 → f 70 = x70 → f 71 = x71 → At Try.prog Ex none Try.f3 [1, 1, 1, 1, 1, 1, 1, 0, 1, 0] ⟨⟨133, f⟩, ds⟩ M Q
def P_fettlelaw3_FramTells_3 (ds : List Deferred) (x8 x69 x70 x71 : Value) (M : Store) (Q : Value → Store → Prop) : Prop :=
  ∀ f : Nat → Value, f 8 = x8 → f 69 = x69 → f 70 = x70 → f 71 = x71 → At Try.prog Ex none Try.f3 [1, 1, 1, 1, 1, 1, 1, 0, 1, 0, 0, 1, 1] ⟨⟨133, f⟩, ds⟩ M Q
def P_fettlelaw3_FramTells_4 (ds : List Deferred) (x8 : Value) (M : Store) (Q : Value → Store → Prop) : Prop :=
  ∀ f : Nat → Value, f 8 = x8 → At Try.prog Ex none Try.f3 [1, 1, 1, 1, 1, 1, 1, 1] ⟨⟨133, f⟩, ds⟩ M Q
def P_fettlelaw3_FramTells_5 (ds : List Deferred) (x8 x16 x18 x19 x69 x70 x71 x98 : Value) (M : Store) (Q : Value → Store → Prop) : Prop :=
  ∀ f : Nat → Value, f 8 = x8 → f 16 = x16 → f 18 = x18 → f 19 = x19 → f 69 = x69 → f 70 = x70 → f 71 = x71 → f 98 = x98 → At Try.prog Ex none Try.f3 [1, 1, 1, 1, 1, 1, 1, 0, 1, 0, 0, 1, 1, 0, 0, 1, 1, 1, 1, 1, 1, 1, 0, 1, 0] ⟨⟨133, f⟩, ds⟩ M Q
def P_fettlelaw3_FramTells_6 (l : Nat) (x8 x16 x18 x19 x21 x22 : Value) (M : Store) (Q : Value → Store → Prop) : Prop :=
  ∀ f : Nat → Value, f 8 = x8 → f 16 = x16 → f 18 = x18 → f 19 = x19 → f 21 = x21 → f 22 = x22 → AtY Try.prog Ex l Try.f3 [1, 1, 1, 1, 1, 1, 1, 0, 1, 0, 0, 1, 1, 0, 0, 1, 1, 1, 1, 1, 1, 1, 0, 1, 0, 1] [] ⟨⟨133, f⟩, []⟩ M Q
def P_fettlelaw3_FramTells_7 (ds : List Deferred) (x8 x16 x18 x69 x70 x71 : Value) (M : Store) (Q : Value → Store → Prop) : Prop :=
  ∀ f : Nat → Value, f 8 = x8 → f 16 = x16 → f 18 = x18 → f 69 = x69 → f 70 = x70 → f 71 = x71 → At Try.prog Ex none Try.f3 [1, 1, 1, 1, 1, 1, 1, 0, 1, 0, 0, 1, 1, 0, 0, 1, 1, 1, 1, 1, 1, 1, 1] ⟨⟨133, f⟩, ds⟩ M Q
def P_fettlelaw3_FramTells_8 (ds : List Deferred) (x8 x69 x70 x71 : Value) (M : Store) (Q : Value → Store → Prop) : Prop :=
  ∀ f : Nat → Value, f 8 = x8 → f 69 = x69 → f 70 = x70 → f 71 = x71 → At Try.prog Ex none Try.f3 [1, 1, 1, 1, 1, 1, 1, 0, 1, 0, 0, 1, 1, 1] ⟨⟨133, f⟩, ds⟩ M Q
def S_fettlelaw3_FramTells (x0 x1 x2 x3 : Value) (M : Store) (Q : Value → Store → Prop) : Prop :=
  LT (.pointer (some ⟨M.n, 0, none⟩)) (M.push (some (.inl ([(.bool false)], Ty.bool, true)))) fun t8 M1 =>
  OP (lenV x0) fun t24 =>
  OP (binI .gtr t24 (.int .i64 300)) fun t25 =>
  BR t25 (
  R F.fettlelaw3_awake #[] M1 fun t31 M2 =>
  OP (st 1 t8 t31 M2) fun M3 =>
  OP (atake [] M3) fun M4 =>
  OP (ld 1 false t8 M4) fun r8 =>
  NTs [r8] ∧ Q r8 M4
  ) (
  OP (lenV x1) fun t28 =>
  OP (binI .gtr t28 (.int .i64 12)) fun t29 =>
  BR t29 (
  R F.fettlelaw3_awake #[] M1 fun t31_1 M5 =>
  OP (st 1 t8 t31_1 M5) fun M6 =>
  OP (atake [] M6) fun M7 =>
  OP (ld 1 false t8 M7) fun r8_1 =>
  NTs [r8_1] ∧ Q r8_1 M7
  ) (
  R F.fettlelaw3_Frames #[x1] M1 fun t33 M8 =>
  R F.fram_Put #[t33, x0] M8 fun t36 M9 =>
  TDx [0, 0, 3, 7, 0, 0, 55, 119, 255] [M8.n, M8.n, M8.n] 2 M8 M9 ∧
  OP (cvBS t36 M9) fun t37 =>
  R F.fettleref1_Put #[t33, x0] M9 fun t40 M10 =>
  TDj [4, 5] [M8.n, M8.n, M8.n, M9.n, M9.n, M9.n, M9.n] M9 M10 ∧
  OP (cvBS t40 M10) fun t41 =>
  OP (binS .neq t37 t41) fun t42 =>
  BR t42 (
  OP (st 1 t8 (.bool false) M10) fun M11 =>
  OP (atake [] M11) fun M12 =>
  OP (ld 1 false t8 M12) fun r8_2 =>
  NTs [r8_2] ∧ Q r8_2 M12
  ) (
  OP (bldL (.int .u8 0) 1 0 []) fun c =>
  LT (.slice (some ⟨M10.n, 0, none⟩) 0 0) (M10.push (some (.inl (c, Ty.uint8, true)))) fun t43 M13 =>
  OP2 (appV 1 Ty.uint8 t43 t33 M13) fun t45 M14 =>
  OP (lenV t45) fun t47 =>
  OP (binI .gtr t47 (.int .i64 0)) fun t48 =>
  BR t48 (
  OP (binI .and x2 (.int .i64 65535)) fun t50 =>
  OP (lenV t45) fun t52 =>
  OP (binI .rem t50 t52) fun t53 =>
  OP (ixA 1 t45 t53) fun t57 =>
  OP (st 1 t57 x3 M14) fun M15 =>
  P_fettlelaw3_FramTells_1 [] x0 t8 t33 t45 t53 M15 Q
  ) (
  P_fettlelaw3_FramTells_1 [] x0 t8 t33 t45 (.int .i64 0) M14 Q
  )
  )
  )
  )
theorem T_fettlelaw3_FramTells {x0 x1 x2 x3 : Value} {M : Store} {Q : Value → Store → Prop} (h : S_fettlelaw3_FramTells x0 x1 x2 x3 M Q) : R F.fettlelaw3_FramTells #[x0, x1, x2, x3] M Q := by
  refine runs_of (c := bodyOf Try.f3) Try.func3 rfl (by kernel_rfl) (by kernel_rfl) ?_
  unfold At
  exact rule (B := 1000) (N := 133) (ct := (.two .no (.two .no (.two .no (.two .no (.two .no (.two .no (.two .no (.here 1000)))))))))
    [⟨1002, fun a M => P_fettlelaw3_FramTells_1 a.defers (a.get 0) (a.get 8) (a.get 9) (a.get 10) (a.get 11) M Q, fun a M => At Try.prog Ex none Try.f3 [1, 1, 1, 1, 1, 1, 1] a M Q⟩,
    ⟨1, fun a M => kfin Try.prog Try.f3.results.toList Q 1 a M, fun a M => kfin Try.prog Try.f3.results.toList Q 1 a M⟩]
    [1000] [1] (by kernel_rfl) (by kernel_rfl) (by kernel_rfl) (by kernel_rfl) (by kernel_rfl)
    ⟨fun a M hn h => by obtain ⟨⟨n, f⟩, ds⟩ := a; have hn : n = 133 := hn; subst hn; exact h f rfl rfl rfl rfl rfl,
    fun _ _ _ h => h,
    trivial⟩
    (cast (by kernel_rfl) h)
def S_fettlelaw3_FramTells_1 (ds : List Deferred) (x0 x8 x9 x10 x11 : Value) (M : Store) (Q : Value → Store → Prop) : Prop :=
  OP (slV 1 Ty.uint8 x9 none (some x11) M) fun t63 =>
  OP (bldL (.int .u8 0) 1 0 []) fun c =>
  LT (.slice (some ⟨M.n, 0, none⟩) 0 0) (M.push (some (.inl (c, Ty.uint8, true)))) fun t64 M1 =>
  OP2 (appV 1 Ty.uint8 t64 x9 M1) fun t66 M2 =>
  TDj [6, 7] [M.n, M.n, M.n, M.n, M.n, M.n, M.n, M1.n, M1.n] M1 M2 ∧
  OP2 (appV 1 Ty.uint8 t66 x0 M2) fun t68 M3 =>
  TDj [6, 7, 8, 9] [M.n, M.n, M.n, M.n, M.n, M.n, M.n, M1.n, M1.n, M2.n, M2.n] M2 M3 ∧
  OP (bldL (.slice none 0 0) 1 5 [(0, x0), (1, x9), (2, x10), (3, t63), (4, t68)]) fun c_1 =>
  LT (.slice (some ⟨M3.n, 0, none⟩) 5 5) (M3.push (some (.inl (c_1, Ty.sl_uint8, true)))) fun t69 M4 =>
  OP (lenV t69) fun t70 =>
  P_fettlelaw3_FramTells_2 ds x8 t69 t70 (.int .i64 0) M4 Q
theorem T_fettlelaw3_FramTells_1 {ds : List Deferred} {x0 x8 x9 x10 x11 : Value} {M : Store} {Q : Value → Store → Prop} (h : S_fettlelaw3_FramTells_1 ds x0 x8 x9 x10 x11 M Q) : P_fettlelaw3_FramTells_1 ds x0 x8 x9 x10 x11 M Q := by
  intro f h0 h8 h9 h10 h11; subst h0; subst h8; subst h9; subst h10; subst h11
  unfold At
  exact rule (B := 1000) (N := 133) (ct := (.two (.two .no (.two (.here 1000) .no)) (.here 1001)))
    [⟨1002, fun a M => P_fettlelaw3_FramTells_2 a.defers (a.get 8) (a.get 69) (a.get 70) (a.get 71) M Q, fun a M => At Try.prog Ex none Try.f3 [1, 1, 1, 1, 1, 1, 1, 0, 1, 0] a M Q⟩,
    ⟨1003, fun _ _ => False, fun a M => At Try.prog Ex none Try.f3 [1, 1, 1, 1, 1, 1, 1, 1] a M Q⟩]
    [1000, 1001] [] (by kernel_rfl) (by kernel_rfl) (by kernel_rfl) (by kernel_rfl) (by kernel_rfl)
    ⟨fun a M hn h => by obtain ⟨⟨n, f⟩, ds⟩ := a; have hn : n = 133 := hn; subst hn; exact h f rfl rfl rfl rfl,
    fun _ _ _ h => h.elim,
    trivial⟩
    (cast (by kernel_rfl) h)
def S_fettlelaw3_FramTells_2 (ds : List Deferred) (x8 x69 x70 x71 : Value) (M : Store) (Q : Value → Store → Prop) : Prop :=
  OP (binI .lss x71 x70) fun t72 =>
  BR t72 (
  P_fettlelaw3_FramTells_3 ds x8 x69 x70 x71 M Q
  ) (
  P_fettlelaw3_FramTells_4 ds x8 M Q
  )
theorem T_fettlelaw3_FramTells_2 {ds : List Deferred} {x8 x69 x70 x71 : Value} {M : Store} {Q : Value → Store → Prop} (h : S_fettlelaw3_FramTells_2 ds x8 x69 x70 x71 M Q) : P_fettlelaw3_FramTells_2 ds x8 x69 x70 x71 M Q := by
  intro f h8 h69 h70 h71; subst h8; subst h69; subst h70; subst h71
  unfold At
  refine cast (by kernel_rfl) (CW.loop (P := Try.prog) (E := Ex) (rd := none) (x := sub (bodyOf Try.f3) [1, 1, 1, 1, 1, 1, 1, 0, 1, 0, 0]) (a := ⟨⟨133, f⟩, ds⟩) (M := M) (K := kcont Try.prog Ex none (bodyOf Try.f3) [1, 1, 1, 1, 1, 1, 1, 0, 1, 0] (kfin Try.prog Try.f3.results.toList Q)) ?_)
  exact rule (B := 1000) (N := 133) (ct := (.two .no (.two .no (.here 1000))))
    [⟨1002, fun a M => P_fettlelaw3_FramTells_3 a.defers (a.get 8) (a.get 69) (a.get 70) (a.get 71) M Q, fun a M => At Try.prog Ex none Try.f3 [1, 1, 1, 1, 1, 1, 1, 0, 1, 0, 0, 1, 1] a M Q⟩,
    ⟨2, fun a M => P_fettlelaw3_FramTells_4 a.defers (a.get 8) M Q, fun a M => At Try.prog Ex none Try.f3 [1, 1, 1, 1, 1, 1, 1, 1] a M Q⟩]
    [1000] [2] (by kernel_rfl) (by kernel_rfl) (by kernel_rfl) (by kernel_rfl) (by kernel_rfl)
    ⟨fun a M hn h => by obtain ⟨⟨n, f⟩, ds⟩ := a; have hn : n = 133 := hn; subst hn; exact h f rfl rfl rfl rfl,
    fun a M hn h => by obtain ⟨⟨n, f⟩, ds⟩ := a; have hn : n = 133 := hn; subst hn; exact h f rfl,
    trivial⟩
    (cast (by kernel_rfl) h)
def S_fettlelaw3_FramTells_3 (ds : List Deferred) (x8 x69 x70 x71 : Value) (M : Store) (Q : Value → Store → Prop) : Prop :=
  OP (ixA 1 x69 x71) fun t73 =>
  OP (ld 1 false t73 M) fun t74 =>
  R F.fram_Scan #[t74] M fun t77 M1 =>
  OP (tup t77 0) fun t78 =>
  OP (tup t77 1) fun t79 =>
  R F.fettleref1_Scan #[t74] M1 fun t82 M2 =>
  OP (tup t82 0) fun t83 =>
  OP (tup t82 1) fun t84 =>
  LT (.pointer (some ⟨M2.n, 0, none⟩)) (M2.push (some (.inl ([(.slice none 0 0)], Ty.sl_sl_uint8, true)))) fun t16 M3 =>
  OP (st 1 t16 t83 M3) fun M4 =>
  OP (binI .neq t79 t84) fun t87 =>
  BR t87 (
  OP (st 1 x8 (.bool false) M4) fun M5 =>
  OP (atake ds M5) fun M6 =>
  OP (ld 1 false x8 M6) fun r8 =>
  NTs [r8] ∧ Q r8 M6
  ) (
  OP (ld 1 false t16 M4) fun t90 =>
  R F.fettleref1_SameRows #[t78, t90] M4 fun t91 M7 =>
  OP (aun .not t91) fun t92 =>
  BR t92 (
  OP (st 1 x8 (.bool false) M7) fun M8 =>
  OP (atake ds M8) fun M9 =>
  OP (ld 1 false x8 M9) fun r8_1 =>
  NTs [r8_1] ∧ Q r8_1 M9
  ) (
  LT (.pointer (some ⟨M7.n, 0, none⟩)) (M7.push (some (.inl ([(.int .i64 0)], Ty.int, true)))) fun t18 M10 =>
  LT (.pointer (some ⟨M10.n, 0, none⟩)) (M10.push (some (.inl ([(.int .i64 0)], Ty.int, true)))) fun t19 M11 =>
  OP (st 1 t18 (.int .i64 0) M11) fun M12 =>
  OP (st 1 t19 (.int .i64 0) M12) fun M13 =>
  R F.fram_All #[t74] M13 fun t95 M14 =>
  OP (abin Try.prog true .eql Ty.iter_Seq2_int_sl_uint8 t95 .nilFunc) fun t97 =>
  BR t97 (
  OP (st 1 x8 (.bool false) M14) fun M15 =>
  OP (atake ds M15) fun M16 =>
  OP (ld 1 false x8 M16) fun r8_2 =>
  NTs [r8_2] ∧ Q r8_2 M16
  ) (
  P_fettlelaw3_FramTells_5 ds x8 t16 t18 t19 x69 x70 x71 t95 M14 Q
  )
  )
  )
theorem T_fettlelaw3_FramTells_3 {ds : List Deferred} {x8 x69 x70 x71 : Value} {M : Store} {Q : Value → Store → Prop} (h : S_fettlelaw3_FramTells_3 ds x8 x69 x70 x71 M Q) : P_fettlelaw3_FramTells_3 ds x8 x69 x70 x71 M Q := by
  intro f h8 h69 h70 h71; subst h8; subst h69; subst h70; subst h71
  unfold At
  exact rule (B := 1000) (N := 133) (ct := (.two (.two (.two .no (.two .no (.two .no (.two .no (.two .no (.two .no (.two .no (.two (.two .no (.two (.here 1000) .no)) (.here 1001))))))))) .no) (.here 1002)))
    [⟨1002, fun a M => P_fettlelaw3_FramTells_5 a.defers (a.get 8) (a.get 16) (a.get 18) (a.get 19) (a.get 69) (a.get 70) (a.get 71) (a.get 98) M Q, fun a M => At Try.prog Ex none Try.f3 [1, 1, 1, 1, 1, 1, 1, 0, 1, 0, 0, 1, 1, 0, 0, 1, 1, 1, 1, 1, 1, 1, 0, 1, 0] a M Q⟩,
    ⟨1003, fun _ _ => False, fun a M => At Try.prog Ex none Try.f3 [1, 1, 1, 1, 1, 1, 1, 0, 1, 0, 0, 1, 1, 0, 0, 1, 1, 1, 1, 1, 1, 1, 1] a M Q⟩,
    ⟨1004, fun _ _ => False, fun a M => At Try.prog Ex none Try.f3 [1, 1, 1, 1, 1, 1, 1, 0, 1, 0, 0, 1, 1, 1] a M Q⟩,
    ⟨1, fun a M => kfin Try.prog Try.f3.results.toList Q 1 a M, fun a M => kfin Try.prog Try.f3.results.toList Q 1 a M⟩]
    [1000, 1001, 1002] [1] (by kernel_rfl) (by kernel_rfl) (by kernel_rfl) (by kernel_rfl) (by kernel_rfl)
    ⟨fun a M hn h => by obtain ⟨⟨n, f⟩, ds⟩ := a; have hn : n = 133 := hn; subst hn; exact h f rfl rfl rfl rfl rfl rfl rfl rfl,
    fun _ _ _ h => h.elim,
    fun _ _ _ h => h.elim,
    fun _ _ _ h => h,
    trivial⟩
    (cast (by kernel_rfl) h)
def S_fettlelaw3_FramTells_4 (ds : List Deferred) (x8 : Value) (M : Store) (Q : Value → Store → Prop) : Prop :=
  R F.fettlelaw3_awake #[] M fun t132 M1 =>
  OP (st 1 x8 t132 M1) fun M2 =>
  OP (atake ds M2) fun M3 =>
  OP (ld 1 false x8 M3) fun r8 =>
  NTs [r8] ∧ Q r8 M3
theorem T_fettlelaw3_FramTells_4 {ds : List Deferred} {x8 : Value} {M : Store} {Q : Value → Store → Prop} (h : S_fettlelaw3_FramTells_4 ds x8 M Q) : P_fettlelaw3_FramTells_4 ds x8 M Q := by
  intro f h8; subst h8
  unfold At
  exact rule (B := 1000) (N := 133) (ct := .no)
    [⟨1, fun a M => kfin Try.prog Try.f3.results.toList Q 1 a M, fun a M => kfin Try.prog Try.f3.results.toList Q 1 a M⟩]
    [] [1] (by kernel_rfl) (by kernel_rfl) (by kernel_rfl) (by kernel_rfl) (by kernel_rfl)
    ⟨fun _ _ _ h => h,
    trivial⟩
    (cast (by kernel_rfl) h)
/-- The record of the range, and a round. -/
def RC_fettlelaw3_FramTells_5 (x8 x16 x18 x19 : Value) (st : LoopState) (pe : Nat) (rc : LRec) : Prop := ∃ f : Nat → Value, f 8 = x8 ∧ f 16 = x16 ∧ f 18 = x18 ∧ f 19 = x19 ∧ rc = ⟨st, pe, ⟨133, f⟩, #[99, 100], (sub (bodyOf Try.f3) [1, 1, 1, 1, 1, 1, 1, 0, 1, 0, 0, 1, 1, 0, 0, 1, 1, 1, 1, 1, 1, 1, 0, 1, 0, 0]), (sub (bodyOf Try.f3) [1, 1, 1, 1, 1, 1, 1, 0, 1, 0, 0, 1, 1, 0, 0, 1, 1, 1, 1, 1, 1, 1, 0, 1, 0, 1])⟩
def SY_fettlelaw3_FramTells_5 (l : Nat) (x8 x16 x18 x19 : Value) (y99 y100 : Value) (M : Store) (Q : Value → Store → Prop) : Prop :=
  OP (recOf M l) fun r => r.st = .ready ∧
  P_fettlelaw3_FramTells_6 l x8 x16 x18 x19 y99 y100 (putRec M l { r with st := .busy }) Q
theorem Y_fettlelaw3_FramTells_5 {l pe : Nat} {x8 x16 x18 x19 : Value} {y99 y100 : Value} {M : Store} {Q : Value → Store → Prop} {rc : LRec} (hr : recOf M l = some rc) (hc : RC_fettlelaw3_FramTells_5 x8 x16 x18 x19 .ready pe rc) (h : SY_fettlelaw3_FramTells_5 l x8 x16 x18 x19 y99 y100 M Q) : RunsY Try.prog Ex l #[y99, y100] M Q := by
  obtain ⟨f, h8, h16, h18, h19, hc⟩ := hc; subst h8; subst h16; subst h18; subst h19; subst hc
  refine runsY_of (args := [y99, y100]) hr (by kernel_rfl) ?_
  exact rule (B := 1000) (N := 133) (ct := .no)
    [⟨0, fun a M => OP (recOf M l) fun r => r.st = .ready ∧ dfr a.defers (P_fettlelaw3_FramTells_6 l (a.get 8) (a.get 16) (a.get 18) (a.get 19) (a.get 21) (a.get 22) (putRec M l { r with st := .busy }) Q), fun a M => kmid Try.prog Ex l (sub (bodyOf Try.f3) [1, 1, 1, 1, 1, 1, 1, 0, 1, 0, 0, 1, 1, 0, 0, 1, 1, 1, 1, 1, 1, 1, 0, 1, 0, 1]) Q 0 a M⟩]
    [] [0] (by kernel_rfl) (by kernel_rfl) (by kernel_rfl) (by kernel_rfl) (by kernel_rfl)
    ⟨fun a M hn h => by obtain ⟨⟨n, f⟩, ds⟩ := a; have hn : n = 133 := hn; subst hn; obtain ⟨r, hr, hs, h⟩ := OP_iff.1 h; obtain ⟨hd, h⟩ := dfr_iff h; have hd : ds = [] := hd; subst hd; exact OP_iff.2 ⟨r, hr, hs, cast (by kernel_rfl) (h f rfl rfl rfl rfl rfl rfl)⟩, trivial⟩
    (cast (by kernel_rfl) h)
def S_fettlelaw3_FramTells_5 (ds : List Deferred) (x8 x16 x18 x19 x69 x70 x71 x98 : Value) (M : Store) (Q : Value → Store → Prop) : Prop :=
  ∀ rc : LRec, RC_fettlelaw3_FramTells_5 x8 x16 x18 x19 .ready 0 rc →
  rfc Try.prog Ex x98 (M.n + 1) ((M.push (some (.inr (.inr none)))).push (some (.inr (.inr (some rc))))) fun _ M1 =>
  OP (recOf M1 (M.n + 1)) fun r => r.st ≠ .busy ∧
  bif Nat.beq 0 r.pe then (
  P_fettlelaw3_FramTells_7 ({ target := .collected M.n, args := #[] } :: ds) x8 x16 x18 x69 x70 x71 (putRec M1 (M.n + 1) { r with st := .exhausted }) Q
  ) else
  bif Nat.beq 1 r.pe then (
  OP (atake ({ target := .collected M.n, args := #[] } :: ds) (putRec M1 (M.n + 1) { r with st := .exhausted })) fun M2 =>
  OP (ld 1 false x8 M2) fun r8 =>
  NTs [r8] ∧ Q r8 M2
  ) else
  False
theorem T_fettlelaw3_FramTells_5 {ds : List Deferred} {x8 x16 x18 x19 x69 x70 x71 x98 : Value} {M : Store} {Q : Value → Store → Prop} (h : S_fettlelaw3_FramTells_5 ds x8 x16 x18 x19 x69 x70 x71 x98 M Q) : P_fettlelaw3_FramTells_5 ds x8 x16 x18 x19 x69 x70 x71 x98 M Q := by
  intro f h8 h16 h18 h19 h69 h70 h71 h98; subst h8; subst h16; subst h18; subst h19; subst h69; subst h70; subst h71; subst h98
  unfold At
  refine cast (by kernel_rfl) (CW.rf (P := Try.prog) (E := Ex) (g := .tmp 98) (ps := #[99, 100]) (x := (sub (bodyOf Try.f3) [1, 1, 1, 1, 1, 1, 1, 0, 1, 0, 0, 1, 1, 0, 0, 1, 1, 1, 1, 1, 1, 1, 0, 1, 0, 0])) (y := (sub (bodyOf Try.f3) [1, 1, 1, 1, 1, 1, 1, 0, 1, 0, 0, 1, 1, 0, 0, 1, 1, 1, 1, 1, 1, 1, 0, 1, 0, 1])) (a := ⟨⟨133, f⟩, ds⟩) (M := M) (K := kcont Try.prog Ex none (bodyOf Try.f3) [1, 1, 1, 1, 1, 1, 1, 0, 1, 0, 0, 1, 1, 0, 0, 1, 1, 1, 1, 1, 1, 1, 0, 1, 0] (kfin Try.prog Try.f3.results.toList Q)) ?_)
  refine cast (by kernel_rfl) (rfc_mono (k' := fun _ M' => OP (recOf M' (M.n + 1)) fun r => r.st ≠ .busy ∧ kcont Try.prog Ex none (bodyOf Try.f3) [1, 1, 1, 1, 1, 1, 1, 0, 1, 0, 0, 1, 1, 0, 0, 1, 1, 1, 1, 1, 1, 1, 0, 1, 0] (kfin Try.prog Try.f3.results.toList Q) r.pe ⟨⟨133, f⟩, { target := .collected M.n, args := #[] } :: ds⟩ (putRec M' (M.n + 1) { r with st := .exhausted })) (h ⟨.ready, 0, ⟨133, f⟩, #[99, 100], (sub (bodyOf Try.f3) [1, 1, 1, 1, 1, 1, 1, 0, 1, 0, 0, 1, 1, 0, 0, 1, 1, 1, 1, 1, 1, 1, 0, 1, 0, 0]), (sub (bodyOf Try.f3) [1, 1, 1, 1, 1, 1, 1, 0, 1, 0, 0, 1, 1, 0, 0, 1, 1, 1, 1, 1, 1, 1, 0, 1, 0, 1])⟩ ⟨f, rfl, rfl, rfl, rfl, rfl⟩) ?_)
  intro _ M1 h
  obtain ⟨r, hr, hs, h⟩ := OP_iff.1 h
  refine OP_iff.2 ⟨r, hr, hs, ?_⟩
  exact disp_K (N := 133) (L := [⟨0, fun a M => P_fettlelaw3_FramTells_7 a.defers (a.get 8) (a.get 16) (a.get 18) (a.get 69) (a.get 70) (a.get 71) M Q, fun a M => At Try.prog Ex none Try.f3 [1, 1, 1, 1, 1, 1, 1, 0, 1, 0, 0, 1, 1, 0, 0, 1, 1, 1, 1, 1, 1, 1, 1] a M Q⟩,
    ⟨1, fun a M => kfin Try.prog Try.f3.results.toList Q 1 a M, fun a M => kfin Try.prog Try.f3.results.toList Q 1 a M⟩])
    [0, 1] (by kernel_rfl) (by kernel_rfl)
    ⟨fun a M hn h => by obtain ⟨⟨n, f⟩, ds⟩ := a; have hn : n = 133 := hn; subst hn; exact h f rfl rfl rfl rfl rfl rfl,
    fun _ _ _ h => h,
    trivial⟩
    rfl (cast (by kernel_rfl) h)
def S_fettlelaw3_FramTells_6 (l : Nat) (x8 x16 x18 x19 x21 x22 : Value) (M : Store) (Q : Value → Store → Prop) : Prop :=
  OP (ld 1 false x18 M) fun t101 =>
  OP (ld 1 false x16 M) fun t102 =>
  OP (lenV t102) fun t103 =>
  OP (binI .geq t101 t103) fun t104 =>
  BR t104 (
  OP (st 1 x8 (.bool false) M) fun M1 =>
  YE l 1 M1 Q
  ) (
  OP (ld 1 false x19 M) fun t107 =>
  OP (binI .neq x21 t107) fun t108 =>
  BR t108 (
  OP (st 1 x8 (.bool false) M) fun M2 =>
  YE l 1 M2 Q
  ) (
  OP (cvBS x22 M) fun t112 =>
  OP (ld 1 false x16 M) fun t113 =>
  OP (ld 1 false x18 M) fun t114 =>
  OP (ixA 1 t113 t114) fun t115 =>
  OP (ld 1 false t115 M) fun t116 =>
  OP (cvBS t116 M) fun t117 =>
  OP (binS .neq t112 t117) fun t118 =>
  BR t118 (
  OP (st 1 x8 (.bool false) M) fun M3 =>
  YE l 1 M3 Q
  ) (
  OP (ld 1 false x19 M) fun t120 =>
  OP (binI .add t120 (.int .i64 10)) fun t121 =>
  OP (lenV x22) fun t123 =>
  OP (binI .add t121 t123) fun t124 =>
  OP (st 1 x19 t124 M) fun M4 =>
  OP (ld 1 false x18 M4) fun t125 =>
  OP (binI .add t125 (.int .i64 1)) fun t126 =>
  OP (st 1 x18 t126 M4) fun M5 =>
  YE l 0 M5 Q
  )
  )
  )
theorem T_fettlelaw3_FramTells_6 {l : Nat} {x8 x16 x18 x19 x21 x22 : Value} {M : Store} {Q : Value → Store → Prop} (h : S_fettlelaw3_FramTells_6 l x8 x16 x18 x19 x21 x22 M Q) : P_fettlelaw3_FramTells_6 l x8 x16 x18 x19 x21 x22 M Q := by
  intro f h8 h16 h18 h19 h21 h22; subst h8; subst h16; subst h18; subst h19; subst h21; subst h22
  unfold AtY
  exact rule (B := 1000) (N := 133) (ct := .no)
    [⟨0, fun a M => kfinY l Q 0 a M, fun a M => kfinY l Q 0 a M⟩,
    ⟨1, fun a M => kfinY l Q 1 a M, fun a M => kfinY l Q 1 a M⟩]
    [] [0, 1] (by kernel_rfl) (by kernel_rfl) (by kernel_rfl) (by kernel_rfl) (by kernel_rfl)
    ⟨fun _ _ _ h => h,
    fun _ _ _ h => h,
    trivial⟩
    (cast (by kernel_rfl) h)
def S_fettlelaw3_FramTells_7 (ds : List Deferred) (x8 x16 x18 x69 x70 x71 : Value) (M : Store) (Q : Value → Store → Prop) : Prop :=
  OP (ld 1 false x18 M) fun t127 =>
  OP (ld 1 false x16 M) fun t128 =>
  OP (lenV t128) fun t129 =>
  OP (binI .neq t127 t129) fun t130 =>
  BR t130 (
  OP (st 1 x8 (.bool false) M) fun M1 =>
  OP (atake ds M1) fun M2 =>
  OP (ld 1 false x8 M2) fun r8 =>
  NTs [r8] ∧ Q r8 M2
  ) (
  P_fettlelaw3_FramTells_8 ds x8 x69 x70 x71 M Q
  )
theorem T_fettlelaw3_FramTells_7 {ds : List Deferred} {x8 x16 x18 x69 x70 x71 : Value} {M : Store} {Q : Value → Store → Prop} (h : S_fettlelaw3_FramTells_7 ds x8 x16 x18 x69 x70 x71 M Q) : P_fettlelaw3_FramTells_7 ds x8 x16 x18 x69 x70 x71 M Q := by
  intro f h8 h16 h18 h69 h70 h71; subst h8; subst h16; subst h18; subst h69; subst h70; subst h71
  unfold At
  exact rule (B := 1000) (N := 133) (ct := .no)
    [⟨0, fun a M => P_fettlelaw3_FramTells_8 a.defers (a.get 8) (a.get 69) (a.get 70) (a.get 71) M Q, fun a M => At Try.prog Ex none Try.f3 [1, 1, 1, 1, 1, 1, 1, 0, 1, 0, 0, 1, 1, 1] a M Q⟩,
    ⟨1, fun a M => kfin Try.prog Try.f3.results.toList Q 1 a M, fun a M => kfin Try.prog Try.f3.results.toList Q 1 a M⟩]
    [] [0, 1] (by kernel_rfl) (by kernel_rfl) (by kernel_rfl) (by kernel_rfl) (by kernel_rfl)
    ⟨fun a M hn h => by obtain ⟨⟨n, f⟩, ds⟩ := a; have hn : n = 133 := hn; subst hn; exact h f rfl rfl rfl rfl,
    fun _ _ _ h => h,
    trivial⟩
    (cast (by kernel_rfl) h)
def S_fettlelaw3_FramTells_8 (ds : List Deferred) (x8 x69 x70 x71 : Value) (M : Store) (Q : Value → Store → Prop) : Prop :=
  OP (binI .add x71 (.int .i64 1)) fun t131 =>
  P_fettlelaw3_FramTells_2 ds x8 x69 x70 t131 M Q
theorem T_fettlelaw3_FramTells_8 {ds : List Deferred} {x8 x69 x70 x71 : Value} {M : Store} {Q : Value → Store → Prop} (h : S_fettlelaw3_FramTells_8 ds x8 x69 x70 x71 M Q) : P_fettlelaw3_FramTells_8 ds x8 x69 x70 x71 M Q := by
  intro f h8 h69 h70 h71; subst h8; subst h69; subst h70; subst h71
  unfold At
  exact rule (B := 1000) (N := 133) (ct := .no)
    [⟨0, fun a M => P_fettlelaw3_FramTells_2 a.defers (a.get 8) (a.get 69) (a.get 70) (a.get 71) M Q, fun a M => At Try.prog Ex none Try.f3 [1, 1, 1, 1, 1, 1, 1, 0, 1, 0] a M Q⟩]
    [] [0] (by kernel_rfl) (by kernel_rfl) (by kernel_rfl) (by kernel_rfl) (by kernel_rfl)
    ⟨fun a M hn h => by obtain ⟨⟨n, f⟩, ds⟩ := a; have hn : n = 133 := hn; subst hn; exact h f rfl rfl rfl rfl,
    trivial⟩
    (cast (by kernel_rfl) h)
def P_fettlelaw3_awake_1 (ds : List Deferred) (x1 x2 x3 x4 x25 : Value) (M : Store) (Q : Value → Store → Prop) : Prop :=
  ∀ f : Nat → Value, f 1 = x1 → f 2 = x2 → f 3 = x3 → f 4 = x4 → f 25 = x25 → At Try.prog Ex none Try.f18 [1, 1, 1, 1, 1, 1, 0, 1, 0] ⟨⟨64, f⟩, ds⟩ M Q
def P_fettlelaw3_awake_2 (l : Nat) (x4 x6 x7 : Value) (M : Store) (Q : Value → Store → Prop) : Prop :=
  ∀ f : Nat → Value, f 4 = x4 → f 6 = x6 → f 7 = x7 → AtY Try.prog Ex l Try.f18 [1, 1, 1, 1, 1, 1, 0, 1, 0, 1] [] ⟨⟨64, f⟩, []⟩ M Q
def P_fettlelaw3_awake_3 (ds : List Deferred) (x1 x2 x3 x4 : Value) (M : Store) (Q : Value → Store → Prop) : Prop :=
  ∀ f : Nat → Value, f 1 = x1 → f 2 = x2 → f 3 = x3 → f 4 = x4 → At Try.prog Ex none Try.f18 [1, 1, 1, 1, 1, 1, 1] ⟨⟨64, f⟩, ds⟩ M Q
def S_fettlelaw3_awake (M : Store) (Q : Value → Store → Prop) : Prop :=
  OP (bldL (.int .u8 0) 1 1 [(0, (.int .u8 97))]) fun c =>
  LT (.slice (some ⟨M.n, 0, none⟩) 1 1) (M.push (some (.inl (c, Ty.uint8, true)))) fun t8 M1 =>
  OP2 (cvId t8 M1) fun t9 M2 =>
  R F.fram_Put #[(.slice none 0 0), t9] M2 fun t10 M3 =>
  R F.fram_Put #[t10, (.slice none 0 0)] M3 fun t11 M4 =>
  OP (bldL (.int .u8 0) 1 0 []) fun c_1 =>
  LT (.slice (some ⟨M4.n, 0, none⟩) 0 0) (M4.push (some (.inl (c_1, Ty.uint8, true)))) fun t13 M5 =>
  OP2 (appV 1 Ty.uint8 t13 t11 M5) fun t15 M6 =>
  OP (bldL (.int .u8 0) 1 3 [(0, (.int .u8 1)), (1, (.int .u8 2)), (2, (.int .u8 3))]) fun c_2 =>
  LT (.slice (some ⟨M6.n, 0, none⟩) 3 3) (M6.push (some (.inl (c_2, Ty.uint8, true)))) fun t16 M7 =>
  OP2 (appV 1 Ty.uint8 t15 t16 M7) fun t17 M8 =>
  R F.fram_Scan #[t17] M8 fun t18 M9 =>
  OP (tup t18 0) fun t19 =>
  OP (tup t18 1) fun t20 =>
  LT (.pointer (some ⟨M9.n, 0, none⟩)) (M9.push (some (.inl ([(.int .i64 0)], Ty.int, true)))) fun t4 M10 =>
  OP (st 1 t4 (.int .i64 0) M10) fun M11 =>
  R F.fram_All #[t11] M11 fun t22 M12 =>
  OP (abin Try.prog true .eql Ty.iter_Seq2_int_sl_uint8 t22 .nilFunc) fun t24 =>
  BR t24 (
  OP (atake [] M12) fun M13 =>
  NTs [(.bool false)] ∧ Q (.bool false) M13
  ) (
  P_fettlelaw3_awake_1 [] t11 t19 t20 t4 t22 M12 Q
  )
theorem T_fettlelaw3_awake {M : Store} {Q : Value → Store → Prop} (h : S_fettlelaw3_awake M Q) : R F.fettlelaw3_awake #[] M Q := by
  refine runs_of (c := bodyOf Try.f18) Try.func18 rfl (by kernel_rfl) (by kernel_rfl) ?_
  unfold At
  exact rule (B := 1000) (N := 64) (ct := (.two .no (.two .no (.two .no (.two .no (.two .no (.two .no (.two (.two .no (.two (.here 1000) .no)) (.here 1001)))))))))
    [⟨1002, fun a M => P_fettlelaw3_awake_1 a.defers (a.get 1) (a.get 2) (a.get 3) (a.get 4) (a.get 25) M Q, fun a M => At Try.prog Ex none Try.f18 [1, 1, 1, 1, 1, 1, 0, 1, 0] a M Q⟩,
    ⟨1003, fun _ _ => False, fun a M => At Try.prog Ex none Try.f18 [1, 1, 1, 1, 1, 1, 1] a M Q⟩,
    ⟨1, fun a M => kfin Try.prog Try.f18.results.toList Q 1 a M, fun a M => kfin Try.prog Try.f18.results.toList Q 1 a M⟩]
    [1000, 1001] [1] (by kernel_rfl) (by kernel_rfl) (by kernel_rfl) (by kernel_rfl) (by kernel_rfl)
    ⟨fun a M hn h => by obtain ⟨⟨n, f⟩, ds⟩ := a; have hn : n = 64 := hn; subst hn; exact h f rfl rfl rfl rfl rfl,
    fun _ _ _ h => h.elim,
    fun _ _ _ h => h,
    trivial⟩
    (cast (by kernel_rfl) h)
/-- The record of the range, and a round. -/
def RC_fettlelaw3_awake_1 (x4 : Value) (st : LoopState) (pe : Nat) (rc : LRec) : Prop := ∃ f : Nat → Value, f 4 = x4 ∧ rc = ⟨st, pe, ⟨64, f⟩, #[26, 27], (sub (bodyOf Try.f18) [1, 1, 1, 1, 1, 1, 0, 1, 0, 0]), (sub (bodyOf Try.f18) [1, 1, 1, 1, 1, 1, 0, 1, 0, 1])⟩
def SY_fettlelaw3_awake_1 (l : Nat) (x4 : Value) (y26 y27 : Value) (M : Store) (Q : Value → Store → Prop) : Prop :=
  OP (recOf M l) fun r => r.st = .ready ∧
  P_fettlelaw3_awake_2 l x4 y26 y27 (putRec M l { r with st := .busy }) Q
theorem Y_fettlelaw3_awake_1 {l pe : Nat} {x4 : Value} {y26 y27 : Value} {M : Store} {Q : Value → Store → Prop} {rc : LRec} (hr : recOf M l = some rc) (hc : RC_fettlelaw3_awake_1 x4 .ready pe rc) (h : SY_fettlelaw3_awake_1 l x4 y26 y27 M Q) : RunsY Try.prog Ex l #[y26, y27] M Q := by
  obtain ⟨f, h4, hc⟩ := hc; subst h4; subst hc
  refine runsY_of (args := [y26, y27]) hr (by kernel_rfl) ?_
  exact rule (B := 1000) (N := 64) (ct := .no)
    [⟨0, fun a M => OP (recOf M l) fun r => r.st = .ready ∧ dfr a.defers (P_fettlelaw3_awake_2 l (a.get 4) (a.get 6) (a.get 7) (putRec M l { r with st := .busy }) Q), fun a M => kmid Try.prog Ex l (sub (bodyOf Try.f18) [1, 1, 1, 1, 1, 1, 0, 1, 0, 1]) Q 0 a M⟩]
    [] [0] (by kernel_rfl) (by kernel_rfl) (by kernel_rfl) (by kernel_rfl) (by kernel_rfl)
    ⟨fun a M hn h => by obtain ⟨⟨n, f⟩, ds⟩ := a; have hn : n = 64 := hn; subst hn; obtain ⟨r, hr, hs, h⟩ := OP_iff.1 h; obtain ⟨hd, h⟩ := dfr_iff h; have hd : ds = [] := hd; subst hd; exact OP_iff.2 ⟨r, hr, hs, cast (by kernel_rfl) (h f rfl rfl rfl)⟩, trivial⟩
    (cast (by kernel_rfl) h)
def S_fettlelaw3_awake_1 (ds : List Deferred) (x1 x2 x3 x4 x25 : Value) (M : Store) (Q : Value → Store → Prop) : Prop :=
  ∀ rc : LRec, RC_fettlelaw3_awake_1 x4 .ready 0 rc →
  rfc Try.prog Ex x25 (M.n + 1) ((M.push (some (.inr (.inr none)))).push (some (.inr (.inr (some rc))))) fun _ M1 =>
  OP (recOf M1 (M.n + 1)) fun r => r.st ≠ .busy ∧
  bif Nat.beq 0 r.pe then (
  P_fettlelaw3_awake_3 ({ target := .collected M.n, args := #[] } :: ds) x1 x2 x3 x4 (putRec M1 (M.n + 1) { r with st := .exhausted }) Q
  ) else
  False
theorem T_fettlelaw3_awake_1 {ds : List Deferred} {x1 x2 x3 x4 x25 : Value} {M : Store} {Q : Value → Store → Prop} (h : S_fettlelaw3_awake_1 ds x1 x2 x3 x4 x25 M Q) : P_fettlelaw3_awake_1 ds x1 x2 x3 x4 x25 M Q := by
  intro f h1 h2 h3 h4 h25; subst h1; subst h2; subst h3; subst h4; subst h25
  unfold At
  refine cast (by kernel_rfl) (CW.rf (P := Try.prog) (E := Ex) (g := .tmp 25) (ps := #[26, 27]) (x := (sub (bodyOf Try.f18) [1, 1, 1, 1, 1, 1, 0, 1, 0, 0])) (y := (sub (bodyOf Try.f18) [1, 1, 1, 1, 1, 1, 0, 1, 0, 1])) (a := ⟨⟨64, f⟩, ds⟩) (M := M) (K := kcont Try.prog Ex none (bodyOf Try.f18) [1, 1, 1, 1, 1, 1, 0, 1, 0] (kfin Try.prog Try.f18.results.toList Q)) ?_)
  refine cast (by kernel_rfl) (rfc_mono (k' := fun _ M' => OP (recOf M' (M.n + 1)) fun r => r.st ≠ .busy ∧ kcont Try.prog Ex none (bodyOf Try.f18) [1, 1, 1, 1, 1, 1, 0, 1, 0] (kfin Try.prog Try.f18.results.toList Q) r.pe ⟨⟨64, f⟩, { target := .collected M.n, args := #[] } :: ds⟩ (putRec M' (M.n + 1) { r with st := .exhausted })) (h ⟨.ready, 0, ⟨64, f⟩, #[26, 27], (sub (bodyOf Try.f18) [1, 1, 1, 1, 1, 1, 0, 1, 0, 0]), (sub (bodyOf Try.f18) [1, 1, 1, 1, 1, 1, 0, 1, 0, 1])⟩ ⟨f, rfl, rfl⟩) ?_)
  intro _ M1 h
  obtain ⟨r, hr, hs, h⟩ := OP_iff.1 h
  refine OP_iff.2 ⟨r, hr, hs, ?_⟩
  exact disp_K (N := 64) (L := [⟨0, fun a M => P_fettlelaw3_awake_3 a.defers (a.get 1) (a.get 2) (a.get 3) (a.get 4) M Q, fun a M => At Try.prog Ex none Try.f18 [1, 1, 1, 1, 1, 1, 1] a M Q⟩])
    [0] (by kernel_rfl) (by kernel_rfl)
    ⟨fun a M hn h => by obtain ⟨⟨n, f⟩, ds⟩ := a; have hn : n = 64 := hn; subst hn; exact h f rfl rfl rfl rfl,
    trivial⟩
    rfl (cast (by kernel_rfl) h)
def S_fettlelaw3_awake_2 (l : Nat) (x4 x6 x7 : Value) (M : Store) (Q : Value → Store → Prop) : Prop :=
  OP (ld 1 false x4 M) fun t28 =>
  OP (binI .add t28 x6) fun t30 =>
  OP (lenV x7) fun t32 =>
  OP (binI .add t30 t32) fun t33 =>
  OP (st 1 x4 t33 M) fun M1 =>
  YE l 0 M1 Q
theorem T_fettlelaw3_awake_2 {l : Nat} {x4 x6 x7 : Value} {M : Store} {Q : Value → Store → Prop} (h : S_fettlelaw3_awake_2 l x4 x6 x7 M Q) : P_fettlelaw3_awake_2 l x4 x6 x7 M Q := by
  intro f h4 h6 h7; subst h4; subst h6; subst h7
  unfold AtY
  exact rule (B := 1000) (N := 64) (ct := .no)
    [⟨0, fun a M => kfinY l Q 0 a M, fun a M => kfinY l Q 0 a M⟩]
    [] [0] (by kernel_rfl) (by kernel_rfl) (by kernel_rfl) (by kernel_rfl) (by kernel_rfl)
    ⟨fun _ _ _ h => h,
    trivial⟩
    (cast (by kernel_rfl) h)
def S_fettlelaw3_awake_3 (ds : List Deferred) (x1 x2 x3 x4 : Value) (M : Store) (Q : Value → Store → Prop) : Prop :=
  OP (lenV x1) fun t35 =>
  OP (binI .eql t35 (.int .i64 21)) fun t36 =>
  BR t36 (
  OP (lenV x2) fun t39 =>
  OP (binI .eql t39 (.int .i64 2)) fun t40 =>
  BR t40 (
  OP (binI .eql x3 (.int .i64 21)) fun t44 =>
  BR t44 (
  OP (ixA 1 x2 (.int .i64 0)) fun t48 =>
  OP (ld 1 false t48 M) fun t49 =>
  OP (cvBS t49 M) fun t50 =>
  OP (binS .eql t50 (.string ⟨#[97]⟩)) fun t51 =>
  BR t51 (
  OP (ixA 1 x2 (.int .i64 1)) fun t55 =>
  OP (ld 1 false t55 M) fun t56 =>
  OP (lenV t56) fun t57 =>
  OP (binI .eql t57 (.int .i64 0)) fun t58 =>
  BR t58 (
  OP (ld 1 false x4 M) fun t61 =>
  OP (binI .eql t61 (.int .i64 12)) fun t62 =>
  OP (atake ds M) fun M1 =>
  NTs [t62] ∧ Q t62 M1
  ) (
  OP (atake ds M) fun M2 =>
  NTs [(.bool false)] ∧ Q (.bool false) M2
  )
  ) (
  OP (atake ds M) fun M3 =>
  NTs [(.bool false)] ∧ Q (.bool false) M3
  )
  ) (
  OP (atake ds M) fun M4 =>
  NTs [(.bool false)] ∧ Q (.bool false) M4
  )
  ) (
  OP (atake ds M) fun M5 =>
  NTs [(.bool false)] ∧ Q (.bool false) M5
  )
  ) (
  OP (atake ds M) fun M6 =>
  NTs [(.bool false)] ∧ Q (.bool false) M6
  )
theorem T_fettlelaw3_awake_3 {ds : List Deferred} {x1 x2 x3 x4 : Value} {M : Store} {Q : Value → Store → Prop} (h : S_fettlelaw3_awake_3 ds x1 x2 x3 x4 M Q) : P_fettlelaw3_awake_3 ds x1 x2 x3 x4 M Q := by
  intro f h1 h2 h3 h4; subst h1; subst h2; subst h3; subst h4
  unfold At
  exact rule (B := 1000) (N := 64) (ct := .no)
    [⟨1, fun a M => kfin Try.prog Try.f18.results.toList Q 1 a M, fun a M => kfin Try.prog Try.f18.results.toList Q 1 a M⟩]
    [] [1] (by kernel_rfl) (by kernel_rfl) (by kernel_rfl) (by kernel_rfl) (by kernel_rfl)
    ⟨fun _ _ _ h => h,
    trivial⟩
    (cast (by kernel_rfl) h)
def P_fettlelaw3_Frames_1 (x0 x3 x4 : Value) (M : Store) (Q : Value → Store → Prop) : Prop :=
  ∀ f : Nat → Value, f 0 = x0 → f 3 = x3 → f 4 = x4 → At Try.prog Ex none Try.f19 [1, 1, 0, 1, 0] ⟨⟨22, f⟩, []⟩ M Q
def P_fettlelaw3_Frames_2 (x3 : Value) (M : Store) (Q : Value → Store → Prop) : Prop :=
  ∀ f : Nat → Value, f 3 = x3 → At Try.prog Ex none Try.f19 [1, 1, 1] ⟨⟨22, f⟩, []⟩ M Q
def S_fettlelaw3_Frames (x0 : Value) (M : Store) (Q : Value → Store → Prop) : Prop :=
  P_fettlelaw3_Frames_1 x0 (.slice none 0 0) (.int .i64 0) M Q
theorem T_fettlelaw3_Frames {x0 : Value} {M : Store} {Q : Value → Store → Prop} (h : S_fettlelaw3_Frames x0 M Q) : R F.fettlelaw3_Frames #[x0] M Q := by
  refine runs_of (c := bodyOf Try.f19) Try.func19 rfl (by kernel_rfl) (by kernel_rfl) ?_
  unfold At
  exact rule (B := 1000) (N := 22) (ct := (.two .no (.two .no (.two (.two .no (.two (.here 1000) .no)) (.here 1001)))))
    [⟨1002, fun a M => dfr a.defers (P_fettlelaw3_Frames_1 (a.get 0) (a.get 3) (a.get 4) M Q), fun a M => At Try.prog Ex none Try.f19 [1, 1, 0, 1, 0] a M Q⟩,
    ⟨1003, fun _ _ => False, fun a M => At Try.prog Ex none Try.f19 [1, 1, 1] a M Q⟩]
    [1000, 1001] [] (by kernel_rfl) (by kernel_rfl) (by kernel_rfl) (by kernel_rfl) (by kernel_rfl)
    ⟨fun a M hn h => by obtain ⟨⟨n, f⟩, ds⟩ := a; have hn : n = 22 := hn; subst hn; obtain ⟨hd, h⟩ := dfr_iff h; have hd : ds = [] := hd; subst hd; exact h f rfl rfl rfl,
    fun _ _ _ h => h.elim,
    trivial⟩
    (cast (by kernel_rfl) h)
def S_fettlelaw3_Frames_1 (x0 x3 x4 : Value) (M : Store) (Q : Value → Store → Prop) : Prop :=
  OP (lenV x0) fun t7 =>
  OP (binI .lss x4 t7) fun t8 =>
  BR t8 (
  OP (binI .lss x4 (.int .i64 10)) fun t11 =>
  BR t11 (
  OP (ixA 1 x0 x4) fun t18 =>
  OP (ld 1 false t18 M) fun t19 =>
  R F.fettleref1_Put #[x3, t19] M fun t20 M1 =>
  OP (binI .add x4 (.int .i64 1)) fun t14 =>
  P_fettlelaw3_Frames_1 x0 t20 t14 M1 Q
  ) (
  P_fettlelaw3_Frames_2 x3 M Q
  )
  ) (
  P_fettlelaw3_Frames_2 x3 M Q
  )
theorem T_fettlelaw3_Frames_1 {x0 x3 x4 : Value} {M : Store} {Q : Value → Store → Prop} (h : S_fettlelaw3_Frames_1 x0 x3 x4 M Q) : P_fettlelaw3_Frames_1 x0 x3 x4 M Q := by
  intro f h0 h3 h4; subst h0; subst h3; subst h4
  unfold At
  refine cast (by kernel_rfl) (CW.loop (P := Try.prog) (E := Ex) (rd := none) (x := sub (bodyOf Try.f19) [1, 1, 0, 1, 0, 0]) (a := ⟨⟨22, f⟩, []⟩) (M := M) (K := kcont Try.prog Ex none (bodyOf Try.f19) [1, 1, 0, 1, 0] (kfin Try.prog Try.f19.results.toList Q)) ?_)
  exact rule (B := 1000) (N := 22) (ct := .no)
    [⟨0, fun a M => dfr a.defers (P_fettlelaw3_Frames_1 (a.get 0) (a.get 3) (a.get 4) M Q), fun a M => At Try.prog Ex none Try.f19 [1, 1, 0, 1, 0] a M Q⟩,
    ⟨2, fun a M => dfr a.defers (P_fettlelaw3_Frames_2 (a.get 3) M Q), fun a M => At Try.prog Ex none Try.f19 [1, 1, 1] a M Q⟩]
    [] [0, 2] (by kernel_rfl) (by kernel_rfl) (by kernel_rfl) (by kernel_rfl) (by kernel_rfl)
    ⟨fun a M hn h => by obtain ⟨⟨n, f⟩, ds⟩ := a; have hn : n = 22 := hn; subst hn; obtain ⟨hd, h⟩ := dfr_iff h; have hd : ds = [] := hd; subst hd; exact h f rfl rfl rfl,
    fun a M hn h => by obtain ⟨⟨n, f⟩, ds⟩ := a; have hn : n = 22 := hn; subst hn; obtain ⟨hd, h⟩ := dfr_iff h; have hd : ds = [] := hd; subst hd; exact h f rfl,
    trivial⟩
    (cast (by kernel_rfl) h)
def S_fettlelaw3_Frames_2 (x3 : Value) (M : Store) (Q : Value → Store → Prop) : Prop :=
  NTs [x3] ∧ Q x3 M
theorem T_fettlelaw3_Frames_2 {x3 : Value} {M : Store} {Q : Value → Store → Prop} (h : S_fettlelaw3_Frames_2 x3 M Q) : P_fettlelaw3_Frames_2 x3 M Q := by
  intro f h3; subst h3
  unfold At
  exact rule (B := 1000) (N := 22) (ct := .no)
    [⟨1, fun a M => kfin Try.prog Try.f19.results.toList Q 1 a M, fun a M => kfin Try.prog Try.f19.results.toList Q 1 a M⟩]
    [] [1] (by kernel_rfl) (by kernel_rfl) (by kernel_rfl) (by kernel_rfl) (by kernel_rfl)
    ⟨fun _ _ _ h => h,
    trivial⟩
    (cast (by kernel_rfl) h)
def S_fram_Put (x0 x1 : Value) (M : Store) (Q : Value → Store → Prop) : Prop :=
  R F.code_Bytes #[(.slice none 0 0), x1] M fun t7 M1 =>
  R F.fram_sum #[t7] M1 fun t11 M2 =>
  OP (bldL (.slice none 0 0) 1 3 [(0, x0), (1, t7), (2, t11)]) fun c =>
  LT (.slice (some ⟨M2.n, 0, none⟩) 3 3) (M2.push (some (.inl (c, Ty.sl_uint8, true)))) fun t12 M3 =>
  R F.slices_Concat_sl_byte_byte #[t12] M3 fun t13 M4 =>
  NTs [t13] ∧ Q t13 M4
theorem T_fram_Put {x0 x1 : Value} {M : Store} {Q : Value → Store → Prop} (h : S_fram_Put x0 x1 M Q) : R F.fram_Put #[x0, x1] M Q := by
  refine runs_of (c := bodyOf Try.f20) Try.func20 rfl (by kernel_rfl) (by kernel_rfl) ?_
  unfold At
  exact rule (B := 1000) (N := 14) (ct := .no)
    [⟨1, fun a M => kfin Try.prog Try.f20.results.toList Q 1 a M, fun a M => kfin Try.prog Try.f20.results.toList Q 1 a M⟩]
    [] [1] (by kernel_rfl) (by kernel_rfl) (by kernel_rfl) (by kernel_rfl) (by kernel_rfl)
    ⟨fun _ _ _ h => h,
    trivial⟩
    (cast (by kernel_rfl) h)
def S_fettleref1_Put (x0 x1 : Value) (M : Store) (Q : Value → Store → Prop) : Prop :=
  R F.fettleref1_Bytes #[(.slice none 0 0), x1] M fun t8 M1 =>
  R F.fettleref1_Sum #[t8] M1 fun t10 M2 =>
  OP (bldL (.int .u8 0) 1 0 []) fun c =>
  LT (.slice (some ⟨M2.n, 0, none⟩) 0 0) (M2.push (some (.inl (c, Ty.uint8, true)))) fun t11 M3 =>
  OP2 (appV 1 Ty.uint8 t11 x0 M3) fun t13 M4 =>
  OP2 (appV 1 Ty.uint8 t13 t8 M4) fun t15 M5 =>
  OP (binI .shr t10 (.int .u64 24)) fun t17 =>
  OP (cvI .u8 t17) fun t18 =>
  OP (binI .shr t10 (.int .u64 16)) fun t20 =>
  OP (cvI .u8 t20) fun t21 =>
  OP (binI .shr t10 (.int .u64 8)) fun t23 =>
  OP (cvI .u8 t23) fun t24 =>
  OP (cvI .u8 t10) fun t26 =>
  OP (bldL (.int .u8 0) 1 4 [(0, t18), (1, t21), (2, t24), (3, t26)]) fun c_1 =>
  LT (.slice (some ⟨M5.n, 0, none⟩) 4 4) (M5.push (some (.inl (c_1, Ty.uint8, true)))) fun t27 M6 =>
  OP2 (appV 1 Ty.uint8 t15 t27 M6) fun t28 M7 =>
  NTs [t28] ∧ Q t28 M7
theorem T_fettleref1_Put {x0 x1 : Value} {M : Store} {Q : Value → Store → Prop} (h : S_fettleref1_Put x0 x1 M Q) : R F.fettleref1_Put #[x0, x1] M Q := by
  refine runs_of (c := bodyOf Try.f21) Try.func21 rfl (by kernel_rfl) (by kernel_rfl) ?_
  unfold At
  exact rule (B := 1000) (N := 29) (ct := .no)
    [⟨1, fun a M => kfin Try.prog Try.f21.results.toList Q 1 a M, fun a M => kfin Try.prog Try.f21.results.toList Q 1 a M⟩]
    [] [1] (by kernel_rfl) (by kernel_rfl) (by kernel_rfl) (by kernel_rfl) (by kernel_rfl)
    ⟨fun _ _ _ h => h,
    trivial⟩
    (cast (by kernel_rfl) h)
def P_fram_Scan_1 (ds : List Deferred) (x4 x5 x9 : Value) (M : Store) (Q : Value → Store → Prop) : Prop :=
  ∀ f : Nat → Value, f 4 = x4 → f 5 = x5 → f 9 = x9 → At Try.prog Ex none Try.f22 [1, 1, 1, 0, 1, 0] ⟨⟨25, f⟩, ds⟩ M Q
def P_fram_Scan_2 (l : Nat) (x4 x5 x6 x7 : Value) (M : Store) (Q : Value → Store → Prop) : Prop :=
  ∀ f : Nat → Value, f 4 = x4 → f 5 = x5 → f 6 = x6 → f 7 = x7 → AtY Try.prog Ex l Try.f22 [1, 1, 1, 0, 1, 0, 1] [] ⟨⟨25, f⟩, []⟩ M Q
def P_fram_Scan_3 (ds : List Deferred) (x4 x5 : Value) (M : Store) (Q : Value → Store → Prop) : Prop :=
  ∀ f : Nat → Value, f 4 = x4 → f 5 = x5 → At Try.prog Ex none Try.f22 [1, 1, 1, 1] ⟨⟨25, f⟩, ds⟩ M Q
def S_fram_Scan (x0 : Value) (M : Store) (Q : Value → Store → Prop) : Prop :=
  LT (.pointer (some ⟨M.n, 0, none⟩)) (M.push (some (.inl ([(.slice none 0 0)], Ty.sl_sl_uint8, true)))) fun t4 M1 =>
  LT (.pointer (some ⟨M1.n, 0, none⟩)) (M1.push (some (.inl ([(.int .i64 0)], Ty.int, true)))) fun t5 M2 =>
  OP (st 1 t5 (.int .i64 0) M2) fun M3 =>
  R F.fram_All #[x0] M3 fun t9 M4 =>
  P_fram_Scan_1 [] t4 t5 t9 M4 Q
theorem T_fram_Scan {x0 : Value} {M : Store} {Q : Value → Store → Prop} (h : S_fram_Scan x0 M Q) : R F.fram_Scan #[x0] M Q := by
  refine runs_of (c := bodyOf Try.f22) Try.func22 rfl (by kernel_rfl) (by kernel_rfl) ?_
  unfold At
  exact rule (B := 1000) (N := 25) (ct := (.two .no (.two .no (.two .no (.two (.two .no (.two (.here 1000) .no)) (.here 1001))))))
    [⟨1002, fun a M => P_fram_Scan_1 a.defers (a.get 4) (a.get 5) (a.get 9) M Q, fun a M => At Try.prog Ex none Try.f22 [1, 1, 1, 0, 1, 0] a M Q⟩,
    ⟨1003, fun _ _ => False, fun a M => At Try.prog Ex none Try.f22 [1, 1, 1, 1] a M Q⟩]
    [1000, 1001] [] (by kernel_rfl) (by kernel_rfl) (by kernel_rfl) (by kernel_rfl) (by kernel_rfl)
    ⟨fun a M hn h => by obtain ⟨⟨n, f⟩, ds⟩ := a; have hn : n = 25 := hn; subst hn; exact h f rfl rfl rfl,
    fun _ _ _ h => h.elim,
    trivial⟩
    (cast (by kernel_rfl) h)
/-- The record of the range, and a round. -/
def RC_fram_Scan_1 (x4 x5 : Value) (st : LoopState) (pe : Nat) (rc : LRec) : Prop := ∃ f : Nat → Value, f 4 = x4 ∧ f 5 = x5 ∧ rc = ⟨st, pe, ⟨25, f⟩, #[10, 11], (sub (bodyOf Try.f22) [1, 1, 1, 0, 1, 0, 0]), (sub (bodyOf Try.f22) [1, 1, 1, 0, 1, 0, 1])⟩
def SY_fram_Scan_1 (l : Nat) (x4 x5 : Value) (y10 y11 : Value) (M : Store) (Q : Value → Store → Prop) : Prop :=
  OP (recOf M l) fun r => r.st = .ready ∧
  P_fram_Scan_2 l x4 x5 y10 y11 (putRec M l { r with st := .busy }) Q
theorem Y_fram_Scan_1 {l pe : Nat} {x4 x5 : Value} {y10 y11 : Value} {M : Store} {Q : Value → Store → Prop} {rc : LRec} (hr : recOf M l = some rc) (hc : RC_fram_Scan_1 x4 x5 .ready pe rc) (h : SY_fram_Scan_1 l x4 x5 y10 y11 M Q) : RunsY Try.prog Ex l #[y10, y11] M Q := by
  obtain ⟨f, h4, h5, hc⟩ := hc; subst h4; subst h5; subst hc
  refine runsY_of (args := [y10, y11]) hr (by kernel_rfl) ?_
  exact rule (B := 1000) (N := 25) (ct := .no)
    [⟨0, fun a M => OP (recOf M l) fun r => r.st = .ready ∧ dfr a.defers (P_fram_Scan_2 l (a.get 4) (a.get 5) (a.get 6) (a.get 7) (putRec M l { r with st := .busy }) Q), fun a M => kmid Try.prog Ex l (sub (bodyOf Try.f22) [1, 1, 1, 0, 1, 0, 1]) Q 0 a M⟩]
    [] [0] (by kernel_rfl) (by kernel_rfl) (by kernel_rfl) (by kernel_rfl) (by kernel_rfl)
    ⟨fun a M hn h => by obtain ⟨⟨n, f⟩, ds⟩ := a; have hn : n = 25 := hn; subst hn; obtain ⟨r, hr, hs, h⟩ := OP_iff.1 h; obtain ⟨hd, h⟩ := dfr_iff h; have hd : ds = [] := hd; subst hd; exact OP_iff.2 ⟨r, hr, hs, cast (by kernel_rfl) (h f rfl rfl rfl rfl)⟩, trivial⟩
    (cast (by kernel_rfl) h)
def S_fram_Scan_1 (ds : List Deferred) (x4 x5 x9 : Value) (M : Store) (Q : Value → Store → Prop) : Prop :=
  ∀ rc : LRec, RC_fram_Scan_1 x4 x5 .ready 0 rc →
  rfc Try.prog Ex x9 (M.n + 1) ((M.push (some (.inr (.inr none)))).push (some (.inr (.inr (some rc))))) fun _ M1 =>
  OP (recOf M1 (M.n + 1)) fun r => r.st ≠ .busy ∧
  bif Nat.beq 0 r.pe then (
  P_fram_Scan_3 ({ target := .collected M.n, args := #[] } :: ds) x4 x5 (putRec M1 (M.n + 1) { r with st := .exhausted }) Q
  ) else
  False
theorem T_fram_Scan_1 {ds : List Deferred} {x4 x5 x9 : Value} {M : Store} {Q : Value → Store → Prop} (h : S_fram_Scan_1 ds x4 x5 x9 M Q) : P_fram_Scan_1 ds x4 x5 x9 M Q := by
  intro f h4 h5 h9; subst h4; subst h5; subst h9
  unfold At
  refine cast (by kernel_rfl) (CW.rf (P := Try.prog) (E := Ex) (g := .tmp 9) (ps := #[10, 11]) (x := (sub (bodyOf Try.f22) [1, 1, 1, 0, 1, 0, 0])) (y := (sub (bodyOf Try.f22) [1, 1, 1, 0, 1, 0, 1])) (a := ⟨⟨25, f⟩, ds⟩) (M := M) (K := kcont Try.prog Ex none (bodyOf Try.f22) [1, 1, 1, 0, 1, 0] (kfin Try.prog Try.f22.results.toList Q)) ?_)
  refine cast (by kernel_rfl) (rfc_mono (k' := fun _ M' => OP (recOf M' (M.n + 1)) fun r => r.st ≠ .busy ∧ kcont Try.prog Ex none (bodyOf Try.f22) [1, 1, 1, 0, 1, 0] (kfin Try.prog Try.f22.results.toList Q) r.pe ⟨⟨25, f⟩, { target := .collected M.n, args := #[] } :: ds⟩ (putRec M' (M.n + 1) { r with st := .exhausted })) (h ⟨.ready, 0, ⟨25, f⟩, #[10, 11], (sub (bodyOf Try.f22) [1, 1, 1, 0, 1, 0, 0]), (sub (bodyOf Try.f22) [1, 1, 1, 0, 1, 0, 1])⟩ ⟨f, rfl, rfl, rfl⟩) ?_)
  intro _ M1 h
  obtain ⟨r, hr, hs, h⟩ := OP_iff.1 h
  refine OP_iff.2 ⟨r, hr, hs, ?_⟩
  exact disp_K (N := 25) (L := [⟨0, fun a M => P_fram_Scan_3 a.defers (a.get 4) (a.get 5) M Q, fun a M => At Try.prog Ex none Try.f22 [1, 1, 1, 1] a M Q⟩])
    [0] (by kernel_rfl) (by kernel_rfl)
    ⟨fun a M hn h => by obtain ⟨⟨n, f⟩, ds⟩ := a; have hn : n = 25 := hn; subst hn; exact h f rfl rfl,
    trivial⟩
    rfl (cast (by kernel_rfl) h)
def S_fram_Scan_2 (l : Nat) (x4 x5 x6 x7 : Value) (M : Store) (Q : Value → Store → Prop) : Prop :=
  OP (ld 1 false x4 M) fun t12 =>
  OP (bldL (.slice none 0 0) 1 1 [(0, x7)]) fun c =>
  LT (.slice (some ⟨M.n, 0, none⟩) 1 1) (M.push (some (.inl (c, Ty.sl_uint8, true)))) fun t14 M1 =>
  OP2 (appV 1 Ty.sl_uint8 t12 t14 M1) fun t15 M2 =>
  OP (st 1 x4 t15 M2) fun M3 =>
  OP (binI .add x6 (.int .i64 6)) fun t17 =>
  OP (lenV x7) fun t19 =>
  OP (binI .add t17 t19) fun t20 =>
  OP (binI .add t20 (.int .i64 4)) fun t21 =>
  OP (st 1 x5 t21 M3) fun M4 =>
  YE l 0 M4 Q
theorem T_fram_Scan_2 {l : Nat} {x4 x5 x6 x7 : Value} {M : Store} {Q : Value → Store → Prop} (h : S_fram_Scan_2 l x4 x5 x6 x7 M Q) : P_fram_Scan_2 l x4 x5 x6 x7 M Q := by
  intro f h4 h5 h6 h7; subst h4; subst h5; subst h6; subst h7
  unfold AtY
  exact rule (B := 1000) (N := 25) (ct := .no)
    [⟨0, fun a M => kfinY l Q 0 a M, fun a M => kfinY l Q 0 a M⟩]
    [] [0] (by kernel_rfl) (by kernel_rfl) (by kernel_rfl) (by kernel_rfl) (by kernel_rfl)
    ⟨fun _ _ _ h => h,
    trivial⟩
    (cast (by kernel_rfl) h)
def S_fram_Scan_3 (ds : List Deferred) (x4 x5 : Value) (M : Store) (Q : Value → Store → Prop) : Prop :=
  OP (ld 1 false x4 M) fun t22 =>
  R F.slices_Clip_sl_sl_byte_sl_byte #[t22] M fun t23 M1 =>
  TDj [0] [M.n, M.n] M M1 ∧
  OP (ld 1 false x5 M1) fun t24 =>
  OP (atake ds M1) fun M2 =>
  NTs [t23, t24] ∧ Q (.tuple #[t23, t24]) M2
theorem T_fram_Scan_3 {ds : List Deferred} {x4 x5 : Value} {M : Store} {Q : Value → Store → Prop} (h : S_fram_Scan_3 ds x4 x5 M Q) : P_fram_Scan_3 ds x4 x5 M Q := by
  intro f h4 h5; subst h4; subst h5
  unfold At
  exact rule (B := 1000) (N := 25) (ct := .no)
    [⟨1, fun a M => kfin Try.prog Try.f22.results.toList Q 1 a M, fun a M => kfin Try.prog Try.f22.results.toList Q 1 a M⟩]
    [] [1] (by kernel_rfl) (by kernel_rfl) (by kernel_rfl) (by kernel_rfl) (by kernel_rfl)
    ⟨fun _ _ _ h => h,
    trivial⟩
    (cast (by kernel_rfl) h)
def P_fettleref1_Scan_1 (x0 x4 x5 : Value) (M : Store) (Q : Value → Store → Prop) : Prop :=
  ∀ f : Nat → Value, f 0 = x0 → f 4 = x4 → f 5 = x5 → At Try.prog Ex none Try.f23 [1, 1, 1, 0] ⟨⟨25, f⟩, []⟩ M Q
def S_fettleref1_Scan (x0 : Value) (M : Store) (Q : Value → Store → Prop) : Prop :=
  P_fettleref1_Scan_1 x0 (.slice none 0 0) (.int .i64 0) M Q
theorem T_fettleref1_Scan {x0 : Value} {M : Store} {Q : Value → Store → Prop} (h : S_fettleref1_Scan x0 M Q) : R F.fettleref1_Scan #[x0] M Q := by
  refine runs_of (c := bodyOf Try.f23) Try.func23 rfl (by kernel_rfl) (by kernel_rfl) ?_
  unfold At
  exact rule (B := 1000) (N := 25) (ct := (.two .no (.two .no (.two .no (.two (.here 1000) .no)))))
    [⟨1002, fun a M => dfr a.defers (P_fettleref1_Scan_1 (a.get 0) (a.get 4) (a.get 5) M Q), fun a M => At Try.prog Ex none Try.f23 [1, 1, 1, 0] a M Q⟩]
    [1000] [] (by kernel_rfl) (by kernel_rfl) (by kernel_rfl) (by kernel_rfl) (by kernel_rfl)
    ⟨fun a M hn h => by obtain ⟨⟨n, f⟩, ds⟩ := a; have hn : n = 25 := hn; subst hn; obtain ⟨hd, h⟩ := dfr_iff h; have hd : ds = [] := hd; subst hd; exact h f rfl rfl rfl,
    trivial⟩
    (cast (by kernel_rfl) h)
def S_fettleref1_Scan_1 (x0 x4 x5 : Value) (M : Store) (Q : Value → Store → Prop) : Prop :=
  R F.fettleref1_frame #[x0, x5] M fun t12 M1 =>
  OP (tup t12 0) fun t13 =>
  OP (tup t12 1) fun t14 =>
  OP (tup t12 2) fun t15 =>
  OP (aun .not t15) fun t17 =>
  BR t17 (
  NTs [x4, x5] ∧ Q (.tuple #[x4, x5]) M1
  ) (
  OP (bldL (.slice none 0 0) 1 1 [(0, t13)]) fun c =>
  LT (.slice (some ⟨M1.n, 0, none⟩) 1 1) (M1.push (some (.inl (c, Ty.sl_uint8, true)))) fun t22 M2 =>
  OP2 (appV 1 Ty.sl_uint8 x4 t22 M2) fun t23 M3 =>
  P_fettleref1_Scan_1 x0 t23 t14 M3 Q
  )
theorem T_fettleref1_Scan_1 {x0 x4 x5 : Value} {M : Store} {Q : Value → Store → Prop} (h : S_fettleref1_Scan_1 x0 x4 x5 M Q) : P_fettleref1_Scan_1 x0 x4 x5 M Q := by
  intro f h0 h4 h5; subst h0; subst h4; subst h5
  unfold At
  refine cast (by kernel_rfl) (CW.loop (P := Try.prog) (E := Ex) (rd := none) (x := sub (bodyOf Try.f23) [1, 1, 1, 0, 0]) (a := ⟨⟨25, f⟩, []⟩) (M := M) (K := kcont Try.prog Ex none (bodyOf Try.f23) [1, 1, 1, 0] (kfin Try.prog Try.f23.results.toList Q)) ?_)
  exact rule (B := 1000) (N := 25) (ct := .no)
    [⟨0, fun a M => dfr a.defers (P_fettleref1_Scan_1 (a.get 0) (a.get 4) (a.get 5) M Q), fun a M => At Try.prog Ex none Try.f23 [1, 1, 1, 0] a M Q⟩,
    ⟨1, fun a M => kfin Try.prog Try.f23.results.toList Q 1 a M, fun a M => kfin Try.prog Try.f23.results.toList Q 1 a M⟩]
    [] [0, 1] (by kernel_rfl) (by kernel_rfl) (by kernel_rfl) (by kernel_rfl) (by kernel_rfl)
    ⟨fun a M hn h => by obtain ⟨⟨n, f⟩, ds⟩ := a; have hn : n = 25 := hn; subst hn; obtain ⟨hd, h⟩ := dfr_iff h; have hd : ds = [] := hd; subst hd; exact h f rfl rfl rfl,
    fun _ _ _ h => h,
    trivial⟩
    (cast (by kernel_rfl) h)
def P_fettleref1_SameRows_1 (x0 x1 x5 : Value) (M : Store) (Q : Value → Store → Prop) : Prop :=
  ∀ f : Nat → Value, f 0 = x0 → f 1 = x1 → f 5 = x5 → At Try.prog Ex none Try.f24 [1, 1, 0, 1, 0] ⟨⟨28, f⟩, []⟩ M Q
def P_fettleref1_SameRows_2 (x0 x1 x5 : Value) (M : Store) (Q : Value → Store → Prop) : Prop :=
  ∀ f : Nat → Value, f 0 = x0 → f 1 = x1 → f 5 = x5 → At Try.prog Ex none Try.f24 [1, 1, 0, 1, 0, 0, 1] ⟨⟨28, f⟩, []⟩ M Q
def P_fettleref1_SameRows_3 (M : Store) (Q : Value → Store → Prop) : Prop :=
  ∀ f : Nat → Value, At Try.prog Ex none Try.f24 [1, 1, 1] ⟨⟨28, f⟩, []⟩ M Q
def S_fettleref1_SameRows (x0 x1 : Value) (M : Store) (Q : Value → Store → Prop) : Prop :=
  OP (lenV x0) fun t7 =>
  OP (lenV x1) fun t9 =>
  OP (binI .neq t7 t9) fun t10 =>
  BR t10 (
  NTs [(.bool false)] ∧ Q (.bool false) M
  ) (
  P_fettleref1_SameRows_1 x0 x1 (.int .i64 0) M Q
  )
theorem T_fettleref1_SameRows {x0 x1 : Value} {M : Store} {Q : Value → Store → Prop} (h : S_fettleref1_SameRows x0 x1 M Q) : R F.fettleref1_SameRows #[x0, x1] M Q := by
  refine runs_of (c := bodyOf Try.f24) Try.func24 rfl (by kernel_rfl) (by kernel_rfl) ?_
  unfold At
  exact rule (B := 1000) (N := 28) (ct := (.two .no (.two .no (.two (.two .no (.two (.here 1000) .no)) (.here 1001)))))
    [⟨1002, fun a M => dfr a.defers (P_fettleref1_SameRows_1 (a.get 0) (a.get 1) (a.get 5) M Q), fun a M => At Try.prog Ex none Try.f24 [1, 1, 0, 1, 0] a M Q⟩,
    ⟨1003, fun _ _ => False, fun a M => At Try.prog Ex none Try.f24 [1, 1, 1] a M Q⟩,
    ⟨1, fun a M => kfin Try.prog Try.f24.results.toList Q 1 a M, fun a M => kfin Try.prog Try.f24.results.toList Q 1 a M⟩]
    [1000, 1001] [1] (by kernel_rfl) (by kernel_rfl) (by kernel_rfl) (by kernel_rfl) (by kernel_rfl)
    ⟨fun a M hn h => by obtain ⟨⟨n, f⟩, ds⟩ := a; have hn : n = 28 := hn; subst hn; obtain ⟨hd, h⟩ := dfr_iff h; have hd : ds = [] := hd; subst hd; exact h f rfl rfl rfl,
    fun _ _ _ h => h.elim,
    fun _ _ _ h => h,
    trivial⟩
    (cast (by kernel_rfl) h)
def S_fettleref1_SameRows_1 (x0 x1 x5 : Value) (M : Store) (Q : Value → Store → Prop) : Prop :=
  OP (lenV x0) fun t13 =>
  OP (binI .lss x5 t13) fun t14 =>
  BR t14 (
  P_fettleref1_SameRows_2 x0 x1 x5 M Q
  ) (
  P_fettleref1_SameRows_3 M Q
  )
theorem T_fettleref1_SameRows_1 {x0 x1 x5 : Value} {M : Store} {Q : Value → Store → Prop} (h : S_fettleref1_SameRows_1 x0 x1 x5 M Q) : P_fettleref1_SameRows_1 x0 x1 x5 M Q := by
  intro f h0 h1 h5; subst h0; subst h1; subst h5
  unfold At
  refine cast (by kernel_rfl) (CW.loop (P := Try.prog) (E := Ex) (rd := none) (x := sub (bodyOf Try.f24) [1, 1, 0, 1, 0, 0]) (a := ⟨⟨28, f⟩, []⟩) (M := M) (K := kcont Try.prog Ex none (bodyOf Try.f24) [1, 1, 0, 1, 0] (kfin Try.prog Try.f24.results.toList Q)) ?_)
  exact rule (B := 1000) (N := 28) (ct := (.two .no (.here 1000)))
    [⟨1002, fun a M => dfr a.defers (P_fettleref1_SameRows_2 (a.get 0) (a.get 1) (a.get 5) M Q), fun a M => At Try.prog Ex none Try.f24 [1, 1, 0, 1, 0, 0, 1] a M Q⟩,
    ⟨2, fun a M => dfr a.defers (P_fettleref1_SameRows_3 M Q), fun a M => At Try.prog Ex none Try.f24 [1, 1, 1] a M Q⟩]
    [1000] [2] (by kernel_rfl) (by kernel_rfl) (by kernel_rfl) (by kernel_rfl) (by kernel_rfl)
    ⟨fun a M hn h => by obtain ⟨⟨n, f⟩, ds⟩ := a; have hn : n = 28 := hn; subst hn; obtain ⟨hd, h⟩ := dfr_iff h; have hd : ds = [] := hd; subst hd; exact h f rfl rfl rfl,
    fun a M hn h => by obtain ⟨⟨n, f⟩, ds⟩ := a; have hn : n = 28 := hn; subst hn; obtain ⟨hd, h⟩ := dfr_iff h; have hd : ds = [] := hd; subst hd; exact h f,
    trivial⟩
    (cast (by kernel_rfl) h)
def S_fettleref1_SameRows_2 (x0 x1 x5 : Value) (M : Store) (Q : Value → Store → Prop) : Prop :=
  OP (ixA 1 x0 x5) fun t19 =>
  OP (ld 1 false t19 M) fun t20 =>
  OP (cvBS t20 M) fun t21 =>
  OP (ixA 1 x1 x5) fun t24 =>
  OP (ld 1 false t24 M) fun t25 =>
  OP (cvBS t25 M) fun t26 =>
  OP (binS .neq t21 t26) fun t27 =>
  BR t27 (
  NTs [(.bool false)] ∧ Q (.bool false) M
  ) (
  OP (binI .add x5 (.int .i64 1)) fun t16 =>
  P_fettleref1_SameRows_1 x0 x1 t16 M Q
  )
theorem T_fettleref1_SameRows_2 {x0 x1 x5 : Value} {M : Store} {Q : Value → Store → Prop} (h : S_fettleref1_SameRows_2 x0 x1 x5 M Q) : P_fettleref1_SameRows_2 x0 x1 x5 M Q := by
  intro f h0 h1 h5; subst h0; subst h1; subst h5
  unfold At
  exact rule (B := 1000) (N := 28) (ct := .no)
    [⟨0, fun a M => dfr a.defers (P_fettleref1_SameRows_1 (a.get 0) (a.get 1) (a.get 5) M Q), fun a M => At Try.prog Ex none Try.f24 [1, 1, 0, 1, 0] a M Q⟩,
    ⟨1, fun a M => kfin Try.prog Try.f24.results.toList Q 1 a M, fun a M => kfin Try.prog Try.f24.results.toList Q 1 a M⟩]
    [] [0, 1] (by kernel_rfl) (by kernel_rfl) (by kernel_rfl) (by kernel_rfl) (by kernel_rfl)
    ⟨fun a M hn h => by obtain ⟨⟨n, f⟩, ds⟩ := a; have hn : n = 28 := hn; subst hn; obtain ⟨hd, h⟩ := dfr_iff h; have hd : ds = [] := hd; subst hd; exact h f rfl rfl rfl,
    fun _ _ _ h => h,
    trivial⟩
    (cast (by kernel_rfl) h)
def S_fettleref1_SameRows_3 (M : Store) (Q : Value → Store → Prop) : Prop :=
  NTs [(.bool true)] ∧ Q (.bool true) M
theorem T_fettleref1_SameRows_3 {M : Store} {Q : Value → Store → Prop} (h : S_fettleref1_SameRows_3 M Q) : P_fettleref1_SameRows_3 M Q := by
  intro f 
  unfold At
  exact rule (B := 1000) (N := 28) (ct := .no)
    [⟨1, fun a M => kfin Try.prog Try.f24.results.toList Q 1 a M, fun a M => kfin Try.prog Try.f24.results.toList Q 1 a M⟩]
    [] [1] (by kernel_rfl) (by kernel_rfl) (by kernel_rfl) (by kernel_rfl) (by kernel_rfl)
    ⟨fun _ _ _ h => h,
    trivial⟩
    (cast (by kernel_rfl) h)
def S_fram_All (x0 : Value) (M : Store) (Q : Value → Store → Prop) : Prop :=
  OP (boxv x0) fun c =>
  LT (.pointer (some ⟨M.n, 0, none⟩)) (M.push (some (.inl (c, Ty.sl_uint8, true)))) fun t1 M1 =>
  OP (ld 1 false t1 M1) fun t3 =>
  R F.slices_Clone_sl_byte_byte #[t3] M1 fun t4 M2 =>
  OP (st 1 t1 t4 M2) fun M3 =>
  OP (mkF (.func F.fram_All_c1) [] [t1]) fun t5 =>
  NTs [t5] ∧ Q t5 M3
theorem T_fram_All {x0 : Value} {M : Store} {Q : Value → Store → Prop} (h : S_fram_All x0 M Q) : R F.fram_All #[x0] M Q := by
  refine runs_of (c := bodyOf Try.f25) Try.func25 rfl (by kernel_rfl) (by kernel_rfl) ?_
  unfold At
  exact rule (B := 1000) (N := 6) (ct := .no)
    [⟨1, fun a M => kfin Try.prog Try.f25.results.toList Q 1 a M, fun a M => kfin Try.prog Try.f25.results.toList Q 1 a M⟩]
    [] [1] (by kernel_rfl) (by kernel_rfl) (by kernel_rfl) (by kernel_rfl) (by kernel_rfl)
    ⟨fun _ _ _ h => h,
    trivial⟩
    (cast (by kernel_rfl) h)
def P_fettleref1_Num_1 (x1 x5 x6 : Value) (M : Store) (Q : Value → Store → Prop) : Prop :=
  ∀ f : Nat → Value, f 1 = x1 → f 5 = x5 → f 6 = x6 → At Try.prog Ex none Try.f27 [1, 1, 1, 0, 1, 0] ⟨⟨27, f⟩, []⟩ M Q
def P_fettleref1_Num_2 (x1 x5 x6 : Value) (M : Store) (Q : Value → Store → Prop) : Prop :=
  ∀ f : Nat → Value, f 1 = x1 → f 5 = x5 → f 6 = x6 → At Try.prog Ex none Try.f27 [1, 1, 1, 0, 1, 0, 0, 1] ⟨⟨27, f⟩, []⟩ M Q
def P_fettleref1_Num_3 (x5 : Value) (M : Store) (Q : Value → Store → Prop) : Prop :=
  ∀ f : Nat → Value, f 5 = x5 → At Try.prog Ex none Try.f27 [1, 1, 1, 1] ⟨⟨27, f⟩, []⟩ M Q
def S_fettleref1_Num (x0 x1 : Value) (M : Store) (Q : Value → Store → Prop) : Prop :=
  OP (bldL (.int .u8 0) 1 0 []) fun c =>
  LT (.slice (some ⟨M.n, 0, none⟩) 0 0) (M.push (some (.inl (c, Ty.uint8, true)))) fun t7 M1 =>
  OP2 (appV 1 Ty.uint8 t7 x0 M1) fun t9 M2 =>
  OP (amax2 x1 (.int .i64 0)) fun t11 =>
  OP (amin2 t11 (.int .i64 1099511627776)) fun t12 =>
  P_fettleref1_Num_1 t12 t9 (.int .i64 5) M2 Q
theorem T_fettleref1_Num {x0 x1 : Value} {M : Store} {Q : Value → Store → Prop} (h : S_fettleref1_Num x0 x1 M Q) : R F.fettleref1_Num #[x0, x1] M Q := by
  refine runs_of (c := bodyOf Try.f27) Try.func27 rfl (by kernel_rfl) (by kernel_rfl) ?_
  unfold At
  exact rule (B := 1000) (N := 27) (ct := (.two .no (.two .no (.two .no (.two (.two .no (.two (.here 1000) .no)) (.here 1001))))))
    [⟨1002, fun a M => dfr a.defers (P_fettleref1_Num_1 (a.get 1) (a.get 5) (a.get 6) M Q), fun a M => At Try.prog Ex none Try.f27 [1, 1, 1, 0, 1, 0] a M Q⟩,
    ⟨1003, fun _ _ => False, fun a M => At Try.prog Ex none Try.f27 [1, 1, 1, 1] a M Q⟩]
    [1000, 1001] [] (by kernel_rfl) (by kernel_rfl) (by kernel_rfl) (by kernel_rfl) (by kernel_rfl)
    ⟨fun a M hn h => by obtain ⟨⟨n, f⟩, ds⟩ := a; have hn : n = 27 := hn; subst hn; obtain ⟨hd, h⟩ := dfr_iff h; have hd : ds = [] := hd; subst hd; exact h f rfl rfl rfl,
    fun _ _ _ h => h.elim,
    trivial⟩
    (cast (by kernel_rfl) h)
def S_fettleref1_Num_1 (x1 x5 x6 : Value) (M : Store) (Q : Value → Store → Prop) : Prop :=
  OP (binI .geq x6 (.int .i64 0)) fun t14 =>
  BR t14 (
  P_fettleref1_Num_2 x1 x5 x6 M Q
  ) (
  P_fettleref1_Num_3 x5 M Q
  )
theorem T_fettleref1_Num_1 {x1 x5 x6 : Value} {M : Store} {Q : Value → Store → Prop} (h : S_fettleref1_Num_1 x1 x5 x6 M Q) : P_fettleref1_Num_1 x1 x5 x6 M Q := by
  intro f h1 h5 h6; subst h1; subst h5; subst h6
  unfold At
  refine cast (by kernel_rfl) (CW.loop (P := Try.prog) (E := Ex) (rd := none) (x := sub (bodyOf Try.f27) [1, 1, 1, 0, 1, 0, 0]) (a := ⟨⟨27, f⟩, []⟩) (M := M) (K := kcont Try.prog Ex none (bodyOf Try.f27) [1, 1, 1, 0, 1, 0] (kfin Try.prog Try.f27.results.toList Q)) ?_)
  exact rule (B := 1000) (N := 27) (ct := (.two .no (.here 1000)))
    [⟨1002, fun a M => dfr a.defers (P_fettleref1_Num_2 (a.get 1) (a.get 5) (a.get 6) M Q), fun a M => At Try.prog Ex none Try.f27 [1, 1, 1, 0, 1, 0, 0, 1] a M Q⟩,
    ⟨2, fun a M => dfr a.defers (P_fettleref1_Num_3 (a.get 5) M Q), fun a M => At Try.prog Ex none Try.f27 [1, 1, 1, 1] a M Q⟩]
    [1000] [2] (by kernel_rfl) (by kernel_rfl) (by kernel_rfl) (by kernel_rfl) (by kernel_rfl)
    ⟨fun a M hn h => by obtain ⟨⟨n, f⟩, ds⟩ := a; have hn : n = 27 := hn; subst hn; obtain ⟨hd, h⟩ := dfr_iff h; have hd : ds = [] := hd; subst hd; exact h f rfl rfl rfl,
    fun a M hn h => by obtain ⟨⟨n, f⟩, ds⟩ := a; have hn : n = 27 := hn; subst hn; obtain ⟨hd, h⟩ := dfr_iff h; have hd : ds = [] := hd; subst hd; exact h f rfl,
    trivial⟩
    (cast (by kernel_rfl) h)
def S_fettleref1_Num_2 (x1 x5 x6 : Value) (M : Store) (Q : Value → Store → Prop) : Prop :=
  OP (binI .mul (.int .i64 8) x6) fun t20 =>
  OP (cvI .u64 t20) fun t21 =>
  OP (binI .shr x1 t21) fun t22 =>
  OP (cvI .u8 t22) fun t23 =>
  OP (bldL (.int .u8 0) 1 1 [(0, t23)]) fun c =>
  LT (.slice (some ⟨M.n, 0, none⟩) 1 1) (M.push (some (.inl (c, Ty.uint8, true)))) fun t24 M1 =>
  OP2 (appV 1 Ty.uint8 x5 t24 M1) fun t25 M2 =>
  OP (binI .sub x6 (.int .i64 1)) fun t16 =>
  P_fettleref1_Num_1 x1 t25 t16 M2 Q
theorem T_fettleref1_Num_2 {x1 x5 x6 : Value} {M : Store} {Q : Value → Store → Prop} (h : S_fettleref1_Num_2 x1 x5 x6 M Q) : P_fettleref1_Num_2 x1 x5 x6 M Q := by
  intro f h1 h5 h6; subst h1; subst h5; subst h6
  unfold At
  exact rule (B := 1000) (N := 27) (ct := .no)
    [⟨0, fun a M => dfr a.defers (P_fettleref1_Num_1 (a.get 1) (a.get 5) (a.get 6) M Q), fun a M => At Try.prog Ex none Try.f27 [1, 1, 1, 0, 1, 0] a M Q⟩]
    [] [0] (by kernel_rfl) (by kernel_rfl) (by kernel_rfl) (by kernel_rfl) (by kernel_rfl)
    ⟨fun a M hn h => by obtain ⟨⟨n, f⟩, ds⟩ := a; have hn : n = 27 := hn; subst hn; obtain ⟨hd, h⟩ := dfr_iff h; have hd : ds = [] := hd; subst hd; exact h f rfl rfl rfl,
    trivial⟩
    (cast (by kernel_rfl) h)
def S_fettleref1_Num_3 (x5 : Value) (M : Store) (Q : Value → Store → Prop) : Prop :=
  NTs [x5] ∧ Q x5 M
theorem T_fettleref1_Num_3 {x5 : Value} {M : Store} {Q : Value → Store → Prop} (h : S_fettleref1_Num_3 x5 M Q) : P_fettleref1_Num_3 x5 M Q := by
  intro f h5; subst h5
  unfold At
  exact rule (B := 1000) (N := 27) (ct := .no)
    [⟨1, fun a M => kfin Try.prog Try.f27.results.toList Q 1 a M, fun a M => kfin Try.prog Try.f27.results.toList Q 1 a M⟩]
    [] [1] (by kernel_rfl) (by kernel_rfl) (by kernel_rfl) (by kernel_rfl) (by kernel_rfl)
    ⟨fun _ _ _ h => h,
    trivial⟩
    (cast (by kernel_rfl) h)
def S_code_Bytes (x0 x1 : Value) (M : Store) (Q : Value → Store → Prop) : Prop :=
  OP (lenV x1) fun t7 =>
  R F.code_Num #[x0, t7] M fun t8 M1 =>
  OP2 (appV 1 Ty.uint8 t8 x1 M1) fun t10 M2 =>
  NTs [t10] ∧ Q t10 M2
theorem T_code_Bytes {x0 x1 : Value} {M : Store} {Q : Value → Store → Prop} (h : S_code_Bytes x0 x1 M Q) : R F.code_Bytes #[x0, x1] M Q := by
  refine runs_of (c := bodyOf Try.f70) Try.func70 rfl (by kernel_rfl) (by kernel_rfl) ?_
  unfold At
  exact rule (B := 1000) (N := 11) (ct := .no)
    [⟨1, fun a M => kfin Try.prog Try.f70.results.toList Q 1 a M, fun a M => kfin Try.prog Try.f70.results.toList Q 1 a M⟩]
    [] [1] (by kernel_rfl) (by kernel_rfl) (by kernel_rfl) (by kernel_rfl) (by kernel_rfl)
    ⟨fun _ _ _ h => h,
    trivial⟩
    (cast (by kernel_rfl) h)
def P_slices_Concat_sl_byte_byte_1 (x0 x3 x9 x10 x11 : Value) (M : Store) (Q : Value → Store → Prop) : Prop :=
  ∀ f : Nat → Value, f 0 = x0 → f 3 = x3 → f 9 = x9 → f 10 = x10 → f 11 = x11 → At Try.prog Ex none Try.f71 [1, 1, 0, 1, 0] ⟨⟨36, f⟩, []⟩ M Q
def P_slices_Concat_sl_byte_byte_2 (x0 x3 x9 x10 x11 : Value) (M : Store) (Q : Value → Store → Prop) : Prop :=
  ∀ f : Nat → Value, f 0 = x0 → f 3 = x3 → f 9 = x9 → f 10 = x10 → f 11 = x11 → At Try.prog Ex none Try.f71 [1, 1, 0, 1, 0, 0, 1, 1] ⟨⟨36, f⟩, []⟩ M Q
def P_slices_Concat_sl_byte_byte_3 (x0 x3 : Value) (M : Store) (Q : Value → Store → Prop) : Prop :=
  ∀ f : Nat → Value, f 0 = x0 → f 3 = x3 → At Try.prog Ex none Try.f71 [1, 1, 1] ⟨⟨36, f⟩, []⟩ M Q
def P_slices_Concat_sl_byte_byte_4 (x6 x25 x26 x27 : Value) (M : Store) (Q : Value → Store → Prop) : Prop :=
  ∀ f : Nat → Value, f 6 = x6 → f 25 = x25 → f 26 = x26 → f 27 = x27 → At Try.prog Ex none Try.f71 [1, 1, 1, 1, 0, 1, 0] ⟨⟨36, f⟩, []⟩ M Q
def P_slices_Concat_sl_byte_byte_5 (x6 : Value) (M : Store) (Q : Value → Store → Prop) : Prop :=
  ∀ f : Nat → Value, f 6 = x6 → At Try.prog Ex none Try.f71 [1, 1, 1, 1, 1] ⟨⟨36, f⟩, []⟩ M Q
def S_slices_Concat_sl_byte_byte (x0 : Value) (M : Store) (Q : Value → Store → Prop) : Prop :=
  OP (lenV x0) fun t10 =>
  P_slices_Concat_sl_byte_byte_1 x0 (.int .i64 0) x0 t10 (.int .i64 0) M Q
theorem T_slices_Concat_sl_byte_byte {x0 : Value} {M : Store} {Q : Value → Store → Prop} (h : S_slices_Concat_sl_byte_byte x0 M Q) : R F.slices_Concat_sl_byte_byte #[x0] M Q := by
  refine runs_of (c := bodyOf Try.f71) Try.func71 rfl (by kernel_rfl) (by kernel_rfl) ?_
  unfold At
  exact rule (B := 1000) (N := 36) (ct := (.two .no (.two .no (.two (.two .no (.two (.here 1000) .no)) (.here 1001)))))
    [⟨1002, fun a M => dfr a.defers (P_slices_Concat_sl_byte_byte_1 (a.get 0) (a.get 3) (a.get 9) (a.get 10) (a.get 11) M Q), fun a M => At Try.prog Ex none Try.f71 [1, 1, 0, 1, 0] a M Q⟩,
    ⟨1003, fun _ _ => False, fun a M => At Try.prog Ex none Try.f71 [1, 1, 1] a M Q⟩]
    [1000, 1001] [] (by kernel_rfl) (by kernel_rfl) (by kernel_rfl) (by kernel_rfl) (by kernel_rfl)
    ⟨fun a M hn h => by obtain ⟨⟨n, f⟩, ds⟩ := a; have hn : n = 36 := hn; subst hn; obtain ⟨hd, h⟩ := dfr_iff h; have hd : ds = [] := hd; subst hd; exact h f rfl rfl rfl rfl rfl,
    fun _ _ _ h => h.elim,
    trivial⟩
    (cast (by kernel_rfl) h)
def S_slices_Concat_sl_byte_byte_1 (x0 x3 x9 x10 x11 : Value) (M : Store) (Q : Value → Store → Prop) : Prop :=
  OP (binI .lss x11 x10) fun t12 =>
  BR t12 (
  P_slices_Concat_sl_byte_byte_2 x0 x3 x9 x10 x11 M Q
  ) (
  P_slices_Concat_sl_byte_byte_3 x0 x3 M Q
  )
theorem T_slices_Concat_sl_byte_byte_1 {x0 x3 x9 x10 x11 : Value} {M : Store} {Q : Value → Store → Prop} (h : S_slices_Concat_sl_byte_byte_1 x0 x3 x9 x10 x11 M Q) : P_slices_Concat_sl_byte_byte_1 x0 x3 x9 x10 x11 M Q := by
  intro f h0 h3 h9 h10 h11; subst h0; subst h3; subst h9; subst h10; subst h11
  unfold At
  refine cast (by kernel_rfl) (CW.loop (P := Try.prog) (E := Ex) (rd := none) (x := sub (bodyOf Try.f71) [1, 1, 0, 1, 0, 0]) (a := ⟨⟨36, f⟩, []⟩) (M := M) (K := kcont Try.prog Ex none (bodyOf Try.f71) [1, 1, 0, 1, 0] (kfin Try.prog Try.f71.results.toList Q)) ?_)
  exact rule (B := 1000) (N := 36) (ct := (.two .no (.two .no (.here 1000))))
    [⟨1002, fun a M => dfr a.defers (P_slices_Concat_sl_byte_byte_2 (a.get 0) (a.get 3) (a.get 9) (a.get 10) (a.get 11) M Q), fun a M => At Try.prog Ex none Try.f71 [1, 1, 0, 1, 0, 0, 1, 1] a M Q⟩,
    ⟨2, fun a M => dfr a.defers (P_slices_Concat_sl_byte_byte_3 (a.get 0) (a.get 3) M Q), fun a M => At Try.prog Ex none Try.f71 [1, 1, 1] a M Q⟩]
    [1000] [2] (by kernel_rfl) (by kernel_rfl) (by kernel_rfl) (by kernel_rfl) (by kernel_rfl)
    ⟨fun a M hn h => by obtain ⟨⟨n, f⟩, ds⟩ := a; have hn : n = 36 := hn; subst hn; obtain ⟨hd, h⟩ := dfr_iff h; have hd : ds = [] := hd; subst hd; exact h f rfl rfl rfl rfl rfl,
    fun a M hn h => by obtain ⟨⟨n, f⟩, ds⟩ := a; have hn : n = 36 := hn; subst hn; obtain ⟨hd, h⟩ := dfr_iff h; have hd : ds = [] := hd; subst hd; exact h f rfl rfl,
    trivial⟩
    (cast (by kernel_rfl) h)
def S_slices_Concat_sl_byte_byte_2 (x0 x3 x9 x10 x11 : Value) (M : Store) (Q : Value → Store → Prop) : Prop :=
  OP (ixA 1 x9 x11) fun t13 =>
  OP (ld 1 false t13 M) fun t14 =>
  OP (lenV t14) fun t17 =>
  OP (binI .add x3 t17) fun t18 =>
  OP (binI .lss t18 (.int .i64 0)) fun t20 =>
  BR t20 (
  OP (mkI Ty.string (.string ⟨#[108, 101, 110, 32, 111, 117, 116, 32, 111, 102, 32, 114, 97, 110, 103, 101]⟩)) fun t21 =>
  False
  ) (
  OP (binI .add x11 (.int .i64 1)) fun t22 =>
  P_slices_Concat_sl_byte_byte_1 x0 t18 x9 x10 t22 M Q
  )
theorem T_slices_Concat_sl_byte_byte_2 {x0 x3 x9 x10 x11 : Value} {M : Store} {Q : Value → Store → Prop} (h : S_slices_Concat_sl_byte_byte_2 x0 x3 x9 x10 x11 M Q) : P_slices_Concat_sl_byte_byte_2 x0 x3 x9 x10 x11 M Q := by
  intro f h0 h3 h9 h10 h11; subst h0; subst h3; subst h9; subst h10; subst h11
  unfold At
  exact rule (B := 1000) (N := 36) (ct := .no)
    [⟨0, fun a M => dfr a.defers (P_slices_Concat_sl_byte_byte_1 (a.get 0) (a.get 3) (a.get 9) (a.get 10) (a.get 11) M Q), fun a M => At Try.prog Ex none Try.f71 [1, 1, 0, 1, 0] a M Q⟩]
    [] [0] (by kernel_rfl) (by kernel_rfl) (by kernel_rfl) (by kernel_rfl) (by kernel_rfl)
    ⟨fun a M hn h => by obtain ⟨⟨n, f⟩, ds⟩ := a; have hn : n = 36 := hn; subst hn; obtain ⟨hd, h⟩ := dfr_iff h; have hd : ds = [] := hd; subst hd; exact h f rfl rfl rfl rfl rfl,
    trivial⟩
    (cast (by kernel_rfl) h)
def S_slices_Concat_sl_byte_byte_3 (x0 x3 : Value) (M : Store) (Q : Value → Store → Prop) : Prop :=
  R F.slices_Grow_sl_byte_byte #[(.slice none 0 0), x3] M fun t24 M1 =>
  OP (lenV x0) fun t26 =>
  P_slices_Concat_sl_byte_byte_4 t24 x0 t26 (.int .i64 0) M1 Q
theorem T_slices_Concat_sl_byte_byte_3 {x0 x3 : Value} {M : Store} {Q : Value → Store → Prop} (h : S_slices_Concat_sl_byte_byte_3 x0 x3 M Q) : P_slices_Concat_sl_byte_byte_3 x0 x3 M Q := by
  intro f h0 h3; subst h0; subst h3
  unfold At
  exact rule (B := 1000) (N := 36) (ct := (.two .no (.two (.two .no (.two (.here 1000) .no)) (.here 1001))))
    [⟨1002, fun a M => dfr a.defers (P_slices_Concat_sl_byte_byte_4 (a.get 6) (a.get 25) (a.get 26) (a.get 27) M Q), fun a M => At Try.prog Ex none Try.f71 [1, 1, 1, 1, 0, 1, 0] a M Q⟩,
    ⟨1003, fun _ _ => False, fun a M => At Try.prog Ex none Try.f71 [1, 1, 1, 1, 1] a M Q⟩]
    [1000, 1001] [] (by kernel_rfl) (by kernel_rfl) (by kernel_rfl) (by kernel_rfl) (by kernel_rfl)
    ⟨fun a M hn h => by obtain ⟨⟨n, f⟩, ds⟩ := a; have hn : n = 36 := hn; subst hn; obtain ⟨hd, h⟩ := dfr_iff h; have hd : ds = [] := hd; subst hd; exact h f rfl rfl rfl rfl,
    fun _ _ _ h => h.elim,
    trivial⟩
    (cast (by kernel_rfl) h)
def S_slices_Concat_sl_byte_byte_4 (x6 x25 x26 x27 : Value) (M : Store) (Q : Value → Store → Prop) : Prop :=
  OP (binI .lss x27 x26) fun t28 =>
  BR t28 (
  OP (ixA 1 x25 x27) fun t29 =>
  OP (ld 1 false t29 M) fun t30 =>
  OP2 (appV 1 Ty.uint8 x6 t30 M) fun t33 M1 =>
  OP (binI .add x27 (.int .i64 1)) fun t34 =>
  P_slices_Concat_sl_byte_byte_4 t33 x25 x26 t34 M1 Q
  ) (
  P_slices_Concat_sl_byte_byte_5 x6 M Q
  )
theorem T_slices_Concat_sl_byte_byte_4 {x6 x25 x26 x27 : Value} {M : Store} {Q : Value → Store → Prop} (h : S_slices_Concat_sl_byte_byte_4 x6 x25 x26 x27 M Q) : P_slices_Concat_sl_byte_byte_4 x6 x25 x26 x27 M Q := by
  intro f h6 h25 h26 h27; subst h6; subst h25; subst h26; subst h27
  unfold At
  refine cast (by kernel_rfl) (CW.loop (P := Try.prog) (E := Ex) (rd := none) (x := sub (bodyOf Try.f71) [1, 1, 1, 1, 0, 1, 0, 0]) (a := ⟨⟨36, f⟩, []⟩) (M := M) (K := kcont Try.prog Ex none (bodyOf Try.f71) [1, 1, 1, 1, 0, 1, 0] (kfin Try.prog Try.f71.results.toList Q)) ?_)
  exact rule (B := 1000) (N := 36) (ct := .no)
    [⟨0, fun a M => dfr a.defers (P_slices_Concat_sl_byte_byte_4 (a.get 6) (a.get 25) (a.get 26) (a.get 27) M Q), fun a M => At Try.prog Ex none Try.f71 [1, 1, 1, 1, 0, 1, 0] a M Q⟩,
    ⟨4, fun a M => dfr a.defers (P_slices_Concat_sl_byte_byte_5 (a.get 6) M Q), fun a M => At Try.prog Ex none Try.f71 [1, 1, 1, 1, 1] a M Q⟩]
    [] [0, 4] (by kernel_rfl) (by kernel_rfl) (by kernel_rfl) (by kernel_rfl) (by kernel_rfl)
    ⟨fun a M hn h => by obtain ⟨⟨n, f⟩, ds⟩ := a; have hn : n = 36 := hn; subst hn; obtain ⟨hd, h⟩ := dfr_iff h; have hd : ds = [] := hd; subst hd; exact h f rfl rfl rfl rfl,
    fun a M hn h => by obtain ⟨⟨n, f⟩, ds⟩ := a; have hn : n = 36 := hn; subst hn; obtain ⟨hd, h⟩ := dfr_iff h; have hd : ds = [] := hd; subst hd; exact h f rfl,
    trivial⟩
    (cast (by kernel_rfl) h)
def S_slices_Concat_sl_byte_byte_5 (x6 : Value) (M : Store) (Q : Value → Store → Prop) : Prop :=
  NTs [x6] ∧ Q x6 M
theorem T_slices_Concat_sl_byte_byte_5 {x6 : Value} {M : Store} {Q : Value → Store → Prop} (h : S_slices_Concat_sl_byte_byte_5 x6 M Q) : P_slices_Concat_sl_byte_byte_5 x6 M Q := by
  intro f h6; subst h6
  unfold At
  exact rule (B := 1000) (N := 36) (ct := .no)
    [⟨1, fun a M => kfin Try.prog Try.f71.results.toList Q 1 a M, fun a M => kfin Try.prog Try.f71.results.toList Q 1 a M⟩]
    [] [1] (by kernel_rfl) (by kernel_rfl) (by kernel_rfl) (by kernel_rfl) (by kernel_rfl)
    ⟨fun _ _ _ h => h,
    trivial⟩
    (cast (by kernel_rfl) h)
def S_fram_sum (x0 : Value) (M : Store) (Q : Value → Store → Prop) : Prop :=
  R F.crcs_Sum #[x0] M fun t5 M1 =>
  OP (binI .shr t5 (.int .u64 24)) fun t7 =>
  OP (cvI .u8 t7) fun t8 =>
  OP (binI .shr t5 (.int .u64 16)) fun t10 =>
  OP (cvI .u8 t10) fun t11 =>
  OP (binI .shr t5 (.int .u64 8)) fun t13 =>
  OP (cvI .u8 t13) fun t14 =>
  OP (cvI .u8 t5) fun t16 =>
  OP (bldL (.int .u8 0) 1 4 [(0, t8), (1, t11), (2, t14), (3, t16)]) fun c =>
  LT (.slice (some ⟨M1.n, 0, none⟩) 4 4) (M1.push (some (.inl (c, Ty.uint8, true)))) fun t17 M2 =>
  NTs [t17] ∧ Q t17 M2
theorem T_fram_sum {x0 : Value} {M : Store} {Q : Value → Store → Prop} (h : S_fram_sum x0 M Q) : R F.fram_sum #[x0] M Q := by
  refine runs_of (c := bodyOf Try.f72) Try.func72 rfl (by kernel_rfl) (by kernel_rfl) ?_
  unfold At
  exact rule (B := 1000) (N := 18) (ct := .no)
    [⟨1, fun a M => kfin Try.prog Try.f72.results.toList Q 1 a M, fun a M => kfin Try.prog Try.f72.results.toList Q 1 a M⟩]
    [] [1] (by kernel_rfl) (by kernel_rfl) (by kernel_rfl) (by kernel_rfl) (by kernel_rfl)
    ⟨fun _ _ _ h => h,
    trivial⟩
    (cast (by kernel_rfl) h)
def S_fettleref1_Bytes (x0 x1 : Value) (M : Store) (Q : Value → Store → Prop) : Prop :=
  OP (lenV x1) fun t7 =>
  R F.fettleref1_Num #[x0, t7] M fun t8 M1 =>
  OP2 (appV 1 Ty.uint8 t8 x1 M1) fun t10 M2 =>
  NTs [t10] ∧ Q t10 M2
theorem T_fettleref1_Bytes {x0 x1 : Value} {M : Store} {Q : Value → Store → Prop} (h : S_fettleref1_Bytes x0 x1 M Q) : R F.fettleref1_Bytes #[x0, x1] M Q := by
  refine runs_of (c := bodyOf Try.f73) Try.func73 rfl (by kernel_rfl) (by kernel_rfl) ?_
  unfold At
  exact rule (B := 1000) (N := 11) (ct := .no)
    [⟨1, fun a M => kfin Try.prog Try.f73.results.toList Q 1 a M, fun a M => kfin Try.prog Try.f73.results.toList Q 1 a M⟩]
    [] [1] (by kernel_rfl) (by kernel_rfl) (by kernel_rfl) (by kernel_rfl) (by kernel_rfl)
    ⟨fun _ _ _ h => h,
    trivial⟩
    (cast (by kernel_rfl) h)
def P_fettleref1_Sum_1 (x0 x3 x4 : Value) (M : Store) (Q : Value → Store → Prop) : Prop :=
  ∀ f : Nat → Value, f 0 = x0 → f 3 = x3 → f 4 = x4 → At Try.prog Ex none Try.f74 [1, 1, 0, 1, 0] ⟨⟨34, f⟩, []⟩ M Q
def P_fettleref1_Sum_2 (x0 x3 x4 x5 : Value) (M : Store) (Q : Value → Store → Prop) : Prop :=
  ∀ f : Nat → Value, f 0 = x0 → f 3 = x3 → f 4 = x4 → f 5 = x5 → At Try.prog Ex none Try.f74 [1, 1, 0, 1, 0, 0, 1, 0, 0, 1, 1, 0] ⟨⟨34, f⟩, []⟩ M Q
def P_fettleref1_Sum_3 (x3 : Value) (M : Store) (Q : Value → Store → Prop) : Prop :=
  ∀ f : Nat → Value, f 3 = x3 → At Try.prog Ex none Try.f74 [1, 1, 1] ⟨⟨34, f⟩, []⟩ M Q
def P_fettleref1_Sum_4 (x0 x3 x4 : Value) (M : Store) (Q : Value → Store → Prop) : Prop :=
  ∀ f : Nat → Value, f 0 = x0 → f 3 = x3 → f 4 = x4 → At Try.prog Ex none Try.f74 [1, 1, 0, 1, 0, 0, 1, 1] ⟨⟨34, f⟩, []⟩ M Q
def S_fettleref1_Sum (x0 : Value) (M : Store) (Q : Value → Store → Prop) : Prop :=
  P_fettleref1_Sum_1 x0 (.int .u32 4294967295) (.int .i64 0) M Q
theorem T_fettleref1_Sum {x0 : Value} {M : Store} {Q : Value → Store → Prop} (h : S_fettleref1_Sum x0 M Q) : R F.fettleref1_Sum #[x0] M Q := by
  refine runs_of (c := bodyOf Try.f74) Try.func74 rfl (by kernel_rfl) (by kernel_rfl) ?_
  unfold At
  exact rule (B := 1000) (N := 34) (ct := (.two .no (.two .no (.two (.two .no (.two (.here 1000) .no)) (.here 1001)))))
    [⟨1002, fun a M => dfr a.defers (P_fettleref1_Sum_1 (a.get 0) (a.get 3) (a.get 4) M Q), fun a M => At Try.prog Ex none Try.f74 [1, 1, 0, 1, 0] a M Q⟩,
    ⟨1003, fun _ _ => False, fun a M => At Try.prog Ex none Try.f74 [1, 1, 1] a M Q⟩]
    [1000, 1001] [] (by kernel_rfl) (by kernel_rfl) (by kernel_rfl) (by kernel_rfl) (by kernel_rfl)
    ⟨fun a M hn h => by obtain ⟨⟨n, f⟩, ds⟩ := a; have hn : n = 34 := hn; subst hn; obtain ⟨hd, h⟩ := dfr_iff h; have hd : ds = [] := hd; subst hd; exact h f rfl rfl rfl,
    fun _ _ _ h => h.elim,
    trivial⟩
    (cast (by kernel_rfl) h)
def S_fettleref1_Sum_1 (x0 x3 x4 : Value) (M : Store) (Q : Value → Store → Prop) : Prop :=
  OP (lenV x0) fun t9 =>
  OP (binI .lss x4 t9) fun t10 =>
  BR t10 (
  OP (ixA 1 x0 x4) fun t16 =>
  OP (ld 1 false t16 M) fun t17 =>
  OP (cvI .u32 t17) fun t18 =>
  OP (binI .xor x3 t18) fun t19 =>
  P_fettleref1_Sum_2 x0 t19 x4 (.int .i64 0) M Q
  ) (
  P_fettleref1_Sum_3 x3 M Q
  )
theorem T_fettleref1_Sum_1 {x0 x3 x4 : Value} {M : Store} {Q : Value → Store → Prop} (h : S_fettleref1_Sum_1 x0 x3 x4 M Q) : P_fettleref1_Sum_1 x0 x3 x4 M Q := by
  intro f h0 h3 h4; subst h0; subst h3; subst h4
  unfold At
  refine cast (by kernel_rfl) (CW.loop (P := Try.prog) (E := Ex) (rd := none) (x := sub (bodyOf Try.f74) [1, 1, 0, 1, 0, 0]) (a := ⟨⟨34, f⟩, []⟩) (M := M) (K := kcont Try.prog Ex none (bodyOf Try.f74) [1, 1, 0, 1, 0] (kfin Try.prog Try.f74.results.toList Q)) ?_)
  exact rule (B := 1000) (N := 34) (ct := (.two .no (.two (.two (.two .no (.two .no (.two (.here 1000) .no))) .no) (.here 1001))))
    [⟨1002, fun a M => dfr a.defers (P_fettleref1_Sum_2 (a.get 0) (a.get 3) (a.get 4) (a.get 5) M Q), fun a M => At Try.prog Ex none Try.f74 [1, 1, 0, 1, 0, 0, 1, 0, 0, 1, 1, 0] a M Q⟩,
    ⟨1003, fun _ _ => False, fun a M => At Try.prog Ex none Try.f74 [1, 1, 0, 1, 0, 0, 1, 1] a M Q⟩,
    ⟨2, fun a M => dfr a.defers (P_fettleref1_Sum_3 (a.get 3) M Q), fun a M => At Try.prog Ex none Try.f74 [1, 1, 1] a M Q⟩]
    [1000, 1001] [2] (by kernel_rfl) (by kernel_rfl) (by kernel_rfl) (by kernel_rfl) (by kernel_rfl)
    ⟨fun a M hn h => by obtain ⟨⟨n, f⟩, ds⟩ := a; have hn : n = 34 := hn; subst hn; obtain ⟨hd, h⟩ := dfr_iff h; have hd : ds = [] := hd; subst hd; exact h f rfl rfl rfl rfl,
    fun _ _ _ h => h.elim,
    fun a M hn h => by obtain ⟨⟨n, f⟩, ds⟩ := a; have hn : n = 34 := hn; subst hn; obtain ⟨hd, h⟩ := dfr_iff h; have hd : ds = [] := hd; subst hd; exact h f rfl,
    trivial⟩
    (cast (by kernel_rfl) h)
def S_fettleref1_Sum_2 (x0 x3 x4 x5 : Value) (M : Store) (Q : Value → Store → Prop) : Prop :=
  OP (binI .lss x5 (.int .i64 8)) fun t21 =>
  BR t21 (
  OP (binI .and x3 (.int .u32 1)) fun t25 =>
  OP (binI .shr x3 (.int .u64 1)) fun t27 =>
  OP (binI .eql t25 (.int .u32 1)) fun t29 =>
  BR t29 (
  OP (binI .xor t27 (.int .u32 3988292384)) fun t31 =>
  OP (binI .add x5 (.int .i64 1)) fun t23 =>
  P_fettleref1_Sum_2 x0 t31 x4 t23 M Q
  ) (
  OP (binI .add x5 (.int .i64 1)) fun t23_1 =>
  P_fettleref1_Sum_2 x0 t27 x4 t23_1 M Q
  )
  ) (
  P_fettleref1_Sum_4 x0 x3 x4 M Q
  )
theorem T_fettleref1_Sum_2 {x0 x3 x4 x5 : Value} {M : Store} {Q : Value → Store → Prop} (h : S_fettleref1_Sum_2 x0 x3 x4 x5 M Q) : P_fettleref1_Sum_2 x0 x3 x4 x5 M Q := by
  intro f h0 h3 h4 h5; subst h0; subst h3; subst h4; subst h5
  unfold At
  refine cast (by kernel_rfl) (CW.loop (P := Try.prog) (E := Ex) (rd := none) (x := sub (bodyOf Try.f74) [1, 1, 0, 1, 0, 0, 1, 0, 0, 1, 1, 0, 0]) (a := ⟨⟨34, f⟩, []⟩) (M := M) (K := kcont Try.prog Ex none (bodyOf Try.f74) [1, 1, 0, 1, 0, 0, 1, 0, 0, 1, 1, 0] (kfin Try.prog Try.f74.results.toList Q)) ?_)
  exact rule (B := 1000) (N := 34) (ct := .no)
    [⟨0, fun a M => dfr a.defers (P_fettleref1_Sum_2 (a.get 0) (a.get 3) (a.get 4) (a.get 5) M Q), fun a M => At Try.prog Ex none Try.f74 [1, 1, 0, 1, 0, 0, 1, 0, 0, 1, 1, 0] a M Q⟩,
    ⟨4, fun a M => dfr a.defers (P_fettleref1_Sum_4 (a.get 0) (a.get 3) (a.get 4) M Q), fun a M => At Try.prog Ex none Try.f74 [1, 1, 0, 1, 0, 0, 1, 1] a M Q⟩]
    [] [0, 4] (by kernel_rfl) (by kernel_rfl) (by kernel_rfl) (by kernel_rfl) (by kernel_rfl)
    ⟨fun a M hn h => by obtain ⟨⟨n, f⟩, ds⟩ := a; have hn : n = 34 := hn; subst hn; obtain ⟨hd, h⟩ := dfr_iff h; have hd : ds = [] := hd; subst hd; exact h f rfl rfl rfl rfl,
    fun a M hn h => by obtain ⟨⟨n, f⟩, ds⟩ := a; have hn : n = 34 := hn; subst hn; obtain ⟨hd, h⟩ := dfr_iff h; have hd : ds = [] := hd; subst hd; exact h f rfl rfl rfl,
    trivial⟩
    (cast (by kernel_rfl) h)
def S_fettleref1_Sum_3 (x3 : Value) (M : Store) (Q : Value → Store → Prop) : Prop :=
  OP (binI .xor x3 (.int .u32 4294967295)) fun t33 =>
  NTs [t33] ∧ Q t33 M
theorem T_fettleref1_Sum_3 {x3 : Value} {M : Store} {Q : Value → Store → Prop} (h : S_fettleref1_Sum_3 x3 M Q) : P_fettleref1_Sum_3 x3 M Q := by
  intro f h3; subst h3
  unfold At
  exact rule (B := 1000) (N := 34) (ct := .no)
    [⟨1, fun a M => kfin Try.prog Try.f74.results.toList Q 1 a M, fun a M => kfin Try.prog Try.f74.results.toList Q 1 a M⟩]
    [] [1] (by kernel_rfl) (by kernel_rfl) (by kernel_rfl) (by kernel_rfl) (by kernel_rfl)
    ⟨fun _ _ _ h => h,
    trivial⟩
    (cast (by kernel_rfl) h)
def S_fettleref1_Sum_4 (x0 x3 x4 : Value) (M : Store) (Q : Value → Store → Prop) : Prop :=
  OP (binI .add x4 (.int .i64 1)) fun t12 =>
  P_fettleref1_Sum_1 x0 x3 t12 M Q
theorem T_fettleref1_Sum_4 {x0 x3 x4 : Value} {M : Store} {Q : Value → Store → Prop} (h : S_fettleref1_Sum_4 x0 x3 x4 M Q) : P_fettleref1_Sum_4 x0 x3 x4 M Q := by
  intro f h0 h3 h4; subst h0; subst h3; subst h4
  unfold At
  exact rule (B := 1000) (N := 34) (ct := .no)
    [⟨0, fun a M => dfr a.defers (P_fettleref1_Sum_1 (a.get 0) (a.get 3) (a.get 4) M Q), fun a M => At Try.prog Ex none Try.f74 [1, 1, 0, 1, 0] a M Q⟩]
    [] [0] (by kernel_rfl) (by kernel_rfl) (by kernel_rfl) (by kernel_rfl) (by kernel_rfl)
    ⟨fun a M hn h => by obtain ⟨⟨n, f⟩, ds⟩ := a; have hn : n = 34 := hn; subst hn; obtain ⟨hd, h⟩ := dfr_iff h; have hd : ds = [] := hd; subst hd; exact h f rfl rfl rfl,
    trivial⟩
    (cast (by kernel_rfl) h)
def S_slices_Clip_sl_sl_byte_sl_byte (x0 : Value) (M : Store) (Q : Value → Store → Prop) : Prop :=
  OP (lenV x0) fun t5 =>
  OP (lenV x0) fun t7 =>
  OP (slM 1 Ty.sl_uint8 x0 none t5 t7 M) fun t8 =>
  NTs [t8] ∧ Q t8 M
theorem T_slices_Clip_sl_sl_byte_sl_byte {x0 : Value} {M : Store} {Q : Value → Store → Prop} (h : S_slices_Clip_sl_sl_byte_sl_byte x0 M Q) : R F.slices_Clip_sl_sl_byte_sl_byte #[x0] M Q := by
  refine runs_of (c := bodyOf Try.f75) Try.func75 rfl (by kernel_rfl) (by kernel_rfl) ?_
  unfold At
  exact rule (B := 1000) (N := 9) (ct := .no)
    [⟨1, fun a M => kfin Try.prog Try.f75.results.toList Q 1 a M, fun a M => kfin Try.prog Try.f75.results.toList Q 1 a M⟩]
    [] [1] (by kernel_rfl) (by kernel_rfl) (by kernel_rfl) (by kernel_rfl) (by kernel_rfl)
    ⟨fun _ _ _ h => h,
    trivial⟩
    (cast (by kernel_rfl) h)
def S_fettleref1_frame (x0 x1 : Value) (M : Store) (Q : Value → Store → Prop) : Prop :=
  OP (slV 1 Ty.uint8 x0 (some x1) none M) fun t13 =>
  OP (bldS #[(.slice none 0 0), (.bool false)] [(0, 1), (1, 1)] [(0, t13)]) fun t14 =>
  OP (boxv t14) fun c =>
  LT (.pointer (some ⟨M.n, 0, none⟩)) (M.push (some (.inl (c, Ty.fettleref1_Reader, true)))) fun t15 M1 =>
  R F.fettleref1_Reader_Bytes #[t15, (.int .i64 10000)] M1 fun t17 M2 =>
  OP (nilc t15) fun t19 =>
  OP (fad 1 t19) fun t20 =>
  OP (ld 1 false t20 M2) fun t21 =>
  BR t21 (
  NTs [(.slice none 0 0), x1, (.bool false)] ∧ Q (.tuple #[(.slice none 0 0), x1, (.bool false)]) M2
  ) (
  OP (nilc t15) fun t24 =>
  OP (fad 0 t24) fun t25 =>
  OP (ld 1 false t25 M2) fun t26 =>
  OP (lenV t26) fun t27 =>
  OP (binI .lss t27 (.int .i64 4)) fun t28 =>
  BR t28 (
  NTs [(.slice none 0 0), x1, (.bool false)] ∧ Q (.tuple #[(.slice none 0 0), x1, (.bool false)]) M2
  ) (
  OP (binI .add x1 (.int .i64 6)) fun t32 =>
  OP (lenV t17) fun t34 =>
  OP (binI .add t32 t34) fun t35 =>
  OP (slV 1 Ty.uint8 x0 (some x1) (some t35) M2) fun t39 =>
  R F.fettleref1_Sum #[t39] M2 fun t40 M3 =>
  OP (ixA 1 x0 t35) fun t43 =>
  OP (ld 1 false t43 M3) fun t44 =>
  OP (binI .shr t40 (.int .u64 24)) fun t46 =>
  OP (cvI .u8 t46) fun t47 =>
  OP (binI .neq t44 t47) fun t48 =>
  BR t48 (
  NTs [(.slice none 0 0), x1, (.bool false)] ∧ Q (.tuple #[(.slice none 0 0), x1, (.bool false)]) M3
  ) (
  OP (binI .add t35 (.int .i64 1)) fun t52 =>
  OP (ixA 1 x0 t52) fun t53 =>
  OP (ld 1 false t53 M3) fun t54 =>
  OP (binI .shr t40 (.int .u64 16)) fun t56 =>
  OP (cvI .u8 t56) fun t57 =>
  OP (binI .neq t54 t57) fun t58 =>
  BR t58 (
  NTs [(.slice none 0 0), x1, (.bool false)] ∧ Q (.tuple #[(.slice none 0 0), x1, (.bool false)]) M3
  ) (
  OP (binI .add t35 (.int .i64 2)) fun t63 =>
  OP (ixA 1 x0 t63) fun t64 =>
  OP (ld 1 false t64 M3) fun t65 =>
  OP (binI .shr t40 (.int .u64 8)) fun t67 =>
  OP (cvI .u8 t67) fun t68 =>
  OP (binI .neq t65 t68) fun t69 =>
  BR t69 (
  NTs [(.slice none 0 0), x1, (.bool false)] ∧ Q (.tuple #[(.slice none 0 0), x1, (.bool false)]) M3
  ) (
  OP (binI .add t35 (.int .i64 3)) fun t74 =>
  OP (ixA 1 x0 t74) fun t75 =>
  OP (ld 1 false t75 M3) fun t76 =>
  OP (cvI .u8 t40) fun t78 =>
  OP (binI .neq t76 t78) fun t79 =>
  BR t79 (
  NTs [(.slice none 0 0), x1, (.bool false)] ∧ Q (.tuple #[(.slice none 0 0), x1, (.bool false)]) M3
  ) (
  OP (binI .add t35 (.int .i64 4)) fun t84 =>
  NTs [t17, t84, (.bool true)] ∧ Q (.tuple #[t17, t84, (.bool true)]) M3
  )
  )
  )
  )
  )
  )
theorem T_fettleref1_frame {x0 x1 : Value} {M : Store} {Q : Value → Store → Prop} (h : S_fettleref1_frame x0 x1 M Q) : R F.fettleref1_frame #[x0, x1] M Q := by
  refine runs_of (c := bodyOf Try.f76) Try.func76 rfl (by kernel_rfl) (by kernel_rfl) ?_
  unfold At
  exact rule (B := 1000) (N := 85) (ct := .no)
    [⟨1, fun a M => kfin Try.prog Try.f76.results.toList Q 1 a M, fun a M => kfin Try.prog Try.f76.results.toList Q 1 a M⟩]
    [] [1] (by kernel_rfl) (by kernel_rfl) (by kernel_rfl) (by kernel_rfl) (by kernel_rfl)
    ⟨fun _ _ _ h => h,
    trivial⟩
    (cast (by kernel_rfl) h)
def S_slices_Clone_sl_byte_byte (x0 : Value) (M : Store) (Q : Value → Store → Prop) : Prop :=
  OP (abin Try.prog true .eql Ty.sl_uint8 x0 (.slice none 0 0)) fun t4 =>
  BR t4 (
  NTs [(.slice none 0 0)] ∧ Q (.slice none 0 0) M
  ) (
  OP (bldL (.int .u8 0) 1 0 []) fun c =>
  LT (.slice (some ⟨M.n, 0, none⟩) 0 0) (M.push (some (.inl (c, Ty.uint8, true)))) fun t5 M1 =>
  OP2 (appV 1 Ty.uint8 t5 x0 M1) fun t7 M2 =>
  NTs [t7] ∧ Q t7 M2
  )
theorem T_slices_Clone_sl_byte_byte {x0 : Value} {M : Store} {Q : Value → Store → Prop} (h : S_slices_Clone_sl_byte_byte x0 M Q) : R F.slices_Clone_sl_byte_byte #[x0] M Q := by
  refine runs_of (c := bodyOf Try.f77) Try.func77 rfl (by kernel_rfl) (by kernel_rfl) ?_
  unfold At
  exact rule (B := 1000) (N := 8) (ct := .no)
    [⟨1, fun a M => kfin Try.prog Try.f77.results.toList Q 1 a M, fun a M => kfin Try.prog Try.f77.results.toList Q 1 a M⟩]
    [] [1] (by kernel_rfl) (by kernel_rfl) (by kernel_rfl) (by kernel_rfl) (by kernel_rfl)
    ⟨fun _ _ _ h => h,
    trivial⟩
    (cast (by kernel_rfl) h)
def P_fram_All_c1_1 (x0 x1 x3 : Value) (M : Store) (Q : Value → Store → Prop) : Prop :=
  ∀ f : Nat → Value, f 0 = x0 → f 1 = x1 → f 3 = x3 → At Try.prog Ex none Try.f78 [1, 0] ⟨⟨27, f⟩, []⟩ M Q
def S_fram_All_c1 (x0 x1 : Value) (M : Store) (Q : Value → Store → Prop) : Prop :=
  P_fram_All_c1_1 x0 x1 (.int .i64 0) M Q
theorem T_fram_All_c1 {x0 x1 : Value} {M : Store} {Q : Value → Store → Prop} (h : S_fram_All_c1 x0 x1 M Q) : R F.fram_All_c1 #[x0, x1] M Q := by
  refine runs_of (c := bodyOf Try.f78) Try.func78 rfl (by kernel_rfl) (by kernel_rfl) ?_
  unfold At
  exact rule (B := 1000) (N := 27) (ct := (.two .no (.two (.here 1000) .no)))
    [⟨1002, fun a M => dfr a.defers (P_fram_All_c1_1 (a.get 0) (a.get 1) (a.get 3) M Q), fun a M => At Try.prog Ex none Try.f78 [1, 0] a M Q⟩]
    [1000] [] (by kernel_rfl) (by kernel_rfl) (by kernel_rfl) (by kernel_rfl) (by kernel_rfl)
    ⟨fun a M hn h => by obtain ⟨⟨n, f⟩, ds⟩ := a; have hn : n = 27 := hn; subst hn; obtain ⟨hd, h⟩ := dfr_iff h; have hd : ds = [] := hd; subst hd; exact h f rfl rfl rfl,
    trivial⟩
    (cast (by kernel_rfl) h)
def S_fram_All_c1_1 (x0 x1 x3 : Value) (M : Store) (Q : Value → Store → Prop) : Prop :=
  OP (ld 1 false x1 M) fun t8 =>
  OP (slV 1 Ty.uint8 t8 (some x3) none M) fun t10 =>
  R F.fram_one #[t10] M fun t11 M1 =>
  OP (tup t11 0) fun t12 =>
  OP (tup t11 1) fun t13 =>
  OP (tup t11 2) fun t14 =>
  OP (aun .not t14) fun t16 =>
  BR t16 (
  NTs [] ∧ Q (.tuple #[]) M1
  ) (
  KC x0 [x3, t12] M1 fun t21 M2 =>
  OP (aun .not t21) fun t22 =>
  BR t22 (
  NTs [] ∧ Q (.tuple #[]) M2
  ) (
  OP (binI .add x3 t13) fun t26 =>
  P_fram_All_c1_1 x0 x1 t26 M2 Q
  )
  )
theorem T_fram_All_c1_1 {x0 x1 x3 : Value} {M : Store} {Q : Value → Store → Prop} (h : S_fram_All_c1_1 x0 x1 x3 M Q) : P_fram_All_c1_1 x0 x1 x3 M Q := by
  intro f h0 h1 h3; subst h0; subst h1; subst h3
  unfold At
  refine cast (by kernel_rfl) (CW.loop (P := Try.prog) (E := Ex) (rd := none) (x := sub (bodyOf Try.f78) [1, 0, 0]) (a := ⟨⟨27, f⟩, []⟩) (M := M) (K := kcont Try.prog Ex none (bodyOf Try.f78) [1, 0] (kfin Try.prog Try.f78.results.toList Q)) ?_)
  exact rule (B := 1000) (N := 27) (ct := .no)
    [⟨0, fun a M => dfr a.defers (P_fram_All_c1_1 (a.get 0) (a.get 1) (a.get 3) M Q), fun a M => At Try.prog Ex none Try.f78 [1, 0] a M Q⟩,
    ⟨1, fun a M => kfin Try.prog Try.f78.results.toList Q 1 a M, fun a M => kfin Try.prog Try.f78.results.toList Q 1 a M⟩]
    [] [0, 1] (by kernel_rfl) (by kernel_rfl) (by kernel_rfl) (by kernel_rfl) (by kernel_rfl)
    ⟨fun a M hn h => by obtain ⟨⟨n, f⟩, ds⟩ := a; have hn : n = 27 := hn; subst hn; obtain ⟨hd, h⟩ := dfr_iff h; have hd : ds = [] := hd; subst hd; exact h f rfl rfl rfl,
    fun _ _ _ h => h,
    trivial⟩
    (cast (by kernel_rfl) h)
def S_fram_one (x0 : Value) (M : Store) (Q : Value → Store → Prop) : Prop :=
  OP (lenV x0) fun t10 =>
  OP (amin2 t10 (.int .i64 10006)) fun t11 =>
  OP (slV 1 Ty.uint8 x0 none (some t11) M) fun t12 =>
  R F.code_Read #[t12] M fun t13 M1 =>
  R F.code_Reader_Bytes #[t13, (.int .i64 10000)] M1 fun t15 M2 =>
  OP (lenV t15) fun t17 =>
  OP (binI .add (.int .i64 6) t17) fun t18 =>
  R F.code_Reader_Ok #[t13] M2 fun t20 M3 =>
  TDx [0, 1, 3, 7, 15, 31, 15, 79, 255, 511, 1023, 2047, 2047, 8191, 16383, 2047, 2047, 2047, 133119, 493567, 1048575, 2097151, 4194303] [M2.n, M2.n] 1 M2 M3 ∧
  OP (aun .not t20) fun t21 =>
  BR t21 (
  NTs [(.slice none 0 0), (.int .i64 0), (.bool false)] ∧ Q (.tuple #[(.slice none 0 0), (.int .i64 0), (.bool false)]) M3
  ) (
  OP (lenV x0) fun t24 =>
  OP (binI .add t18 (.int .i64 4)) fun t26 =>
  OP (binI .lss t24 t26) fun t27 =>
  BR t27 (
  NTs [(.slice none 0 0), (.int .i64 0), (.bool false)] ∧ Q (.tuple #[(.slice none 0 0), (.int .i64 0), (.bool false)]) M3
  ) (
  OP (slV 1 Ty.uint8 x0 none (some t18) M3) fun t32 =>
  R F.fram_sum #[t32] M3 fun t33 M4 =>
  TDj [11, 12, 13] [M2.n, M2.n, M3.n, M3.n, M3.n, M3.n, M3.n, M3.n, M3.n, M3.n, M3.n, M3.n, M3.n, M3.n, M3.n] M3 M4 ∧
  OP (binI .add t18 (.int .i64 4)) fun t37 =>
  OP (slV 1 Ty.uint8 x0 (some t18) (some t37) M4) fun t38 =>
  R F.slices_Equal_sl_byte_byte #[t33, t38] M4 fun t39 M5 =>
  TDx [0, 1, 3, 7, 15, 31, 15, 79, 255, 511, 1023, 2047, 2047, 8191, 16383, 2047, 2047, 2047, 133119, 493567, 1048575, 2097151, 4194303] [M2.n, M2.n, M3.n, M3.n, M3.n, M3.n, M3.n, M3.n, M3.n, M3.n, M3.n, M3.n, M3.n, M3.n, M3.n, M4.n, M4.n, M4.n, M4.n, M4.n, M4.n] 20 M4 M5 ∧
  OP (aun .not t39) fun t40 =>
  BR t40 (
  NTs [(.slice none 0 0), (.int .i64 0), (.bool false)] ∧ Q (.tuple #[(.slice none 0 0), (.int .i64 0), (.bool false)]) M5
  ) (
  OP (binI .add t18 (.int .i64 4)) fun t44 =>
  NTs [t15, t44, (.bool true)] ∧ Q (.tuple #[t15, t44, (.bool true)]) M5
  )
  )
  )
theorem T_fram_one {x0 : Value} {M : Store} {Q : Value → Store → Prop} (h : S_fram_one x0 M Q) : R F.fram_one #[x0] M Q := by
  refine runs_of (c := bodyOf Try.f79) Try.func79 rfl (by kernel_rfl) (by kernel_rfl) ?_
  unfold At
  exact rule (B := 1000) (N := 45) (ct := .no)
    [⟨1, fun a M => kfin Try.prog Try.f79.results.toList Q 1 a M, fun a M => kfin Try.prog Try.f79.results.toList Q 1 a M⟩]
    [] [1] (by kernel_rfl) (by kernel_rfl) (by kernel_rfl) (by kernel_rfl) (by kernel_rfl)
    ⟨fun _ _ _ h => h,
    trivial⟩
    (cast (by kernel_rfl) h)
def S_code_Read (x0 : Value) (M : Store) (Q : Value → Store → Prop) : Prop :=
  R F.slices_Clone_sl_byte_byte #[x0] M fun t4 M1 =>
  OP (bldS #[(.slice none 0 0), (.bool false)] [(0, 1), (1, 1)] [(0, t4)]) fun t5 =>
  OP (boxv t5) fun c =>
  LT (.pointer (some ⟨M1.n, 0, none⟩)) (M1.push (some (.inl (c, Ty.code_Reader, true)))) fun t6 M2 =>
  NTs [t6] ∧ Q t6 M2
theorem T_code_Read {x0 : Value} {M : Store} {Q : Value → Store → Prop} (h : S_code_Read x0 M Q) : R F.code_Read #[x0] M Q := by
  refine runs_of (c := bodyOf Try.f80) Try.func80 rfl (by kernel_rfl) (by kernel_rfl) ?_
  unfold At
  exact rule (B := 1000) (N := 7) (ct := .no)
    [⟨1, fun a M => kfin Try.prog Try.f80.results.toList Q 1 a M, fun a M => kfin Try.prog Try.f80.results.toList Q 1 a M⟩]
    [] [1] (by kernel_rfl) (by kernel_rfl) (by kernel_rfl) (by kernel_rfl) (by kernel_rfl)
    ⟨fun _ _ _ h => h,
    trivial⟩
    (cast (by kernel_rfl) h)
def S_code_Reader_Bytes (x0 x1 : Value) (M : Store) (Q : Value → Store → Prop) : Prop :=
  R F.code_Reader_Num #[x0, x1] M fun t9 M1 =>
  OP (nilc x0) fun t12 =>
  OP (fad 0 t12) fun t13 =>
  OP (ld 1 false t13 M1) fun t14 =>
  OP (lenV t14) fun t15 =>
  OP (binI .gtr t9 t15) fun t16 =>
  BR t16 (
  R F.code_Reader_fail #[x0] M1 fun t18 M2 =>
  NTs [(.slice none 0 0)] ∧ Q (.slice none 0 0) M2
  ) (
  OP (nilc x0) fun t20 =>
  OP (fad 0 t20) fun t21 =>
  OP (ld 1 false t21 M1) fun t22 =>
  OP (slV 1 Ty.uint8 t22 none (some t9) M1) fun t24 =>
  R F.slices_Clone_sl_byte_byte #[t24] M1 fun t25 M3 =>
  OP (nilc x0) fun t28 =>
  OP (fad 0 t28) fun t29 =>
  OP (ld 1 false t29 M3) fun t30 =>
  OP (slV 1 Ty.uint8 t30 (some t9) none M3) fun t32 =>
  OP (nilc x0) fun t33 =>
  OP (fad 0 t33) fun t34 =>
  OP (st 1 t34 t32 M3) fun M4 =>
  NTs [t25] ∧ Q t25 M4
  )
theorem T_code_Reader_Bytes {x0 x1 : Value} {M : Store} {Q : Value → Store → Prop} (h : S_code_Reader_Bytes x0 x1 M Q) : R F.code_Reader_Bytes #[x0, x1] M Q := by
  refine runs_of (c := bodyOf Try.f81) Try.func81 rfl (by kernel_rfl) (by kernel_rfl) ?_
  unfold At
  exact rule (B := 1000) (N := 36) (ct := .no)
    [⟨1, fun a M => kfin Try.prog Try.f81.results.toList Q 1 a M, fun a M => kfin Try.prog Try.f81.results.toList Q 1 a M⟩]
    [] [1] (by kernel_rfl) (by kernel_rfl) (by kernel_rfl) (by kernel_rfl) (by kernel_rfl)
    ⟨fun _ _ _ h => h,
    trivial⟩
    (cast (by kernel_rfl) h)
def S_fettleref1_Reader_Bytes (x0 x1 : Value) (M : Store) (Q : Value → Store → Prop) : Prop :=
  R F.fettleref1_Reader_Num #[x0, x1] M fun t9 M1 =>
  OP (nilc x0) fun t11 =>
  OP (fad 1 t11) fun t12 =>
  OP (ld 1 false t12 M1) fun t13 =>
  BR t13 (
  OP (nilc x0) fun t24 =>
  OP (fad 1 t24) fun t25 =>
  OP (st 1 t25 (.bool true) M1) fun M2 =>
  NTs [(.slice none 0 0)] ∧ Q (.slice none 0 0) M2
  ) (
  OP (nilc x0) fun t17 =>
  OP (fad 0 t17) fun t18 =>
  OP (ld 1 false t18 M1) fun t19 =>
  OP (lenV t19) fun t20 =>
  OP (binI .gtr t9 t20) fun t21 =>
  BR t21 (
  OP (nilc x0) fun t24_1 =>
  OP (fad 1 t24_1) fun t25_1 =>
  OP (st 1 t25_1 (.bool true) M1) fun M3 =>
  NTs [(.slice none 0 0)] ∧ Q (.slice none 0 0) M3
  ) (
  OP (bldL (.int .u8 0) 1 0 []) fun c =>
  LT (.slice (some ⟨M1.n, 0, none⟩) 0 0) (M1.push (some (.inl (c, Ty.uint8, true)))) fun t26 M4 =>
  OP (nilc x0) fun t28 =>
  OP (fad 0 t28) fun t29 =>
  OP (ld 1 false t29 M4) fun t30 =>
  OP (slV 1 Ty.uint8 t30 none (some t9) M4) fun t32 =>
  OP2 (appV 1 Ty.uint8 t26 t32 M4) fun t33 M5 =>
  OP (nilc x0) fun t36 =>
  OP (fad 0 t36) fun t37 =>
  OP (ld 1 false t37 M5) fun t38 =>
  OP (slV 1 Ty.uint8 t38 (some t9) none M5) fun t40 =>
  OP (nilc x0) fun t41 =>
  OP (fad 0 t41) fun t42 =>
  OP (st 1 t42 t40 M5) fun M6 =>
  NTs [t33] ∧ Q t33 M6
  )
  )
theorem T_fettleref1_Reader_Bytes {x0 x1 : Value} {M : Store} {Q : Value → Store → Prop} (h : S_fettleref1_Reader_Bytes x0 x1 M Q) : R F.fettleref1_Reader_Bytes #[x0, x1] M Q := by
  refine runs_of (c := bodyOf Try.f84) Try.func84 rfl (by kernel_rfl) (by kernel_rfl) ?_
  unfold At
  exact rule (B := 1000) (N := 44) (ct := .no)
    [⟨1, fun a M => kfin Try.prog Try.f84.results.toList Q 1 a M, fun a M => kfin Try.prog Try.f84.results.toList Q 1 a M⟩]
    [] [1] (by kernel_rfl) (by kernel_rfl) (by kernel_rfl) (by kernel_rfl) (by kernel_rfl)
    ⟨fun _ _ _ h => h,
    trivial⟩
    (cast (by kernel_rfl) h)
def P_code_Num_1 (x1 x5 x6 : Value) (M : Store) (Q : Value → Store → Prop) : Prop :=
  ∀ f : Nat → Value, f 1 = x1 → f 5 = x5 → f 6 = x6 → At Try.prog Ex none Try.f103 [1, 1, 1, 0, 1, 0] ⟨⟨26, f⟩, []⟩ M Q
def P_code_Num_2 (x5 : Value) (M : Store) (Q : Value → Store → Prop) : Prop :=
  ∀ f : Nat → Value, f 5 = x5 → At Try.prog Ex none Try.f103 [1, 1, 1, 1] ⟨⟨26, f⟩, []⟩ M Q
def S_code_Num (x0 x1 : Value) (M : Store) (Q : Value → Store → Prop) : Prop :=
  OP (amax2 x1 (.int .i64 0)) fun t8 =>
  OP (amin2 t8 (.int .i64 1099511627776)) fun t9 =>
  R F.slices_Clone_sl_byte_byte #[x0] M fun t11 M1 =>
  R F.slices_Clip_sl_byte_byte #[t11] M1 fun t12 M2 =>
  P_code_Num_1 t9 t12 (.int .i64 5) M2 Q
theorem T_code_Num {x0 x1 : Value} {M : Store} {Q : Value → Store → Prop} (h : S_code_Num x0 x1 M Q) : R F.code_Num #[x0, x1] M Q := by
  refine runs_of (c := bodyOf Try.f103) Try.func103 rfl (by kernel_rfl) (by kernel_rfl) ?_
  unfold At
  exact rule (B := 1000) (N := 26) (ct := (.two .no (.two .no (.two .no (.two (.two .no (.two (.here 1000) .no)) (.here 1001))))))
    [⟨1002, fun a M => dfr a.defers (P_code_Num_1 (a.get 1) (a.get 5) (a.get 6) M Q), fun a M => At Try.prog Ex none Try.f103 [1, 1, 1, 0, 1, 0] a M Q⟩,
    ⟨1003, fun _ _ => False, fun a M => At Try.prog Ex none Try.f103 [1, 1, 1, 1] a M Q⟩]
    [1000, 1001] [] (by kernel_rfl) (by kernel_rfl) (by kernel_rfl) (by kernel_rfl) (by kernel_rfl)
    ⟨fun a M hn h => by obtain ⟨⟨n, f⟩, ds⟩ := a; have hn : n = 26 := hn; subst hn; obtain ⟨hd, h⟩ := dfr_iff h; have hd : ds = [] := hd; subst hd; exact h f rfl rfl rfl,
    fun _ _ _ h => h.elim,
    trivial⟩
    (cast (by kernel_rfl) h)
def S_code_Num_1 (x1 x5 x6 : Value) (M : Store) (Q : Value → Store → Prop) : Prop :=
  OP (binI .geq x6 (.int .i64 0)) fun t14 =>
  BR t14 (
  OP (binI .mul (.int .i64 8) x6) fun t20 =>
  OP (binI .shr x1 t20) fun t21 =>
  OP (cvI .u8 t21) fun t22 =>
  OP (bldL (.int .u8 0) 1 1 [(0, t22)]) fun c =>
  LT (.slice (some ⟨M.n, 0, none⟩) 1 1) (M.push (some (.inl (c, Ty.uint8, true)))) fun t23 M1 =>
  OP2 (appV 1 Ty.uint8 x5 t23 M1) fun t24 M2 =>
  OP (binI .sub x6 (.int .i64 1)) fun t16 =>
  P_code_Num_1 x1 t24 t16 M2 Q
  ) (
  P_code_Num_2 x5 M Q
  )
theorem T_code_Num_1 {x1 x5 x6 : Value} {M : Store} {Q : Value → Store → Prop} (h : S_code_Num_1 x1 x5 x6 M Q) : P_code_Num_1 x1 x5 x6 M Q := by
  intro f h1 h5 h6; subst h1; subst h5; subst h6
  unfold At
  refine cast (by kernel_rfl) (CW.loop (P := Try.prog) (E := Ex) (rd := none) (x := sub (bodyOf Try.f103) [1, 1, 1, 0, 1, 0, 0]) (a := ⟨⟨26, f⟩, []⟩) (M := M) (K := kcont Try.prog Ex none (bodyOf Try.f103) [1, 1, 1, 0, 1, 0] (kfin Try.prog Try.f103.results.toList Q)) ?_)
  exact rule (B := 1000) (N := 26) (ct := .no)
    [⟨0, fun a M => dfr a.defers (P_code_Num_1 (a.get 1) (a.get 5) (a.get 6) M Q), fun a M => At Try.prog Ex none Try.f103 [1, 1, 1, 0, 1, 0] a M Q⟩,
    ⟨2, fun a M => dfr a.defers (P_code_Num_2 (a.get 5) M Q), fun a M => At Try.prog Ex none Try.f103 [1, 1, 1, 1] a M Q⟩]
    [] [0, 2] (by kernel_rfl) (by kernel_rfl) (by kernel_rfl) (by kernel_rfl) (by kernel_rfl)
    ⟨fun a M hn h => by obtain ⟨⟨n, f⟩, ds⟩ := a; have hn : n = 26 := hn; subst hn; obtain ⟨hd, h⟩ := dfr_iff h; have hd : ds = [] := hd; subst hd; exact h f rfl rfl rfl,
    fun a M hn h => by obtain ⟨⟨n, f⟩, ds⟩ := a; have hn : n = 26 := hn; subst hn; obtain ⟨hd, h⟩ := dfr_iff h; have hd : ds = [] := hd; subst hd; exact h f rfl,
    trivial⟩
    (cast (by kernel_rfl) h)
def S_code_Num_2 (x5 : Value) (M : Store) (Q : Value → Store → Prop) : Prop :=
  NTs [x5] ∧ Q x5 M
theorem T_code_Num_2 {x5 : Value} {M : Store} {Q : Value → Store → Prop} (h : S_code_Num_2 x5 M Q) : P_code_Num_2 x5 M Q := by
  intro f h5; subst h5
  unfold At
  exact rule (B := 1000) (N := 26) (ct := .no)
    [⟨1, fun a M => kfin Try.prog Try.f103.results.toList Q 1 a M, fun a M => kfin Try.prog Try.f103.results.toList Q 1 a M⟩]
    [] [1] (by kernel_rfl) (by kernel_rfl) (by kernel_rfl) (by kernel_rfl) (by kernel_rfl)
    ⟨fun _ _ _ h => h,
    trivial⟩
    (cast (by kernel_rfl) h)
def P_code_Reader_Num_1 (x0 x1 x5 x26 x27 x28 : Value) (M : Store) (Q : Value → Store → Prop) : Prop :=
  ∀ f : Nat → Value, f 0 = x0 → f 1 = x1 → f 5 = x5 → f 26 = x26 → f 27 = x27 → f 28 = x28 → At Try.prog Ex none Try.f104 [1, 1, 1, 0, 1, 0] ⟨⟨52, f⟩, []⟩ M Q
def P_code_Reader_Num_2 (x0 x1 x5 : Value) (M : Store) (Q : Value → Store → Prop) : Prop :=
  ∀ f : Nat → Value, f 0 = x0 → f 1 = x1 → f 5 = x5 → At Try.prog Ex none Try.f104 [1, 1, 1, 1] ⟨⟨52, f⟩, []⟩ M Q
def S_code_Reader_Num (x0 x1 : Value) (M : Store) (Q : Value → Store → Prop) : Prop :=
  OP (nilc x0) fun t9 =>
  OP (fad 1 t9) fun t10 =>
  OP (ld 1 false t10 M) fun t11 =>
  BR t11 (
  R F.code_Reader_fail #[x0] M fun t21 M1 =>
  NTs [(.int .i64 0)] ∧ Q (.int .i64 0) M1
  ) (
  OP (nilc x0) fun t14 =>
  OP (fad 0 t14) fun t15 =>
  OP (ld 1 false t15 M) fun t16 =>
  OP (lenV t16) fun t17 =>
  OP (binI .lss t17 (.int .i64 6)) fun t18 =>
  BR t18 (
  R F.code_Reader_fail #[x0] M fun t21_1 M2 =>
  NTs [(.int .i64 0)] ∧ Q (.int .i64 0) M2
  ) (
  OP (nilc x0) fun t23 =>
  OP (fad 0 t23) fun t24 =>
  OP (ld 1 false t24 M) fun t25 =>
  OP (slV 1 Ty.uint8 t25 none (some (.int .i64 6)) M) fun t26 =>
  OP (lenV t26) fun t27 =>
  P_code_Reader_Num_1 x0 x1 (.int .i64 0) t26 t27 (.int .i64 0) M Q
  )
  )
theorem T_code_Reader_Num {x0 x1 : Value} {M : Store} {Q : Value → Store → Prop} (h : S_code_Reader_Num x0 x1 M Q) : R F.code_Reader_Num #[x0, x1] M Q := by
  refine runs_of (c := bodyOf Try.f104) Try.func104 rfl (by kernel_rfl) (by kernel_rfl) ?_
  unfold At
  exact rule (B := 1000) (N := 52) (ct := (.two .no (.two .no (.two .no (.two (.two .no (.two (.here 1000) .no)) (.here 1001))))))
    [⟨1002, fun a M => dfr a.defers (P_code_Reader_Num_1 (a.get 0) (a.get 1) (a.get 5) (a.get 26) (a.get 27) (a.get 28) M Q), fun a M => At Try.prog Ex none Try.f104 [1, 1, 1, 0, 1, 0] a M Q⟩,
    ⟨1003, fun _ _ => False, fun a M => At Try.prog Ex none Try.f104 [1, 1, 1, 1] a M Q⟩,
    ⟨1, fun a M => kfin Try.prog Try.f104.results.toList Q 1 a M, fun a M => kfin Try.prog Try.f104.results.toList Q 1 a M⟩]
    [1000, 1001] [1] (by kernel_rfl) (by kernel_rfl) (by kernel_rfl) (by kernel_rfl) (by kernel_rfl)
    ⟨fun a M hn h => by obtain ⟨⟨n, f⟩, ds⟩ := a; have hn : n = 52 := hn; subst hn; obtain ⟨hd, h⟩ := dfr_iff h; have hd : ds = [] := hd; subst hd; exact h f rfl rfl rfl rfl rfl rfl,
    fun _ _ _ h => h.elim,
    fun _ _ _ h => h,
    trivial⟩
    (cast (by kernel_rfl) h)
def S_code_Reader_Num_1 (x0 x1 x5 x26 x27 x28 : Value) (M : Store) (Q : Value → Store → Prop) : Prop :=
  OP (binI .lss x28 x27) fun t29 =>
  BR t29 (
  OP (ixA 1 x26 x28) fun t30 =>
  OP (ld 1 false t30 M) fun t31 =>
  OP (binI .shl x5 (.int .u64 8)) fun t33 =>
  OP (cvI .i64 t31) fun t35 =>
  OP (binI .or t33 t35) fun t36 =>
  OP (binI .add x28 (.int .i64 1)) fun t37 =>
  P_code_Reader_Num_1 x0 x1 t36 x26 x27 t37 M Q
  ) (
  P_code_Reader_Num_2 x0 x1 x5 M Q
  )
theorem T_code_Reader_Num_1 {x0 x1 x5 x26 x27 x28 : Value} {M : Store} {Q : Value → Store → Prop} (h : S_code_Reader_Num_1 x0 x1 x5 x26 x27 x28 M Q) : P_code_Reader_Num_1 x0 x1 x5 x26 x27 x28 M Q := by
  intro f h0 h1 h5 h26 h27 h28; subst h0; subst h1; subst h5; subst h26; subst h27; subst h28
  unfold At
  refine cast (by kernel_rfl) (CW.loop (P := Try.prog) (E := Ex) (rd := none) (x := sub (bodyOf Try.f104) [1, 1, 1, 0, 1, 0, 0]) (a := ⟨⟨52, f⟩, []⟩) (M := M) (K := kcont Try.prog Ex none (bodyOf Try.f104) [1, 1, 1, 0, 1, 0] (kfin Try.prog Try.f104.results.toList Q)) ?_)
  exact rule (B := 1000) (N := 52) (ct := .no)
    [⟨0, fun a M => dfr a.defers (P_code_Reader_Num_1 (a.get 0) (a.get 1) (a.get 5) (a.get 26) (a.get 27) (a.get 28) M Q), fun a M => At Try.prog Ex none Try.f104 [1, 1, 1, 0, 1, 0] a M Q⟩,
    ⟨2, fun a M => dfr a.defers (P_code_Reader_Num_2 (a.get 0) (a.get 1) (a.get 5) M Q), fun a M => At Try.prog Ex none Try.f104 [1, 1, 1, 1] a M Q⟩]
    [] [0, 2] (by kernel_rfl) (by kernel_rfl) (by kernel_rfl) (by kernel_rfl) (by kernel_rfl)
    ⟨fun a M hn h => by obtain ⟨⟨n, f⟩, ds⟩ := a; have hn : n = 52 := hn; subst hn; obtain ⟨hd, h⟩ := dfr_iff h; have hd : ds = [] := hd; subst hd; exact h f rfl rfl rfl rfl rfl rfl,
    fun a M hn h => by obtain ⟨⟨n, f⟩, ds⟩ := a; have hn : n = 52 := hn; subst hn; obtain ⟨hd, h⟩ := dfr_iff h; have hd : ds = [] := hd; subst hd; exact h f rfl rfl rfl,
    trivial⟩
    (cast (by kernel_rfl) h)
def S_code_Reader_Num_2 (x0 x1 x5 : Value) (M : Store) (Q : Value → Store → Prop) : Prop :=
  OP (binI .gtr x5 x1) fun t40 =>
  BR t40 (
  R F.code_Reader_fail #[x0] M fun t42 M1 =>
  NTs [(.int .i64 0)] ∧ Q (.int .i64 0) M1
  ) (
  OP (nilc x0) fun t45 =>
  OP (fad 0 t45) fun t46 =>
  OP (ld 1 false t46 M) fun t47 =>
  OP (slV 1 Ty.uint8 t47 (some (.int .i64 6)) none M) fun t48 =>
  OP (nilc x0) fun t49 =>
  OP (fad 0 t49) fun t50 =>
  OP (st 1 t50 t48 M) fun M2 =>
  NTs [x5] ∧ Q x5 M2
  )
theorem T_code_Reader_Num_2 {x0 x1 x5 : Value} {M : Store} {Q : Value → Store → Prop} (h : S_code_Reader_Num_2 x0 x1 x5 M Q) : P_code_Reader_Num_2 x0 x1 x5 M Q := by
  intro f h0 h1 h5; subst h0; subst h1; subst h5
  unfold At
  exact rule (B := 1000) (N := 52) (ct := .no)
    [⟨1, fun a M => kfin Try.prog Try.f104.results.toList Q 1 a M, fun a M => kfin Try.prog Try.f104.results.toList Q 1 a M⟩]
    [] [1] (by kernel_rfl) (by kernel_rfl) (by kernel_rfl) (by kernel_rfl) (by kernel_rfl)
    ⟨fun _ _ _ h => h,
    trivial⟩
    (cast (by kernel_rfl) h)
def P_fettleref1_Reader_Num_1 (x0 x1 x5 x6 : Value) (M : Store) (Q : Value → Store → Prop) : Prop :=
  ∀ f : Nat → Value, f 0 = x0 → f 1 = x1 → f 5 = x5 → f 6 = x6 → At Try.prog Ex none Try.f107 [1, 1, 1, 0, 1, 0] ⟨⟨52, f⟩, []⟩ M Q
def P_fettleref1_Reader_Num_2 (x0 x1 x5 x6 : Value) (M : Store) (Q : Value → Store → Prop) : Prop :=
  ∀ f : Nat → Value, f 0 = x0 → f 1 = x1 → f 5 = x5 → f 6 = x6 → At Try.prog Ex none Try.f107 [1, 1, 1, 0, 1, 0, 0, 1] ⟨⟨52, f⟩, []⟩ M Q
def P_fettleref1_Reader_Num_3 (x0 x1 x5 : Value) (M : Store) (Q : Value → Store → Prop) : Prop :=
  ∀ f : Nat → Value, f 0 = x0 → f 1 = x1 → f 5 = x5 → At Try.prog Ex none Try.f107 [1, 1, 1, 1] ⟨⟨52, f⟩, []⟩ M Q
def S_fettleref1_Reader_Num (x0 x1 : Value) (M : Store) (Q : Value → Store → Prop) : Prop :=
  OP (nilc x0) fun t8 =>
  OP (fad 1 t8) fun t9 =>
  OP (ld 1 false t9 M) fun t10 =>
  BR t10 (
  OP (nilc x0) fun t20 =>
  OP (fad 1 t20) fun t21 =>
  OP (st 1 t21 (.bool true) M) fun M1 =>
  NTs [(.int .i64 0)] ∧ Q (.int .i64 0) M1
  ) (
  OP (nilc x0) fun t13 =>
  OP (fad 0 t13) fun t14 =>
  OP (ld 1 false t14 M) fun t15 =>
  OP (lenV t15) fun t16 =>
  OP (binI .lss t16 (.int .i64 6)) fun t17 =>
  BR t17 (
  OP (nilc x0) fun t20_1 =>
  OP (fad 1 t20_1) fun t21_1 =>
  OP (st 1 t21_1 (.bool true) M) fun M2 =>
  NTs [(.int .i64 0)] ∧ Q (.int .i64 0) M2
  ) (
  P_fettleref1_Reader_Num_1 x0 x1 (.int .i64 0) (.int .i64 0) M Q
  )
  )
theorem T_fettleref1_Reader_Num {x0 x1 : Value} {M : Store} {Q : Value → Store → Prop} (h : S_fettleref1_Reader_Num x0 x1 M Q) : R F.fettleref1_Reader_Num #[x0, x1] M Q := by
  refine runs_of (c := bodyOf Try.f107) Try.func107 rfl (by kernel_rfl) (by kernel_rfl) ?_
  unfold At
  exact rule (B := 1000) (N := 52) (ct := (.two .no (.two .no (.two .no (.two (.two .no (.two (.here 1000) .no)) (.here 1001))))))
    [⟨1002, fun a M => dfr a.defers (P_fettleref1_Reader_Num_1 (a.get 0) (a.get 1) (a.get 5) (a.get 6) M Q), fun a M => At Try.prog Ex none Try.f107 [1, 1, 1, 0, 1, 0] a M Q⟩,
    ⟨1003, fun _ _ => False, fun a M => At Try.prog Ex none Try.f107 [1, 1, 1, 1] a M Q⟩,
    ⟨1, fun a M => kfin Try.prog Try.f107.results.toList Q 1 a M, fun a M => kfin Try.prog Try.f107.results.toList Q 1 a M⟩]
    [1000, 1001] [1] (by kernel_rfl) (by kernel_rfl) (by kernel_rfl) (by kernel_rfl) (by kernel_rfl)
    ⟨fun a M hn h => by obtain ⟨⟨n, f⟩, ds⟩ := a; have hn : n = 52 := hn; subst hn; obtain ⟨hd, h⟩ := dfr_iff h; have hd : ds = [] := hd; subst hd; exact h f rfl rfl rfl rfl,
    fun _ _ _ h => h.elim,
    fun _ _ _ h => h,
    trivial⟩
    (cast (by kernel_rfl) h)
def S_fettleref1_Reader_Num_1 (x0 x1 x5 x6 : Value) (M : Store) (Q : Value → Store → Prop) : Prop :=
  OP (binI .lss x6 (.int .i64 6)) fun t23 =>
  BR t23 (
  P_fettleref1_Reader_Num_2 x0 x1 x5 x6 M Q
  ) (
  P_fettleref1_Reader_Num_3 x0 x1 x5 M Q
  )
theorem T_fettleref1_Reader_Num_1 {x0 x1 x5 x6 : Value} {M : Store} {Q : Value → Store → Prop} (h : S_fettleref1_Reader_Num_1 x0 x1 x5 x6 M Q) : P_fettleref1_Reader_Num_1 x0 x1 x5 x6 M Q := by
  intro f h0 h1 h5 h6; subst h0; subst h1; subst h5; subst h6
  unfold At
  refine cast (by kernel_rfl) (CW.loop (P := Try.prog) (E := Ex) (rd := none) (x := sub (bodyOf Try.f107) [1, 1, 1, 0, 1, 0, 0]) (a := ⟨⟨52, f⟩, []⟩) (M := M) (K := kcont Try.prog Ex none (bodyOf Try.f107) [1, 1, 1, 0, 1, 0] (kfin Try.prog Try.f107.results.toList Q)) ?_)
  exact rule (B := 1000) (N := 52) (ct := (.two .no (.here 1000)))
    [⟨1002, fun a M => dfr a.defers (P_fettleref1_Reader_Num_2 (a.get 0) (a.get 1) (a.get 5) (a.get 6) M Q), fun a M => At Try.prog Ex none Try.f107 [1, 1, 1, 0, 1, 0, 0, 1] a M Q⟩,
    ⟨2, fun a M => dfr a.defers (P_fettleref1_Reader_Num_3 (a.get 0) (a.get 1) (a.get 5) M Q), fun a M => At Try.prog Ex none Try.f107 [1, 1, 1, 1] a M Q⟩]
    [1000] [2] (by kernel_rfl) (by kernel_rfl) (by kernel_rfl) (by kernel_rfl) (by kernel_rfl)
    ⟨fun a M hn h => by obtain ⟨⟨n, f⟩, ds⟩ := a; have hn : n = 52 := hn; subst hn; obtain ⟨hd, h⟩ := dfr_iff h; have hd : ds = [] := hd; subst hd; exact h f rfl rfl rfl rfl,
    fun a M hn h => by obtain ⟨⟨n, f⟩, ds⟩ := a; have hn : n = 52 := hn; subst hn; obtain ⟨hd, h⟩ := dfr_iff h; have hd : ds = [] := hd; subst hd; exact h f rfl rfl rfl,
    trivial⟩
    (cast (by kernel_rfl) h)
def S_fettleref1_Reader_Num_2 (x0 x1 x5 x6 : Value) (M : Store) (Q : Value → Store → Prop) : Prop :=
  OP (binI .shl x5 (.int .u64 8)) fun t27 =>
  OP (nilc x0) fun t29 =>
  OP (fad 0 t29) fun t30 =>
  OP (ld 1 false t30 M) fun t31 =>
  OP (ixA 1 t31 x6) fun t33 =>
  OP (ld 1 false t33 M) fun t34 =>
  OP (cvI .i64 t34) fun t35 =>
  OP (binI .or t27 t35) fun t36 =>
  OP (binI .add x6 (.int .i64 1)) fun t25 =>
  P_fettleref1_Reader_Num_1 x0 x1 t36 t25 M Q
theorem T_fettleref1_Reader_Num_2 {x0 x1 x5 x6 : Value} {M : Store} {Q : Value → Store → Prop} (h : S_fettleref1_Reader_Num_2 x0 x1 x5 x6 M Q) : P_fettleref1_Reader_Num_2 x0 x1 x5 x6 M Q := by
  intro f h0 h1 h5 h6; subst h0; subst h1; subst h5; subst h6
  unfold At
  exact rule (B := 1000) (N := 52) (ct := .no)
    [⟨0, fun a M => dfr a.defers (P_fettleref1_Reader_Num_1 (a.get 0) (a.get 1) (a.get 5) (a.get 6) M Q), fun a M => At Try.prog Ex none Try.f107 [1, 1, 1, 0, 1, 0] a M Q⟩]
    [] [0] (by kernel_rfl) (by kernel_rfl) (by kernel_rfl) (by kernel_rfl) (by kernel_rfl)
    ⟨fun a M hn h => by obtain ⟨⟨n, f⟩, ds⟩ := a; have hn : n = 52 := hn; subst hn; obtain ⟨hd, h⟩ := dfr_iff h; have hd : ds = [] := hd; subst hd; exact h f rfl rfl rfl rfl,
    trivial⟩
    (cast (by kernel_rfl) h)
def S_fettleref1_Reader_Num_3 (x0 x1 x5 : Value) (M : Store) (Q : Value → Store → Prop) : Prop :=
  OP (binI .gtr x5 x1) fun t39 =>
  BR t39 (
  OP (nilc x0) fun t41 =>
  OP (fad 1 t41) fun t42 =>
  OP (st 1 t42 (.bool true) M) fun M1 =>
  NTs [(.int .i64 0)] ∧ Q (.int .i64 0) M1
  ) (
  OP (nilc x0) fun t45 =>
  OP (fad 0 t45) fun t46 =>
  OP (ld 1 false t46 M) fun t47 =>
  OP (slV 1 Ty.uint8 t47 (some (.int .i64 6)) none M) fun t48 =>
  OP (nilc x0) fun t49 =>
  OP (fad 0 t49) fun t50 =>
  OP (st 1 t50 t48 M) fun M2 =>
  NTs [x5] ∧ Q x5 M2
  )
theorem T_fettleref1_Reader_Num_3 {x0 x1 x5 : Value} {M : Store} {Q : Value → Store → Prop} (h : S_fettleref1_Reader_Num_3 x0 x1 x5 M Q) : P_fettleref1_Reader_Num_3 x0 x1 x5 M Q := by
  intro f h0 h1 h5; subst h0; subst h1; subst h5
  unfold At
  exact rule (B := 1000) (N := 52) (ct := .no)
    [⟨1, fun a M => kfin Try.prog Try.f107.results.toList Q 1 a M, fun a M => kfin Try.prog Try.f107.results.toList Q 1 a M⟩]
    [] [1] (by kernel_rfl) (by kernel_rfl) (by kernel_rfl) (by kernel_rfl) (by kernel_rfl)
    ⟨fun _ _ _ h => h,
    trivial⟩
    (cast (by kernel_rfl) h)
def P_slices_Grow_sl_byte_byte_1 (x0 x1 : Value) (M : Store) (Q : Value → Store → Prop) : Prop :=
  ∀ f : Nat → Value, f 0 = x0 → f 1 = x1 → At Try.prog Ex none Try.f109 [1, 1] ⟨⟨27, f⟩, []⟩ M Q
def S_slices_Grow_sl_byte_byte (x0 x1 : Value) (M : Store) (Q : Value → Store → Prop) : Prop :=
  OP (binI .lss x1 (.int .i64 0)) fun t6 =>
  BR t6 (
  OP (mkI Ty.string (.string ⟨#[99, 97, 110, 110, 111, 116, 32, 98, 101, 32, 110, 101, 103, 97, 116, 105, 118, 101]⟩)) fun t7 =>
  False
  ) (
  P_slices_Grow_sl_byte_byte_1 x0 x1 M Q
  )
theorem T_slices_Grow_sl_byte_byte {x0 x1 : Value} {M : Store} {Q : Value → Store → Prop} (h : S_slices_Grow_sl_byte_byte x0 x1 M Q) : R F.slices_Grow_sl_byte_byte #[x0, x1] M Q := by
  refine runs_of (c := bodyOf Try.f109) Try.func109 rfl (by kernel_rfl) (by kernel_rfl) ?_
  unfold At
  exact rule (B := 1000) (N := 27) (ct := (.two .no (.two .no (.here 1000))))
    [⟨1002, fun a M => dfr a.defers (P_slices_Grow_sl_byte_byte_1 (a.get 0) (a.get 1) M Q), fun a M => At Try.prog Ex none Try.f109 [1, 1] a M Q⟩]
    [1000] [] (by kernel_rfl) (by kernel_rfl) (by kernel_rfl) (by kernel_rfl) (by kernel_rfl)
    ⟨fun a M hn h => by obtain ⟨⟨n, f⟩, ds⟩ := a; have hn : n = 27 := hn; subst hn; obtain ⟨hd, h⟩ := dfr_iff h; have hd : ds = [] := hd; subst hd; exact h f rfl rfl,
    trivial⟩
    (cast (by kernel_rfl) h)
def S_slices_Grow_sl_byte_byte_1 (x0 x1 : Value) (M : Store) (Q : Value → Store → Prop) : Prop :=
  OP (capV x0) fun t10 =>
  OP (lenV x0) fun t12 =>
  OP (binI .sub t10 t12) fun t13 =>
  OP (binI .sub x1 t13) fun t14 =>
  OP (binI .gtr t14 (.int .i64 0)) fun t16 =>
  BR t16 (
  OP (capV x0) fun t19 =>
  OP (slV 1 Ty.uint8 x0 none (some t19) M) fun t20 =>
  OP2 (appZ (.int .u8 0) 1 Ty.uint8 t20 t14 M) fun t22 M1 =>
  OP (lenV x0) fun t24 =>
  OP (slV 1 Ty.uint8 t22 none (some t24) M1) fun t25 =>
  NTs [t25] ∧ Q t25 M1
  ) (
  NTs [x0] ∧ Q x0 M
  )
theorem T_slices_Grow_sl_byte_byte_1 {x0 x1 : Value} {M : Store} {Q : Value → Store → Prop} (h : S_slices_Grow_sl_byte_byte_1 x0 x1 M Q) : P_slices_Grow_sl_byte_byte_1 x0 x1 M Q := by
  intro f h0 h1; subst h0; subst h1
  unfold At
  exact rule (B := 1000) (N := 27) (ct := .no)
    [⟨1, fun a M => kfin Try.prog Try.f109.results.toList Q 1 a M, fun a M => kfin Try.prog Try.f109.results.toList Q 1 a M⟩]
    [] [1] (by kernel_rfl) (by kernel_rfl) (by kernel_rfl) (by kernel_rfl) (by kernel_rfl)
    ⟨fun _ _ _ h => h,
    trivial⟩
    (cast (by kernel_rfl) h)
def P_crcs_Sum_1 (x3 x7 x8 x9 : Value) (M : Store) (Q : Value → Store → Prop) : Prop :=
  ∀ f : Nat → Value, f 3 = x3 → f 7 = x7 → f 8 = x8 → f 9 = x9 → At Try.prog Ex none Try.f110 [1, 1, 0, 1, 0] ⟨⟨31, f⟩, []⟩ M Q
def P_crcs_Sum_2 (x3 x7 x8 x9 x17 : Value) (M : Store) (Q : Value → Store → Prop) : Prop :=
  ∀ f : Nat → Value, f 3 = x3 → f 7 = x7 → f 8 = x8 → f 9 = x9 → f 17 = x17 → At Try.prog Ex none Try.f110 [1, 1, 0, 1, 0, 0, 1, 1, 0, 0, 1, 1, 1, 0] ⟨⟨31, f⟩, []⟩ M Q
def P_crcs_Sum_3 (x3 : Value) (M : Store) (Q : Value → Store → Prop) : Prop :=
  ∀ f : Nat → Value, f 3 = x3 → At Try.prog Ex none Try.f110 [1, 1, 1] ⟨⟨31, f⟩, []⟩ M Q
def P_crcs_Sum_4 (x3 x7 x8 x9 : Value) (M : Store) (Q : Value → Store → Prop) : Prop :=
  ∀ f : Nat → Value, f 3 = x3 → f 7 = x7 → f 8 = x8 → f 9 = x9 → At Try.prog Ex none Try.f110 [1, 1, 0, 1, 0, 0, 1, 1, 1] ⟨⟨31, f⟩, []⟩ M Q
def S_crcs_Sum (x0 : Value) (M : Store) (Q : Value → Store → Prop) : Prop :=
  OP (lenV x0) fun t8 =>
  P_crcs_Sum_1 (.int .u32 4294967295) x0 t8 (.int .i64 0) M Q
theorem T_crcs_Sum {x0 : Value} {M : Store} {Q : Value → Store → Prop} (h : S_crcs_Sum x0 M Q) : R F.crcs_Sum #[x0] M Q := by
  refine runs_of (c := bodyOf Try.f110) Try.func110 rfl (by kernel_rfl) (by kernel_rfl) ?_
  unfold At
  exact rule (B := 1000) (N := 31) (ct := (.two .no (.two .no (.two (.two .no (.two (.here 1000) .no)) (.here 1001)))))
    [⟨1002, fun a M => dfr a.defers (P_crcs_Sum_1 (a.get 3) (a.get 7) (a.get 8) (a.get 9) M Q), fun a M => At Try.prog Ex none Try.f110 [1, 1, 0, 1, 0] a M Q⟩,
    ⟨1003, fun _ _ => False, fun a M => At Try.prog Ex none Try.f110 [1, 1, 1] a M Q⟩]
    [1000, 1001] [] (by kernel_rfl) (by kernel_rfl) (by kernel_rfl) (by kernel_rfl) (by kernel_rfl)
    ⟨fun a M hn h => by obtain ⟨⟨n, f⟩, ds⟩ := a; have hn : n = 31 := hn; subst hn; obtain ⟨hd, h⟩ := dfr_iff h; have hd : ds = [] := hd; subst hd; exact h f rfl rfl rfl rfl,
    fun _ _ _ h => h.elim,
    trivial⟩
    (cast (by kernel_rfl) h)
def S_crcs_Sum_1 (x3 x7 x8 x9 : Value) (M : Store) (Q : Value → Store → Prop) : Prop :=
  OP (binI .lss x9 x8) fun t10 =>
  BR t10 (
  OP (ixA 1 x7 x9) fun t11 =>
  OP (ld 1 false t11 M) fun t12 =>
  OP (cvI .u32 t12) fun t15 =>
  OP (binI .xor x3 t15) fun t16 =>
  P_crcs_Sum_2 t16 x7 x8 x9 (.int .i64 0) M Q
  ) (
  P_crcs_Sum_3 x3 M Q
  )
theorem T_crcs_Sum_1 {x3 x7 x8 x9 : Value} {M : Store} {Q : Value → Store → Prop} (h : S_crcs_Sum_1 x3 x7 x8 x9 M Q) : P_crcs_Sum_1 x3 x7 x8 x9 M Q := by
  intro f h3 h7 h8 h9; subst h3; subst h7; subst h8; subst h9
  unfold At
  refine cast (by kernel_rfl) (CW.loop (P := Try.prog) (E := Ex) (rd := none) (x := sub (bodyOf Try.f110) [1, 1, 0, 1, 0, 0]) (a := ⟨⟨31, f⟩, []⟩) (M := M) (K := kcont Try.prog Ex none (bodyOf Try.f110) [1, 1, 0, 1, 0] (kfin Try.prog Try.f110.results.toList Q)) ?_)
  exact rule (B := 1000) (N := 31) (ct := (.two .no (.two .no (.two (.two (.two .no (.two .no (.two .no (.two (.here 1000) .no)))) .no) (.here 1001)))))
    [⟨1002, fun a M => dfr a.defers (P_crcs_Sum_2 (a.get 3) (a.get 7) (a.get 8) (a.get 9) (a.get 17) M Q), fun a M => At Try.prog Ex none Try.f110 [1, 1, 0, 1, 0, 0, 1, 1, 0, 0, 1, 1, 1, 0] a M Q⟩,
    ⟨1003, fun _ _ => False, fun a M => At Try.prog Ex none Try.f110 [1, 1, 0, 1, 0, 0, 1, 1, 1] a M Q⟩,
    ⟨2, fun a M => dfr a.defers (P_crcs_Sum_3 (a.get 3) M Q), fun a M => At Try.prog Ex none Try.f110 [1, 1, 1] a M Q⟩]
    [1000, 1001] [2] (by kernel_rfl) (by kernel_rfl) (by kernel_rfl) (by kernel_rfl) (by kernel_rfl)
    ⟨fun a M hn h => by obtain ⟨⟨n, f⟩, ds⟩ := a; have hn : n = 31 := hn; subst hn; obtain ⟨hd, h⟩ := dfr_iff h; have hd : ds = [] := hd; subst hd; exact h f rfl rfl rfl rfl rfl,
    fun _ _ _ h => h.elim,
    fun a M hn h => by obtain ⟨⟨n, f⟩, ds⟩ := a; have hn : n = 31 := hn; subst hn; obtain ⟨hd, h⟩ := dfr_iff h; have hd : ds = [] := hd; subst hd; exact h f rfl,
    trivial⟩
    (cast (by kernel_rfl) h)
def S_crcs_Sum_2 (x3 x7 x8 x9 x17 : Value) (M : Store) (Q : Value → Store → Prop) : Prop :=
  OP (binI .lss x17 (.int .i64 8)) fun t18 =>
  BR t18 (
  OP (binI .and x3 (.int .u32 1)) fun t20 =>
  OP (binI .shr x3 (.int .u64 1)) fun t22 =>
  OP (binI .eql t20 (.int .u32 1)) fun t24 =>
  BR t24 (
  OP (binI .xor t22 (.int .u32 3988292384)) fun t26 =>
  OP (binI .add x17 (.int .i64 1)) fun t27 =>
  P_crcs_Sum_2 t26 x7 x8 x9 t27 M Q
  ) (
  OP (binI .add x17 (.int .i64 1)) fun t27_1 =>
  P_crcs_Sum_2 t22 x7 x8 x9 t27_1 M Q
  )
  ) (
  P_crcs_Sum_4 x3 x7 x8 x9 M Q
  )
theorem T_crcs_Sum_2 {x3 x7 x8 x9 x17 : Value} {M : Store} {Q : Value → Store → Prop} (h : S_crcs_Sum_2 x3 x7 x8 x9 x17 M Q) : P_crcs_Sum_2 x3 x7 x8 x9 x17 M Q := by
  intro f h3 h7 h8 h9 h17; subst h3; subst h7; subst h8; subst h9; subst h17
  unfold At
  refine cast (by kernel_rfl) (CW.loop (P := Try.prog) (E := Ex) (rd := none) (x := sub (bodyOf Try.f110) [1, 1, 0, 1, 0, 0, 1, 1, 0, 0, 1, 1, 1, 0, 0]) (a := ⟨⟨31, f⟩, []⟩) (M := M) (K := kcont Try.prog Ex none (bodyOf Try.f110) [1, 1, 0, 1, 0, 0, 1, 1, 0, 0, 1, 1, 1, 0] (kfin Try.prog Try.f110.results.toList Q)) ?_)
  exact rule (B := 1000) (N := 31) (ct := .no)
    [⟨0, fun a M => dfr a.defers (P_crcs_Sum_2 (a.get 3) (a.get 7) (a.get 8) (a.get 9) (a.get 17) M Q), fun a M => At Try.prog Ex none Try.f110 [1, 1, 0, 1, 0, 0, 1, 1, 0, 0, 1, 1, 1, 0] a M Q⟩,
    ⟨4, fun a M => dfr a.defers (P_crcs_Sum_4 (a.get 3) (a.get 7) (a.get 8) (a.get 9) M Q), fun a M => At Try.prog Ex none Try.f110 [1, 1, 0, 1, 0, 0, 1, 1, 1] a M Q⟩]
    [] [0, 4] (by kernel_rfl) (by kernel_rfl) (by kernel_rfl) (by kernel_rfl) (by kernel_rfl)
    ⟨fun a M hn h => by obtain ⟨⟨n, f⟩, ds⟩ := a; have hn : n = 31 := hn; subst hn; obtain ⟨hd, h⟩ := dfr_iff h; have hd : ds = [] := hd; subst hd; exact h f rfl rfl rfl rfl rfl,
    fun a M hn h => by obtain ⟨⟨n, f⟩, ds⟩ := a; have hn : n = 31 := hn; subst hn; obtain ⟨hd, h⟩ := dfr_iff h; have hd : ds = [] := hd; subst hd; exact h f rfl rfl rfl rfl,
    trivial⟩
    (cast (by kernel_rfl) h)
def S_crcs_Sum_3 (x3 : Value) (M : Store) (Q : Value → Store → Prop) : Prop :=
  OP (binI .xor x3 (.int .u32 4294967295)) fun t30 =>
  NTs [t30] ∧ Q t30 M
theorem T_crcs_Sum_3 {x3 : Value} {M : Store} {Q : Value → Store → Prop} (h : S_crcs_Sum_3 x3 M Q) : P_crcs_Sum_3 x3 M Q := by
  intro f h3; subst h3
  unfold At
  exact rule (B := 1000) (N := 31) (ct := .no)
    [⟨1, fun a M => kfin Try.prog Try.f110.results.toList Q 1 a M, fun a M => kfin Try.prog Try.f110.results.toList Q 1 a M⟩]
    [] [1] (by kernel_rfl) (by kernel_rfl) (by kernel_rfl) (by kernel_rfl) (by kernel_rfl)
    ⟨fun _ _ _ h => h,
    trivial⟩
    (cast (by kernel_rfl) h)
def S_crcs_Sum_4 (x3 x7 x8 x9 : Value) (M : Store) (Q : Value → Store → Prop) : Prop :=
  OP (binI .add x9 (.int .i64 1)) fun t28 =>
  P_crcs_Sum_1 x3 x7 x8 t28 M Q
theorem T_crcs_Sum_4 {x3 x7 x8 x9 : Value} {M : Store} {Q : Value → Store → Prop} (h : S_crcs_Sum_4 x3 x7 x8 x9 M Q) : P_crcs_Sum_4 x3 x7 x8 x9 M Q := by
  intro f h3 h7 h8 h9; subst h3; subst h7; subst h8; subst h9
  unfold At
  exact rule (B := 1000) (N := 31) (ct := .no)
    [⟨0, fun a M => dfr a.defers (P_crcs_Sum_1 (a.get 3) (a.get 7) (a.get 8) (a.get 9) M Q), fun a M => At Try.prog Ex none Try.f110 [1, 1, 0, 1, 0] a M Q⟩]
    [] [0] (by kernel_rfl) (by kernel_rfl) (by kernel_rfl) (by kernel_rfl) (by kernel_rfl)
    ⟨fun a M hn h => by obtain ⟨⟨n, f⟩, ds⟩ := a; have hn : n = 31 := hn; subst hn; obtain ⟨hd, h⟩ := dfr_iff h; have hd : ds = [] := hd; subst hd; exact h f rfl rfl rfl rfl,
    trivial⟩
    (cast (by kernel_rfl) h)
def S_code_Reader_Ok (x0 : Value) (M : Store) (Q : Value → Store → Prop) : Prop :=
  OP (nilc x0) fun t4 =>
  OP (fad 1 t4) fun t5 =>
  OP (ld 1 false t5 M) fun t6 =>
  OP (aun .not t6) fun t7 =>
  NTs [t7] ∧ Q t7 M
theorem T_code_Reader_Ok {x0 : Value} {M : Store} {Q : Value → Store → Prop} (h : S_code_Reader_Ok x0 M Q) : R F.code_Reader_Ok #[x0] M Q := by
  refine runs_of (c := bodyOf Try.f111) Try.func111 rfl (by kernel_rfl) (by kernel_rfl) ?_
  unfold At
  exact rule (B := 1000) (N := 8) (ct := .no)
    [⟨1, fun a M => kfin Try.prog Try.f111.results.toList Q 1 a M, fun a M => kfin Try.prog Try.f111.results.toList Q 1 a M⟩]
    [] [1] (by kernel_rfl) (by kernel_rfl) (by kernel_rfl) (by kernel_rfl) (by kernel_rfl)
    ⟨fun _ _ _ h => h,
    trivial⟩
    (cast (by kernel_rfl) h)
def P_slices_Equal_sl_byte_byte_1 (x0 x1 x12 x13 : Value) (M : Store) (Q : Value → Store → Prop) : Prop :=
  ∀ f : Nat → Value, f 0 = x0 → f 1 = x1 → f 12 = x12 → f 13 = x13 → At Try.prog Ex none Try.f112 [1, 1, 0, 1, 0] ⟨⟨26, f⟩, []⟩ M Q
def P_slices_Equal_sl_byte_byte_2 (x0 x1 x12 x13 : Value) (M : Store) (Q : Value → Store → Prop) : Prop :=
  ∀ f : Nat → Value, f 0 = x0 → f 1 = x1 → f 12 = x12 → f 13 = x13 → At Try.prog Ex none Try.f112 [1, 1, 0, 1, 0, 0, 1, 1] ⟨⟨26, f⟩, []⟩ M Q
def P_slices_Equal_sl_byte_byte_3 (M : Store) (Q : Value → Store → Prop) : Prop :=
  ∀ f : Nat → Value, At Try.prog Ex none Try.f112 [1, 1, 1] ⟨⟨26, f⟩, []⟩ M Q
def S_slices_Equal_sl_byte_byte (x0 x1 : Value) (M : Store) (Q : Value → Store → Prop) : Prop :=
  OP (lenV x0) fun t7 =>
  OP (lenV x1) fun t9 =>
  OP (binI .neq t7 t9) fun t10 =>
  BR t10 (
  NTs [(.bool false)] ∧ Q (.bool false) M
  ) (
  OP (lenV x0) fun t12 =>
  P_slices_Equal_sl_byte_byte_1 x0 x1 t12 (.int .i64 0) M Q
  )
theorem T_slices_Equal_sl_byte_byte {x0 x1 : Value} {M : Store} {Q : Value → Store → Prop} (h : S_slices_Equal_sl_byte_byte x0 x1 M Q) : R F.slices_Equal_sl_byte_byte #[x0, x1] M Q := by
  refine runs_of (c := bodyOf Try.f112) Try.func112 rfl (by kernel_rfl) (by kernel_rfl) ?_
  unfold At
  exact rule (B := 1000) (N := 26) (ct := (.two .no (.two .no (.two (.two .no (.two (.here 1000) .no)) (.here 1001)))))
    [⟨1002, fun a M => dfr a.defers (P_slices_Equal_sl_byte_byte_1 (a.get 0) (a.get 1) (a.get 12) (a.get 13) M Q), fun a M => At Try.prog Ex none Try.f112 [1, 1, 0, 1, 0] a M Q⟩,
    ⟨1003, fun _ _ => False, fun a M => At Try.prog Ex none Try.f112 [1, 1, 1] a M Q⟩,
    ⟨1, fun a M => kfin Try.prog Try.f112.results.toList Q 1 a M, fun a M => kfin Try.prog Try.f112.results.toList Q 1 a M⟩]
    [1000, 1001] [1] (by kernel_rfl) (by kernel_rfl) (by kernel_rfl) (by kernel_rfl) (by kernel_rfl)
    ⟨fun a M hn h => by obtain ⟨⟨n, f⟩, ds⟩ := a; have hn : n = 26 := hn; subst hn; obtain ⟨hd, h⟩ := dfr_iff h; have hd : ds = [] := hd; subst hd; exact h f rfl rfl rfl rfl,
    fun _ _ _ h => h.elim,
    fun _ _ _ h => h,
    trivial⟩
    (cast (by kernel_rfl) h)
def S_slices_Equal_sl_byte_byte_1 (x0 x1 x12 x13 : Value) (M : Store) (Q : Value → Store → Prop) : Prop :=
  OP (binI .lss x13 x12) fun t14 =>
  BR t14 (
  P_slices_Equal_sl_byte_byte_2 x0 x1 x12 x13 M Q
  ) (
  P_slices_Equal_sl_byte_byte_3 M Q
  )
theorem T_slices_Equal_sl_byte_byte_1 {x0 x1 x12 x13 : Value} {M : Store} {Q : Value → Store → Prop} (h : S_slices_Equal_sl_byte_byte_1 x0 x1 x12 x13 M Q) : P_slices_Equal_sl_byte_byte_1 x0 x1 x12 x13 M Q := by
  intro f h0 h1 h12 h13; subst h0; subst h1; subst h12; subst h13
  unfold At
  refine cast (by kernel_rfl) (CW.loop (P := Try.prog) (E := Ex) (rd := none) (x := sub (bodyOf Try.f112) [1, 1, 0, 1, 0, 0]) (a := ⟨⟨26, f⟩, []⟩) (M := M) (K := kcont Try.prog Ex none (bodyOf Try.f112) [1, 1, 0, 1, 0] (kfin Try.prog Try.f112.results.toList Q)) ?_)
  exact rule (B := 1000) (N := 26) (ct := (.two .no (.two .no (.here 1000))))
    [⟨1002, fun a M => dfr a.defers (P_slices_Equal_sl_byte_byte_2 (a.get 0) (a.get 1) (a.get 12) (a.get 13) M Q), fun a M => At Try.prog Ex none Try.f112 [1, 1, 0, 1, 0, 0, 1, 1] a M Q⟩,
    ⟨2, fun a M => dfr a.defers (P_slices_Equal_sl_byte_byte_3 M Q), fun a M => At Try.prog Ex none Try.f112 [1, 1, 1] a M Q⟩]
    [1000] [2] (by kernel_rfl) (by kernel_rfl) (by kernel_rfl) (by kernel_rfl) (by kernel_rfl)
    ⟨fun a M hn h => by obtain ⟨⟨n, f⟩, ds⟩ := a; have hn : n = 26 := hn; subst hn; obtain ⟨hd, h⟩ := dfr_iff h; have hd : ds = [] := hd; subst hd; exact h f rfl rfl rfl rfl,
    fun a M hn h => by obtain ⟨⟨n, f⟩, ds⟩ := a; have hn : n = 26 := hn; subst hn; obtain ⟨hd, h⟩ := dfr_iff h; have hd : ds = [] := hd; subst hd; exact h f,
    trivial⟩
    (cast (by kernel_rfl) h)
def S_slices_Equal_sl_byte_byte_2 (x0 x1 x12 x13 : Value) (M : Store) (Q : Value → Store → Prop) : Prop :=
  OP (ixA 1 x0 x13) fun t18 =>
  OP (ld 1 false t18 M) fun t19 =>
  OP (ixA 1 x1 x13) fun t22 =>
  OP (ld 1 false t22 M) fun t23 =>
  OP (binI .neq t19 t23) fun t24 =>
  BR t24 (
  NTs [(.bool false)] ∧ Q (.bool false) M
  ) (
  OP (binI .add x13 (.int .i64 1)) fun t25 =>
  P_slices_Equal_sl_byte_byte_1 x0 x1 x12 t25 M Q
  )
theorem T_slices_Equal_sl_byte_byte_2 {x0 x1 x12 x13 : Value} {M : Store} {Q : Value → Store → Prop} (h : S_slices_Equal_sl_byte_byte_2 x0 x1 x12 x13 M Q) : P_slices_Equal_sl_byte_byte_2 x0 x1 x12 x13 M Q := by
  intro f h0 h1 h12 h13; subst h0; subst h1; subst h12; subst h13
  unfold At
  exact rule (B := 1000) (N := 26) (ct := .no)
    [⟨0, fun a M => dfr a.defers (P_slices_Equal_sl_byte_byte_1 (a.get 0) (a.get 1) (a.get 12) (a.get 13) M Q), fun a M => At Try.prog Ex none Try.f112 [1, 1, 0, 1, 0] a M Q⟩,
    ⟨1, fun a M => kfin Try.prog Try.f112.results.toList Q 1 a M, fun a M => kfin Try.prog Try.f112.results.toList Q 1 a M⟩]
    [] [0, 1] (by kernel_rfl) (by kernel_rfl) (by kernel_rfl) (by kernel_rfl) (by kernel_rfl)
    ⟨fun a M hn h => by obtain ⟨⟨n, f⟩, ds⟩ := a; have hn : n = 26 := hn; subst hn; obtain ⟨hd, h⟩ := dfr_iff h; have hd : ds = [] := hd; subst hd; exact h f rfl rfl rfl rfl,
    fun _ _ _ h => h,
    trivial⟩
    (cast (by kernel_rfl) h)
def S_slices_Equal_sl_byte_byte_3 (M : Store) (Q : Value → Store → Prop) : Prop :=
  NTs [(.bool true)] ∧ Q (.bool true) M
theorem T_slices_Equal_sl_byte_byte_3 {M : Store} {Q : Value → Store → Prop} (h : S_slices_Equal_sl_byte_byte_3 M Q) : P_slices_Equal_sl_byte_byte_3 M Q := by
  intro f 
  unfold At
  exact rule (B := 1000) (N := 26) (ct := .no)
    [⟨1, fun a M => kfin Try.prog Try.f112.results.toList Q 1 a M, fun a M => kfin Try.prog Try.f112.results.toList Q 1 a M⟩]
    [] [1] (by kernel_rfl) (by kernel_rfl) (by kernel_rfl) (by kernel_rfl) (by kernel_rfl)
    ⟨fun _ _ _ h => h,
    trivial⟩
    (cast (by kernel_rfl) h)
def S_code_Reader_fail (x0 : Value) (M : Store) (Q : Value → Store → Prop) : Prop :=
  OP (nilc x0) fun t4 =>
  OP (fad 0 t4) fun t5 =>
  OP (st 1 t5 (.slice none 0 0) M) fun M1 =>
  OP (nilc x0) fun t6 =>
  OP (fad 1 t6) fun t7 =>
  OP (st 1 t7 (.bool true) M1) fun M2 =>
  NTs [] ∧ Q (.tuple #[]) M2
theorem T_code_Reader_fail {x0 : Value} {M : Store} {Q : Value → Store → Prop} (h : S_code_Reader_fail x0 M Q) : R F.code_Reader_fail #[x0] M Q := by
  refine runs_of (c := bodyOf Try.f113) Try.func113 rfl (by kernel_rfl) (by kernel_rfl) ?_
  unfold At
  exact rule (B := 1000) (N := 8) (ct := .no)
    [⟨0, fun a M => kfin Try.prog Try.f113.results.toList Q 0 a M, fun a M => kfin Try.prog Try.f113.results.toList Q 0 a M⟩]
    [] [0] (by kernel_rfl) (by kernel_rfl) (by kernel_rfl) (by kernel_rfl) (by kernel_rfl)
    ⟨fun _ _ _ h => h,
    trivial⟩
    (cast (by kernel_rfl) h)
def S_slices_Clip_sl_byte_byte (x0 : Value) (M : Store) (Q : Value → Store → Prop) : Prop :=
  OP (lenV x0) fun t5 =>
  OP (lenV x0) fun t7 =>
  OP (slM 1 Ty.uint8 x0 none t5 t7 M) fun t8 =>
  NTs [t8] ∧ Q t8 M
theorem T_slices_Clip_sl_byte_byte {x0 : Value} {M : Store} {Q : Value → Store → Prop} (h : S_slices_Clip_sl_byte_byte x0 M Q) : R F.slices_Clip_sl_byte_byte #[x0] M Q := by
  refine runs_of (c := bodyOf Try.f131) Try.func131 rfl (by kernel_rfl) (by kernel_rfl) ?_
  unfold At
  exact rule (B := 1000) (N := 9) (ct := .no)
    [⟨1, fun a M => kfin Try.prog Try.f131.results.toList Q 1 a M, fun a M => kfin Try.prog Try.f131.results.toList Q 1 a M⟩]
    [] [1] (by kernel_rfl) (by kernel_rfl) (by kernel_rfl) (by kernel_rfl) (by kernel_rfl)
    ⟨fun _ _ _ h => h,
    trivial⟩
    (cast (by kernel_rfl) h)
end Go.G
