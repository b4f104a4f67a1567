import Derived.Test.YtmdbdbjaipcgeaaGN
open Go.RowKit
namespace Go.G
open Go.Ab Go.Proofs
set_option linter.unusedVariables false
set_option maxRecDepth 100000
def S_fettlelaw12_RecoTurned (x0 x1 x2 x3 : Value) (M : Store) (Q : Value → Store → Prop) : Prop :=
  OP (binI .and x0 (.int .i64 7)) fun t24 =>
  OP (binI .shr x0 (.int .u64 3)) fun t26 =>
  OP (binI .and t26 (.int .i64 255)) fun t27 =>
  OP (binI .shr x0 (.int .u64 11)) fun t29 =>
  OP (binI .and t29 (.int .i64 65535)) fun t30 =>
  OP (binI .and x1 (.int .i64 4294967295)) fun t32 =>
  OP (bldS #[(.int .i64 0), (.int .i64 0), (.int .i64 0), (.int .i64 0)] [(0, 1), (1, 1), (2, 1), (3, 1)] [(0, t24), (1, t27), (2, t30), (3, t32)]) fun t33 =>
  LT (.pointer (some ⟨M.n, 0, none⟩)) (M.push (some (.inl ([(.int .i64 0), (.int .i64 0), (.int .i64 0), (.int .i64 0)], Ty.api_Lock, true)))) fun t9 M1 =>
  OP (st 4 t9 t33 M1) fun M2 =>
  OP (ld 4 true t9 M2) fun t34 =>
  R F.reco_Lock #[t34] M2 fun t35 M3 =>
  OP (lenV t35) fun t37 =>
  OP (binI .lss t37 (.int .i64 10)) fun t38 =>
  BR t38 (
  NTs [(.bool false)] ∧ Q (.bool false) M3
  ) (
  R F.reco_OpenLock #[t35] M3 fun t41 M4 =>
  OP (tup t41 0) fun t42 =>
  OP (tup t41 1) fun t43 =>
  LT (.pointer (some ⟨M4.n, 0, none⟩)) (M4.push (some (.inl ([(.int .i64 0), (.int .i64 0), (.int .i64 0), (.int .i64 0)], Ty.api_Lock, true)))) fun t11 M5 =>
  OP (st 4 t11 t42 M5) fun M6 =>
  OP (bldL (.int .u8 0) 1 0 []) fun c =>
  LT (.slice (some ⟨M6.n, 0, none⟩) 0 0) (M6.push (some (.inl (c, Ty.uint8, true)))) fun t44 M7 =>
  OP2 (appV 1 Ty.uint8 t44 t35 M7) fun t46 M8 =>
  OP (binI .and x2 (.int .i64 65535)) fun t48 =>
  OP (lenV t35) fun t50 =>
  OP (binI .mul (.int .i64 8) t50) fun t51 =>
  OP (binI .rem t48 t51) fun t52 =>
  OP (binI .quo t52 (.int .i64 8)) fun t55 =>
  OP (binI .quo t52 (.int .i64 8)) fun t58 =>
  OP (ixA 1 t46 t58) fun t59 =>
  OP (ld 1 false t59 M8) fun t60 =>
  OP (binI .and t52 (.int .i64 7)) fun t62 =>
  OP (cvI .u64 t62) fun t63 =>
  OP (binI .shl (.int .u8 1) t63) fun t64 =>
  OP (binI .xor t60 t64) fun t65 =>
  OP (ixA 1 t46 t55) fun t66 =>
  OP (st 1 t66 t65 M8) fun M9 =>
  R F.reco_OpenLock #[t46] M9 fun t69 M10 =>
  OP (tup t69 0) fun t70 =>
  OP (tup t69 1) fun t71 =>
  LT (.pointer (some ⟨M10.n, 0, none⟩)) (M10.push (some (.inl ([(.int .i64 0), (.int .i64 0), (.int .i64 0), (.int .i64 0)], Ty.api_Lock, true)))) fun t15 M11 =>
  OP (st 4 t15 t70 M11) fun M12 =>
  OP (binI .and x3 (.int .i64 65535)) fun t75 =>
  OP (lenV t35) fun t77 =>
  OP (binI .rem t75 t77) fun t78 =>
  OP (slV 1 Ty.uint8 t35 none (some t78) M12) fun t79 =>
  R F.reco_OpenLock #[t79] M12 fun t80 M13 =>
  OP (tup t80 0) fun t81 =>
  OP (tup t80 1) fun t82 =>
  LT (.pointer (some ⟨M13.n, 0, none⟩)) (M13.push (some (.inl ([(.int .i64 0), (.int .i64 0), (.int .i64 0), (.int .i64 0)], Ty.api_Lock, true)))) fun t17 M14 =>
  OP (st 4 t17 t81 M14) fun M15 =>
  OP (bldL (.int .u8 0) 1 0 []) fun c_1 =>
  LT (.slice (some ⟨M15.n, 0, none⟩) 0 0) (M15.push (some (.inl (c_1, Ty.uint8, true)))) fun t84 M16 =>
  OP2 (appV 1 Ty.uint8 t84 t35 M16) fun t86 M17 =>
  OP (bldL (.int .u8 0) 1 1 [(0, (.int .u8 0))]) fun c_2 =>
  LT (.slice (some ⟨M17.n, 0, none⟩) 1 1) (M17.push (some (.inl (c_2, Ty.uint8, true)))) fun t87 M18 =>
  OP2 (appV 1 Ty.uint8 t86 t87 M18) fun t88 M19 =>
  R F.reco_OpenLock #[t88] M19 fun t89 M20 =>
  OP (tup t89 0) fun t90 =>
  OP (tup t89 1) fun t91 =>
  LT (.pointer (some ⟨M20.n, 0, none⟩)) (M20.push (some (.inl ([(.int .i64 0), (.int .i64 0), (.int .i64 0), (.int .i64 0)], Ty.api_Lock, true)))) fun t19 M21 =>
  OP (st 4 t19 t90 M21) fun M22 =>
  OP (bldL (.int .u8 0) 1 0 []) fun c_3 =>
  LT (.slice (some ⟨M22.n, 0, none⟩) 0 0) (M22.push (some (.inl (c_3, Ty.uint8, true)))) fun t93 M23 =>
  OP2 (appV 1 Ty.uint8 t93 t35 M23) fun t95 M24 =>
  OP2 (appV 1 Ty.uint8 t95 t35 M24) fun t97 M25 =>
  R F.reco_OpenLock #[t97] M25 fun t98 M26 =>
  OP (tup t98 0) fun t99 =>
  OP (tup t98 1) fun t100 =>
  LT (.pointer (some ⟨M26.n, 0, none⟩)) (M26.push (some (.inl ([(.int .i64 0), (.int .i64 0), (.int .i64 0), (.int .i64 0)], Ty.api_Lock, true)))) fun t21 M27 =>
  OP (st 4 t21 t99 M27) fun M28 =>
  BR t43 (
  OP (ld 4 true t11 M28) fun t103 =>
  OP (ld 4 true t9 M28) fun t104 =>
  OP (abin Try.prog false .eql Ty.api_Lock t103 t104) fun t105 =>
  BR t105 (
  OP (aun .not t71) fun t109 =>
  BR t109 (
  OP (aun .not t82) fun t113 =>
  BR t113 (
  OP (aun .not t91) fun t117 =>
  BR t117 (
  OP (aun .not t100) fun t121 =>
  BR t121 (
  R F.fettlelaw12_awake #[] M28 fun t124 M29 =>
  NTs [t124] ∧ Q t124 M29
  ) (
  NTs [(.bool false)] ∧ Q (.bool false) M28
  )
  ) (
  NTs [(.bool false)] ∧ Q (.bool false) M28
  )
  ) (
  NTs [(.bool false)] ∧ Q (.bool false) M28
  )
  ) (
  NTs [(.bool false)] ∧ Q (.bool false) M28
  )
  ) (
  NTs [(.bool false)] ∧ Q (.bool false) M28
  )
  ) (
  NTs [(.bool false)] ∧ Q (.bool false) M28
  )
  )
theorem T_fettlelaw12_RecoTurned {x0 x1 x2 x3 : Value} {M : Store} {Q : Value → Store → Prop} (h : S_fettlelaw12_RecoTurned x0 x1 x2 x3 M Q) : R F.fettlelaw12_RecoTurned #[x0, x1, x2, x3] M Q := by
  refine runs_of (c := bodyOf Try.f15) Try.func15 rfl (by kernel_rfl) (by kernel_rfl) ?_
  unfold At
  exact rule (B := 1000) (N := 126) (ct := .no)
    [⟨1, fun a M => kfin Try.prog Try.f15.results.toList Q 1 a M, fun a M => kfin Try.prog Try.f15.results.toList Q 1 a M⟩]
    [] [1] (by kernel_rfl) (by kernel_rfl) (by kernel_rfl) (by kernel_rfl) (by kernel_rfl)
    ⟨fun _ _ _ h => h,
    trivial⟩
    (cast (by kernel_rfl) h)
def P_fettlelaw12_RecoTells_1 (x2 x3 x4 x5 x6 x7 x13 x14 : Value) (M : Store) (Q : Value → Store → Prop) : Prop :=
  ∀ f : Nat → Value, f 2 = x2 → f 3 = x3 → f 4 = x4 → f 5 = x5 → f 6 = x6 → f 7 = x7 → f 13 = x13 → f 14 = x14 → At Try.prog Ex none Try.f16 [1, 1, 1, 1, 0, 1, 0] ⟨⟨207, f⟩, []⟩ M Q
def P_fettlelaw12_RecoTells_2 (x2 x3 x4 x5 x6 x7 x13 x14 : Value) (M : Store) (Q : Value → Store → Prop) : Prop :=
  ∀ f : Nat → Value, f 2 = x2 → f 3 = x3 → f 4 = x4 → f 5 = x5 → f 6 = x6 → f 7 = x7 → f 13 = x13 → f 14 = x14 → At Try.prog Ex none Try.f16 [1, 1, 1, 1, 0, 1, 0, 0, 1] ⟨⟨207, f⟩, []⟩ M Q
def P_fettlelaw12_RecoTells_3 (x3 x4 x5 x6 x7 x13 : Value) (M : Store) (Q : Value → Store → Prop) : Prop :=
  ∀ f : Nat → Value, f 3 = x3 → f 4 = x4 → f 5 = x5 → f 6 = x6 → f 7 = x7 → f 13 = x13 → At Try.prog Ex none Try.f16 [1, 1, 1, 1, 1] ⟨⟨207, f⟩, []⟩ M Q
def P_fettlelaw12_RecoTells_4 (x4 x5 x15 x101 x102 x103 : Value) (M : Store) (Q : Value → Store → Prop) : Prop :=
  ∀ f : Nat → Value, f 4 = x4 → f 5 = x5 → f 15 = x15 → f 101 = x101 → f 102 = x102 → f 103 = x103 → At Try.prog Ex none Try.f16 [1, 1, 1, 1, 1, 1, 0, 1, 0] ⟨⟨207, f⟩, []⟩ M Q
def P_fettlelaw12_RecoTells_5 (x4 x5 x15 x101 x102 x103 : Value) (M : Store) (Q : Value → Store → Prop) : Prop :=
  ∀ f : Nat → Value, f 4 = x4 → f 5 = x5 → f 15 = x15 → f 101 = x101 → f 102 = x102 → f 103 = x103 → At Try.prog Ex none Try.f16 [1, 1, 1, 1, 1, 1, 0, 1, 0, 0, 1, 1] ⟨⟨207, f⟩, []⟩ M Q
def P_fettlelaw12_RecoTells_6 (x15 : Value) (M : Store) (Q : Value → Store → Prop) : Prop :=
  ∀ f : Nat → Value, f 15 = x15 → At Try.prog Ex none Try.f16 [1, 1, 1, 1, 1, 1, 1] ⟨⟨207, f⟩, []⟩ M Q
def P_fettlelaw12_RecoTells_7 (x139 x140 x141 : Value) (M : Store) (Q : Value → Store → Prop) : Prop :=
  ∀ f : Nat → Value, f 139 = x139 → f 140 = x140 → f 141 = x141 → At Try.prog Ex none Try.f16 [1, 1, 1, 1, 1, 1, 1, 0, 1, 0] ⟨⟨207, f⟩, []⟩ M Q
def P_fettlelaw12_RecoTells_8 (x139 x140 x141 : Value) (M : Store) (Q : Value → Store → Prop) : Prop :=
  ∀ f : Nat → Value, f 139 = x139 → f 140 = x140 → f 141 = x141 → At Try.prog Ex none Try.f16 [1, 1, 1, 1, 1, 1, 1, 0, 1, 0, 0, 1, 1] ⟨⟨207, f⟩, []⟩ M Q
def P_fettlelaw12_RecoTells_9 (M : Store) (Q : Value → Store → Prop) : Prop :=
  ∀ f : Nat → Value, At Try.prog Ex none Try.f16 [1, 1, 1, 1, 1, 1, 1, 1] ⟨⟨207, f⟩, []⟩ M Q
def S_fettlelaw12_RecoTells (x0 x1 x2 x3 x4 x5 : Value) (M : Store) (Q : Value → Store → Prop) : Prop :=
  OP (boxv x0) fun c =>
  LT (.pointer (some ⟨M.n, 0, none⟩)) (M.push (some (.inl (c, Ty.api_Lock, true)))) fun t6 M1 =>
  OP (boxv x1) fun c_1 =>
  LT (.pointer (some ⟨M1.n, 0, none⟩)) (M1.push (some (.inl (c_1, Ty.api_Done, true)))) fun t7 M2 =>
  OP (lenV x3) fun t34 =>
  OP (binI .gtr t34 (.int .i64 300)) fun t35 =>
  BR t35 (
  R F.fettlelaw12_awake #[] M2 fun t48 M3 =>
  NTs [t48] ∧ Q t48 M3
  ) (
  OP (fad 0 t7) fun t37 =>
  OP (ld 1 false t37 M2) fun t38 =>
  OP (lenS t38) fun t39 =>
  OP (binI .gtr t39 (.int .i64 50)) fun t40 =>
  BR t40 (
  R F.fettlelaw12_awake #[] M2 fun t48_1 M4 =>
  NTs [t48_1] ∧ Q t48_1 M4
  ) (
  OP (fad 3 t7) fun t43 =>
  OP (ld 1 false t43 M2) fun t44 =>
  OP (lenV t44) fun t45 =>
  OP (binI .gtr t45 (.int .i64 300)) fun t46 =>
  BR t46 (
  R F.fettlelaw12_awake #[] M2 fun t48_2 M5 =>
  NTs [t48_2] ∧ Q t48_2 M5
  ) (
  OP (ld 4 true t6 M2) fun t49 =>
  R F.reco_Lock #[t49] M2 fun t50 M6 =>
  TDj [0] [M2.n, M2.n] M2 M6 ∧
  OP (cvBS t50 M6) fun t51 =>
  OP (ld 4 true t6 M6) fun t52 =>
  R F.fettleref10_Lock #[t52] M6 fun t53 M7 =>
  TDj [3] [M2.n, M2.n, M6.n, M6.n, M6.n] M6 M7 ∧
  OP (cvBS t53 M7) fun t54 =>
  OP (binS .neq t51 t54) fun t55 =>
  BR t55 (
  NTs [(.bool false)] ∧ Q (.bool false) M7
  ) (
  OP (ld 4 true t7 M7) fun t57 =>
  R F.reco_Done #[t57] M7 fun t58 M8 =>
  TDj [8] [M2.n, M2.n, M6.n, M6.n, M6.n, M7.n, M7.n, M7.n, M7.n, M7.n] M7 M8 ∧
  OP (cvBS t58 M8) fun t59 =>
  OP (ld 4 true t7 M8) fun t60 =>
  R F.fettleref10_Done #[t60] M8 fun t61 M9 =>
  TDj [11] [M2.n, M2.n, M6.n, M6.n, M6.n, M7.n, M7.n, M7.n, M7.n, M7.n, M8.n, M8.n, M8.n] M8 M9 ∧
  OP (cvBS t61 M9) fun t62 =>
  OP (binS .neq t59 t62) fun t63 =>
  BR t63 (
  NTs [(.bool false)] ∧ Q (.bool false) M9
  ) (
  P_fettlelaw12_RecoTells_1 x2 x3 x4 x5 t6 t7 (.slice none 0 0) (.int .i64 0) M9 Q
  )
  )
  )
  )
  )
theorem T_fettlelaw12_RecoTells {x0 x1 x2 x3 x4 x5 : Value} {M : Store} {Q : Value → Store → Prop} (h : S_fettlelaw12_RecoTells x0 x1 x2 x3 x4 x5 M Q) : R F.fettlelaw12_RecoTells #[x0, x1, x2, x3, x4, x5] M Q := by
  refine runs_of (c := bodyOf Try.f16) Try.func16 rfl (by kernel_rfl) (by kernel_rfl) ?_
  unfold At
  exact rule (B := 1000) (N := 207) (ct := (.two .no (.two .no (.two .no (.two .no (.two (.two .no (.two (.here 1000) .no)) (.here 1001)))))))
    [⟨1002, fun a M => dfr a.defers (P_fettlelaw12_RecoTells_1 (a.get 2) (a.get 3) (a.get 4) (a.get 5) (a.get 6) (a.get 7) (a.get 13) (a.get 14) M Q), fun a M => At Try.prog Ex none Try.f16 [1, 1, 1, 1, 0, 1, 0] a M Q⟩,
    ⟨1003, fun _ _ => False, fun a M => At Try.prog Ex none Try.f16 [1, 1, 1, 1, 1] a M Q⟩,
    ⟨1, fun a M => kfin Try.prog Try.f16.results.toList Q 1 a M, fun a M => kfin Try.prog Try.f16.results.toList Q 1 a M⟩]
    [1000, 1001] [1] (by kernel_rfl) (by kernel_rfl) (by kernel_rfl) (by kernel_rfl) (by kernel_rfl)
    ⟨fun a M hn h => by obtain ⟨⟨n, f⟩, ds⟩ := a; have hn : n = 207 := hn; subst hn; obtain ⟨hd, h⟩ := dfr_iff h; have hd : ds = [] := hd; subst hd; exact h f rfl rfl rfl rfl rfl rfl rfl rfl,
    fun _ _ _ h => h.elim,
    fun _ _ _ h => h,
    trivial⟩
    (cast (by kernel_rfl) h)
def S_fettlelaw12_RecoTells_1 (x2 x3 x4 x5 x6 x7 x13 x14 : Value) (M : Store) (Q : Value → Store → Prop) : Prop :=
  OP (lenV x2) fun t67 =>
  OP (binI .lss x14 t67) fun t68 =>
  BR t68 (
  OP (binI .lss x14 (.int .i64 8)) fun t71 =>
  BR t71 (
  P_fettlelaw12_RecoTells_2 x2 x3 x4 x5 x6 x7 x13 x14 M Q
  ) (
  P_fettlelaw12_RecoTells_3 x3 x4 x5 x6 x7 x13 M Q
  )
  ) (
  P_fettlelaw12_RecoTells_3 x3 x4 x5 x6 x7 x13 M Q
  )
theorem T_fettlelaw12_RecoTells_1 {x2 x3 x4 x5 x6 x7 x13 x14 : Value} {M : Store} {Q : Value → Store → Prop} (h : S_fettlelaw12_RecoTells_1 x2 x3 x4 x5 x6 x7 x13 x14 M Q) : P_fettlelaw12_RecoTells_1 x2 x3 x4 x5 x6 x7 x13 x14 M Q := by
  intro f h2 h3 h4 h5 h6 h7 h13 h14; subst h2; subst h3; subst h4; subst h5; subst h6; subst h7; subst h13; subst h14
  unfold At
  refine cast (by kernel_rfl) (CW.loop (P := Try.prog) (E := Ex) (rd := none) (x := sub (bodyOf Try.f16) [1, 1, 1, 1, 0, 1, 0, 0]) (a := ⟨⟨207, f⟩, []⟩) (M := M) (K := kcont Try.prog Ex none (bodyOf Try.f16) [1, 1, 1, 1, 0, 1, 0] (kfin Try.prog Try.f16.results.toList Q)) ?_)
  exact rule (B := 1000) (N := 207) (ct := (.two .no (.here 1000)))
    [⟨1002, fun a M => dfr a.defers (P_fettlelaw12_RecoTells_2 (a.get 2) (a.get 3) (a.get 4) (a.get 5) (a.get 6) (a.get 7) (a.get 13) (a.get 14) M Q), fun a M => At Try.prog Ex none Try.f16 [1, 1, 1, 1, 0, 1, 0, 0, 1] a M Q⟩,
    ⟨2, fun a M => dfr a.defers (P_fettlelaw12_RecoTells_3 (a.get 3) (a.get 4) (a.get 5) (a.get 6) (a.get 7) (a.get 13) M Q), fun a M => At Try.prog Ex none Try.f16 [1, 1, 1, 1, 1] a M Q⟩]
    [1000] [2] (by kernel_rfl) (by kernel_rfl) (by kernel_rfl) (by kernel_rfl) (by kernel_rfl)
    ⟨fun a M hn h => by obtain ⟨⟨n, f⟩, ds⟩ := a; have hn : n = 207 := hn; subst hn; obtain ⟨hd, h⟩ := dfr_iff h; have hd : ds = [] := hd; subst hd; exact h f rfl rfl rfl rfl rfl rfl rfl rfl,
    fun a M hn h => by obtain ⟨⟨n, f⟩, ds⟩ := a; have hn : n = 207 := hn; subst hn; obtain ⟨hd, h⟩ := dfr_iff h; have hd : ds = [] := hd; subst hd; exact h f rfl rfl rfl rfl rfl rfl,
    trivial⟩
    (cast (by kernel_rfl) h)
def S_fettlelaw12_RecoTells_2 (x2 x3 x4 x5 x6 x7 x13 x14 : Value) (M : Store) (Q : Value → Store → Prop) : Prop :=
  OP (ixA 1 x2 x14) fun t78 =>
  OP (ld 1 false t78 M) fun t79 =>
  R F.fettlelaw12_Done #[t79] M fun t80 M1 =>
  R F.fettleref10_Done #[t80] M1 fun t81 M2 =>
  R F.fettleref1_Put #[x13, t81] M2 fun t82 M3 =>
  OP (ixA 1 x2 x14) fun t85 =>
  OP (ld 1 false t85 M3) fun t86 =>
  OP (binI .shr t86 (.int .u64 28)) fun t87 =>
  OP (binI .and t87 (.int .i64 3)) fun t88 =>
  OP (binI .eql t88 (.int .i64 3)) fun t89 =>
  BR t89 (
  OP (bldL (.int .u8 0) 1 2 [(0, (.int .u8 1)), (1, (.int .u8 2))]) fun c =>
  LT (.slice (some ⟨M3.n, 0, none⟩) 2 2) (M3.push (some (.inl (c, Ty.uint8, true)))) fun t91 M4 =>
  R F.fettleref1_Put #[t82, t91] M4 fun t92 M5 =>
  OP (binI .add x14 (.int .i64 1)) fun t74 =>
  P_fettlelaw12_RecoTells_1 x2 x3 x4 x5 x6 x7 t92 t74 M5 Q
  ) (
  OP (binI .add x14 (.int .i64 1)) fun t74_1 =>
  P_fettlelaw12_RecoTells_1 x2 x3 x4 x5 x6 x7 t82 t74_1 M3 Q
  )
theorem T_fettlelaw12_RecoTells_2 {x2 x3 x4 x5 x6 x7 x13 x14 : Value} {M : Store} {Q : Value → Store → Prop} (h : S_fettlelaw12_RecoTells_2 x2 x3 x4 x5 x6 x7 x13 x14 M Q) : P_fettlelaw12_RecoTells_2 x2 x3 x4 x5 x6 x7 x13 x14 M Q := by
  intro f h2 h3 h4 h5 h6 h7 h13 h14; subst h2; subst h3; subst h4; subst h5; subst h6; subst h7; subst h13; subst h14
  unfold At
  exact rule (B := 1000) (N := 207) (ct := .no)
    [⟨0, fun a M => dfr a.defers (P_fettlelaw12_RecoTells_1 (a.get 2) (a.get 3) (a.get 4) (a.get 5) (a.get 6) (a.get 7) (a.get 13) (a.get 14) M Q), fun a M => At Try.prog Ex none Try.f16 [1, 1, 1, 1, 0, 1, 0] a M Q⟩]
    [] [0] (by kernel_rfl) (by kernel_rfl) (by kernel_rfl) (by kernel_rfl) (by kernel_rfl)
    ⟨fun a M hn h => by obtain ⟨⟨n, f⟩, ds⟩ := a; have hn : n = 207 := hn; subst hn; obtain ⟨hd, h⟩ := dfr_iff h; have hd : ds = [] := hd; subst hd; exact h f rfl rfl rfl rfl rfl rfl rfl rfl,
    trivial⟩
    (cast (by kernel_rfl) h)
def S_fettlelaw12_RecoTells_3 (x3 x4 x5 x6 x7 x13 : Value) (M : Store) (Q : Value → Store → Prop) : Prop :=
  OP (ld 4 true x6 M) fun t94 =>
  R F.fettleref10_Lock #[t94] M fun t95 M1 =>
  TDj [1] [M.n, M.n, M.n] M M1 ∧
  OP (ld 4 true x7 M1) fun t96 =>
  R F.fettleref10_Done #[t96] M1 fun t97 M2 =>
  TDx [0, 0, 2, 0, 14, 0, 63, 127] [M.n, M.n, M.n, M1.n, M1.n] 4 M1 M2 ∧
  OP (bldL (.slice none 0 0) 1 4 [(0, x3), (1, t95), (2, t97), (3, x13)]) fun c =>
  LT (.slice (some ⟨M2.n, 0, none⟩) 4 4) (M2.push (some (.inl (c, Ty.sl_uint8, true)))) fun t99 M3 =>
  OP (slV 1 Ty.sl_uint8 t99 (some (.int .i64 1)) none M3) fun t101 =>
  OP (lenV t101) fun t102 =>
  P_fettlelaw12_RecoTells_4 x4 x5 t99 t101 t102 (.int .i64 0) M3 Q
theorem T_fettlelaw12_RecoTells_3 {x3 x4 x5 x6 x7 x13 : Value} {M : Store} {Q : Value → Store → Prop} (h : S_fettlelaw12_RecoTells_3 x3 x4 x5 x6 x7 x13 M Q) : P_fettlelaw12_RecoTells_3 x3 x4 x5 x6 x7 x13 M Q := by
  intro f h3 h4 h5 h6 h7 h13; subst h3; subst h4; subst h5; subst h6; subst h7; subst h13
  unfold At
  exact rule (B := 1000) (N := 207) (ct := (.two .no (.two (.two .no (.two (.here 1000) .no)) (.here 1001))))
    [⟨1002, fun a M => dfr a.defers (P_fettlelaw12_RecoTells_4 (a.get 4) (a.get 5) (a.get 15) (a.get 101) (a.get 102) (a.get 103) M Q), fun a M => At Try.prog Ex none Try.f16 [1, 1, 1, 1, 1, 1, 0, 1, 0] a M Q⟩,
    ⟨1003, fun _ _ => False, fun a M => At Try.prog Ex none Try.f16 [1, 1, 1, 1, 1, 1, 1] a M Q⟩]
    [1000, 1001] [] (by kernel_rfl) (by kernel_rfl) (by kernel_rfl) (by kernel_rfl) (by kernel_rfl)
    ⟨fun a M hn h => by obtain ⟨⟨n, f⟩, ds⟩ := a; have hn : n = 207 := hn; subst hn; obtain ⟨hd, h⟩ := dfr_iff h; have hd : ds = [] := hd; subst hd; exact h f rfl rfl rfl rfl rfl rfl,
    fun _ _ _ h => h.elim,
    trivial⟩
    (cast (by kernel_rfl) h)
def S_fettlelaw12_RecoTells_4 (x4 x5 x15 x101 x102 x103 : Value) (M : Store) (Q : Value → Store → Prop) : Prop :=
  OP (binI .lss x103 x102) fun t104 =>
  BR t104 (
  P_fettlelaw12_RecoTells_5 x4 x5 x15 x101 x102 x103 M Q
  ) (
  P_fettlelaw12_RecoTells_6 x15 M Q
  )
theorem T_fettlelaw12_RecoTells_4 {x4 x5 x15 x101 x102 x103 : Value} {M : Store} {Q : Value → Store → Prop} (h : S_fettlelaw12_RecoTells_4 x4 x5 x15 x101 x102 x103 M Q) : P_fettlelaw12_RecoTells_4 x4 x5 x15 x101 x102 x103 M Q := by
  intro f h4 h5 h15 h101 h102 h103; subst h4; subst h5; subst h15; subst h101; subst h102; subst h103
  unfold At
  refine cast (by kernel_rfl) (CW.loop (P := Try.prog) (E := Ex) (rd := none) (x := sub (bodyOf Try.f16) [1, 1, 1, 1, 1, 1, 0, 1, 0, 0]) (a := ⟨⟨207, f⟩, []⟩) (M := M) (K := kcont Try.prog Ex none (bodyOf Try.f16) [1, 1, 1, 1, 1, 1, 0, 1, 0] (kfin Try.prog Try.f16.results.toList Q)) ?_)
  exact rule (B := 1000) (N := 207) (ct := (.two .no (.two .no (.here 1000))))
    [⟨1002, fun a M => dfr a.defers (P_fettlelaw12_RecoTells_5 (a.get 4) (a.get 5) (a.get 15) (a.get 101) (a.get 102) (a.get 103) M Q), fun a M => At Try.prog Ex none Try.f16 [1, 1, 1, 1, 1, 1, 0, 1, 0, 0, 1, 1] a M Q⟩,
    ⟨4, fun a M => dfr a.defers (P_fettlelaw12_RecoTells_6 (a.get 15) M Q), fun a M => At Try.prog Ex none Try.f16 [1, 1, 1, 1, 1, 1, 1] a M Q⟩]
    [1000] [4] (by kernel_rfl) (by kernel_rfl) (by kernel_rfl) (by kernel_rfl) (by kernel_rfl)
    ⟨fun a M hn h => by obtain ⟨⟨n, f⟩, ds⟩ := a; have hn : n = 207 := hn; subst hn; obtain ⟨hd, h⟩ := dfr_iff h; have hd : ds = [] := hd; subst hd; exact h f rfl rfl rfl rfl rfl rfl,
    fun a M hn h => by obtain ⟨⟨n, f⟩, ds⟩ := a; have hn : n = 207 := hn; subst hn; obtain ⟨hd, h⟩ := dfr_iff h; have hd : ds = [] := hd; subst hd; exact h f rfl,
    trivial⟩
    (cast (by kernel_rfl) h)
def S_fettlelaw12_RecoTells_5 (x4 x5 x15 x101 x102 x103 : Value) (M : Store) (Q : Value → Store → Prop) : Prop :=
  OP (ixA 1 x101 x103) fun t105 =>
  OP (ld 1 false t105 M) fun t106 =>
  OP (lenV t106) fun t108 =>
  OP (binI .gtr t108 (.int .i64 0)) fun t109 =>
  BR t109 (
  OP (bldL (.int .u8 0) 1 0 []) fun c =>
  LT (.slice (some ⟨M.n, 0, none⟩) 0 0) (M.push (some (.inl (c, Ty.uint8, true)))) fun t110 M1 =>
  OP2 (appV 1 Ty.uint8 t110 t106 M1) fun t112 M2 =>
  OP (binI .and x4 (.int .i64 65535)) fun t115 =>
  OP (lenV t112) fun t117 =>
  OP (binI .rem t115 t117) fun t118 =>
  OP (ixA 1 t112 t118) fun t120 =>
  OP (st 1 t120 x5 M2) fun M3 =>
  OP (binI .and x4 (.int .i64 65535)) fun t125 =>
  OP (lenV t106) fun t127 =>
  OP (binI .rem t125 t127) fun t128 =>
  OP (slV 1 Ty.uint8 t106 none (some t128) M3) fun t129 =>
  OP (bldL (.int .u8 0) 1 0 []) fun c_1 =>
  LT (.slice (some ⟨M3.n, 0, none⟩) 0 0) (M3.push (some (.inl (c_1, Ty.uint8, true)))) fun t130 M4 =>
  OP2 (appV 1 Ty.uint8 t130 t106 M4) fun t132 M5 =>
  TDj [9, 10] [M3.n, M3.n, M3.n, M3.n, M3.n, M3.n, M3.n, M3.n, M3.n, M3.n, M4.n, M4.n] M4 M5 ∧
  OP (bldL (.int .u8 0) 1 1 [(0, x5)]) fun c_2 =>
  LT (.slice (some ⟨M5.n, 0, none⟩) 1 1) (M5.push (some (.inl (c_2, Ty.uint8, true)))) fun t134 M6 =>
  OP2 (appV 1 Ty.uint8 t132 t134 M6) fun t135 M7 =>
  TDj [9, 10, 11, 12, 13] [M3.n, M3.n, M3.n, M3.n, M3.n, M3.n, M3.n, M3.n, M3.n, M3.n, M4.n, M4.n, M5.n, M5.n, M6.n] M6 M7 ∧
  OP (bldL (.slice none 0 0) 1 3 [(0, t112), (1, t129), (2, t135)]) fun c_3 =>
  LT (.slice (some ⟨M7.n, 0, none⟩) 3 3) (M7.push (some (.inl (c_3, Ty.sl_uint8, true)))) fun t136 M8 =>
  OP2 (appV 1 Ty.sl_uint8 x15 t136 M8) fun t137 M9 =>
  TDx [0, 0, 0, 0, 8, 0, 32, 120, 252, 0, 0, 1536, 0, 4096, 15872, 32766, 65535, 131071] [M3.n, M3.n, M3.n, M3.n, M3.n, M3.n, M3.n, M3.n, M3.n, M3.n, M4.n, M4.n, M5.n, M5.n, M6.n, M7.n, M8.n] 16 M8 M9 ∧
  OP (binI .add x103 (.int .i64 1)) fun t138 =>
  P_fettlelaw12_RecoTells_4 x4 x5 t137 x101 x102 t138 M9 Q
  ) (
  OP (binI .add x103 (.int .i64 1)) fun t138_1 =>
  P_fettlelaw12_RecoTells_4 x4 x5 x15 x101 x102 t138_1 M Q
  )
theorem T_fettlelaw12_RecoTells_5 {x4 x5 x15 x101 x102 x103 : Value} {M : Store} {Q : Value → Store → Prop} (h : S_fettlelaw12_RecoTells_5 x4 x5 x15 x101 x102 x103 M Q) : P_fettlelaw12_RecoTells_5 x4 x5 x15 x101 x102 x103 M Q := by
  intro f h4 h5 h15 h101 h102 h103; subst h4; subst h5; subst h15; subst h101; subst h102; subst h103
  unfold At
  exact rule (B := 1000) (N := 207) (ct := .no)
    [⟨0, fun a M => dfr a.defers (P_fettlelaw12_RecoTells_4 (a.get 4) (a.get 5) (a.get 15) (a.get 101) (a.get 102) (a.get 103) M Q), fun a M => At Try.prog Ex none Try.f16 [1, 1, 1, 1, 1, 1, 0, 1, 0] a M Q⟩]
    [] [0] (by kernel_rfl) (by kernel_rfl) (by kernel_rfl) (by kernel_rfl) (by kernel_rfl)
    ⟨fun a M hn h => by obtain ⟨⟨n, f⟩, ds⟩ := a; have hn : n = 207 := hn; subst hn; obtain ⟨hd, h⟩ := dfr_iff h; have hd : ds = [] := hd; subst hd; exact h f rfl rfl rfl rfl rfl rfl,
    trivial⟩
    (cast (by kernel_rfl) h)
def S_fettlelaw12_RecoTells_6 (x15 : Value) (M : Store) (Q : Value → Store → Prop) : Prop :=
  OP (lenV x15) fun t140 =>
  P_fettlelaw12_RecoTells_7 x15 t140 (.int .i64 0) M Q
theorem T_fettlelaw12_RecoTells_6 {x15 : Value} {M : Store} {Q : Value → Store → Prop} (h : S_fettlelaw12_RecoTells_6 x15 M Q) : P_fettlelaw12_RecoTells_6 x15 M Q := by
  intro f h15; subst h15
  unfold At
  exact rule (B := 1000) (N := 207) (ct := (.two (.two .no (.two (.here 1000) .no)) (.here 1001)))
    [⟨1002, fun a M => dfr a.defers (P_fettlelaw12_RecoTells_7 (a.get 139) (a.get 140) (a.get 141) M Q), fun a M => At Try.prog Ex none Try.f16 [1, 1, 1, 1, 1, 1, 1, 0, 1, 0] a M Q⟩,
    ⟨1003, fun _ _ => False, fun a M => At Try.prog Ex none Try.f16 [1, 1, 1, 1, 1, 1, 1, 1] a M Q⟩]
    [1000, 1001] [] (by kernel_rfl) (by kernel_rfl) (by kernel_rfl) (by kernel_rfl) (by kernel_rfl)
    ⟨fun a M hn h => by obtain ⟨⟨n, f⟩, ds⟩ := a; have hn : n = 207 := hn; subst hn; obtain ⟨hd, h⟩ := dfr_iff h; have hd : ds = [] := hd; subst hd; exact h f rfl rfl rfl,
    fun _ _ _ h => h.elim,
    trivial⟩
    (cast (by kernel_rfl) h)
def S_fettlelaw12_RecoTells_7 (x139 x140 x141 : Value) (M : Store) (Q : Value → Store → Prop) : Prop :=
  OP (binI .lss x141 x140) fun t142 =>
  BR t142 (
  P_fettlelaw12_RecoTells_8 x139 x140 x141 M Q
  ) (
  P_fettlelaw12_RecoTells_9 M Q
  )
theorem T_fettlelaw12_RecoTells_7 {x139 x140 x141 : Value} {M : Store} {Q : Value → Store → Prop} (h : S_fettlelaw12_RecoTells_7 x139 x140 x141 M Q) : P_fettlelaw12_RecoTells_7 x139 x140 x141 M Q := by
  intro f h139 h140 h141; subst h139; subst h140; subst h141
  unfold At
  refine cast (by kernel_rfl) (CW.loop (P := Try.prog) (E := Ex) (rd := none) (x := sub (bodyOf Try.f16) [1, 1, 1, 1, 1, 1, 1, 0, 1, 0, 0]) (a := ⟨⟨207, f⟩, []⟩) (M := M) (K := kcont Try.prog Ex none (bodyOf Try.f16) [1, 1, 1, 1, 1, 1, 1, 0, 1, 0] (kfin Try.prog Try.f16.results.toList Q)) ?_)
  exact rule (B := 1000) (N := 207) (ct := (.two .no (.two .no (.here 1000))))
    [⟨1002, fun a M => dfr a.defers (P_fettlelaw12_RecoTells_8 (a.get 139) (a.get 140) (a.get 141) M Q), fun a M => At Try.prog Ex none Try.f16 [1, 1, 1, 1, 1, 1, 1, 0, 1, 0, 0, 1, 1] a M Q⟩,
    ⟨6, fun a M => dfr a.defers (P_fettlelaw12_RecoTells_9 M Q), fun a M => At Try.prog Ex none Try.f16 [1, 1, 1, 1, 1, 1, 1, 1] a M Q⟩]
    [1000] [6] (by kernel_rfl) (by kernel_rfl) (by kernel_rfl) (by kernel_rfl) (by kernel_rfl)
    ⟨fun a M hn h => by obtain ⟨⟨n, f⟩, ds⟩ := a; have hn : n = 207 := hn; subst hn; obtain ⟨hd, h⟩ := dfr_iff h; have hd : ds = [] := hd; subst hd; exact h f rfl rfl rfl,
    fun a M hn h => by obtain ⟨⟨n, f⟩, ds⟩ := a; have hn : n = 207 := hn; subst hn; obtain ⟨hd, h⟩ := dfr_iff h; have hd : ds = [] := hd; subst hd; exact h f,
    trivial⟩
    (cast (by kernel_rfl) h)
def S_fettlelaw12_RecoTells_8 (x139 x140 x141 : Value) (M : Store) (Q : Value → Store → Prop) : Prop :=
  OP (ixA 1 x139 x141) fun t143 =>
  OP (ld 1 false t143 M) fun t144 =>
  R F.reco_OpenLock #[t144] M fun t147 M1 =>
  OP (tup t147 0) fun t148 =>
  OP (tup t147 1) fun t149 =>
  LT (.pointer (some ⟨M1.n, 0, none⟩)) (M1.push (some (.inl ([(.int .i64 0), (.int .i64 0), (.int .i64 0), (.int .i64 0)], Ty.api_Lock, true)))) fun t21 M2 =>
  OP (st 4 t21 t148 M2) fun M3 =>
  R F.fettleref10_OpenLock #[t144] M3 fun t152 M4 =>
  OP (tup t152 0) fun t153 =>
  OP (tup t152 1) fun t154 =>
  LT (.pointer (some ⟨M4.n, 0, none⟩)) (M4.push (some (.inl ([(.int .i64 0), (.int .i64 0), (.int .i64 0), (.int .i64 0)], Ty.api_Lock, true)))) fun t23 M5 =>
  OP (st 4 t23 t153 M5) fun M6 =>
  R F.reco_OpenDone #[t144] M6 fun t157 M7 =>
  OP (tup t157 0) fun t158 =>
  OP (tup t157 1) fun t159 =>
  LT (.pointer (some ⟨M7.n, 0, none⟩)) (M7.push (some (.inl ([(.string ⟨#[]⟩), (.int .i64 0), (.int .i64 0), (.slice none 0 0)], Ty.api_Done, true)))) fun t25 M8 =>
  OP (st 4 t25 t158 M8) fun M9 =>
  R F.fettleref10_OpenDone #[t144] M9 fun t162 M10 =>
  OP (tup t162 0) fun t163 =>
  OP (tup t162 1) fun t164 =>
  LT (.pointer (some ⟨M10.n, 0, none⟩)) (M10.push (some (.inl ([(.string ⟨#[]⟩), (.int .i64 0), (.int .i64 0), (.slice none 0 0)], Ty.api_Done, true)))) fun t27 M11 =>
  OP (st 4 t27 t163 M11) fun M12 =>
  R F.reco_Trace #[t144] M12 fun t167 M13 =>
  OP (tup t167 0) fun t168 =>
  OP (tup t167 1) fun t169 =>
  R F.fettleref10_Trace #[t144] M13 fun t172 M14 =>
  OP (tup t172 0) fun t173 =>
  OP (tup t172 1) fun t174 =>
  OP (ld 4 true t21 M14) fun t175 =>
  OP (ld 4 true t23 M14) fun t176 =>
  OP (abin Try.prog false .neq Ty.api_Lock t175 t176) fun t177 =>
  BR t177 (
  NTs [(.bool false)] ∧ Q (.bool false) M14
  ) (
  OP (abin Try.prog false .neq Ty.bool t149 t154) fun t181 =>
  BR t181 (
  NTs [(.bool false)] ∧ Q (.bool false) M14
  ) (
  OP (ld 4 true t25 M14) fun t184 =>
  OP (ld 4 true t27 M14) fun t185 =>
  R F.fettleref10_SameDone #[t184, t185] M14 fun t186 M15 =>
  OP (aun .not t186) fun t187 =>
  BR t187 (
  NTs [(.bool false)] ∧ Q (.bool false) M15
  ) (
  OP (abin Try.prog false .neq Ty.bool t159 t164) fun t192 =>
  BR t192 (
  NTs [(.bool false)] ∧ Q (.bool false) M15
  ) (
  R F.fettleref10_SameDones #[t168, t173] M15 fun t197 M16 =>
  OP (aun .not t197) fun t198 =>
  BR t198 (
  NTs [(.bool false)] ∧ Q (.bool false) M16
  ) (
  OP (binI .neq t169 t174) fun t203 =>
  BR t203 (
  NTs [(.bool false)] ∧ Q (.bool false) M16
  ) (
  OP (binI .add x141 (.int .i64 1)) fun t205 =>
  P_fettlelaw12_RecoTells_7 x139 x140 t205 M16 Q
  )
  )
  )
  )
  )
  )
theorem T_fettlelaw12_RecoTells_8 {x139 x140 x141 : Value} {M : Store} {Q : Value → Store → Prop} (h : S_fettlelaw12_RecoTells_8 x139 x140 x141 M Q) : P_fettlelaw12_RecoTells_8 x139 x140 x141 M Q := by
  intro f h139 h140 h141; subst h139; subst h140; subst h141
  unfold At
  exact rule (B := 1000) (N := 207) (ct := .no)
    [⟨0, fun a M => dfr a.defers (P_fettlelaw12_RecoTells_7 (a.get 139) (a.get 140) (a.get 141) M Q), fun a M => At Try.prog Ex none Try.f16 [1, 1, 1, 1, 1, 1, 1, 0, 1, 0] a M Q⟩,
    ⟨1, fun a M => kfin Try.prog Try.f16.results.toList Q 1 a M, fun a M => kfin Try.prog Try.f16.results.toList Q 1 a M⟩]
    [] [0, 1] (by kernel_rfl) (by kernel_rfl) (by kernel_rfl) (by kernel_rfl) (by kernel_rfl)
    ⟨fun a M hn h => by obtain ⟨⟨n, f⟩, ds⟩ := a; have hn : n = 207 := hn; subst hn; obtain ⟨hd, h⟩ := dfr_iff h; have hd : ds = [] := hd; subst hd; exact h f rfl rfl rfl,
    fun _ _ _ h => h,
    trivial⟩
    (cast (by kernel_rfl) h)
def S_fettlelaw12_RecoTells_9 (M : Store) (Q : Value → Store → Prop) : Prop :=
  R F.fettlelaw12_awake #[] M fun t206 M1 =>
  NTs [t206] ∧ Q t206 M1
theorem T_fettlelaw12_RecoTells_9 {M : Store} {Q : Value → Store → Prop} (h : S_fettlelaw12_RecoTells_9 M Q) : P_fettlelaw12_RecoTells_9 M Q := by
  intro f 
  unfold At
  exact rule (B := 1000) (N := 207) (ct := .no)
    [⟨1, fun a M => kfin Try.prog Try.f16.results.toList Q 1 a M, fun a M => kfin Try.prog Try.f16.results.toList Q 1 a M⟩]
    [] [1] (by kernel_rfl) (by kernel_rfl) (by kernel_rfl) (by kernel_rfl) (by kernel_rfl)
    ⟨fun _ _ _ h => h,
    trivial⟩
    (cast (by kernel_rfl) h)
def P_fettlelaw12_RecoTrace_1 (x0 x1 x2 x7 x8 x9 x10 : Value) (M : Store) (Q : Value → Store → Prop) : Prop :=
  ∀ f : Nat → Value, f 0 = x0 → f 1 = x1 → f 2 = x2 → f 7 = x7 → f 8 = x8 → f 9 = x9 → f 10 = x10 → At Try.prog Ex none Try.f17 [1, 1, 1, 1, 0, 1, 0] ⟨⟨161, f⟩, []⟩ M Q
def P_fettlelaw12_RecoTrace_2 (x0 x1 x2 x7 x8 x9 x10 : Value) (M : Store) (Q : Value → Store → Prop) : Prop :=
  ∀ f : Nat → Value, f 0 = x0 → f 1 = x1 → f 2 = x2 → f 7 = x7 → f 8 = x8 → f 9 = x9 → f 10 = x10 → At Try.prog Ex none Try.f17 [1, 1, 1, 1, 0, 1, 0, 0, 1] ⟨⟨161, f⟩, []⟩ M Q
def P_fettlelaw12_RecoTrace_3 (x1 x2 x7 x8 x9 : Value) (M : Store) (Q : Value → Store → Prop) : Prop :=
  ∀ f : Nat → Value, f 1 = x1 → f 2 = x2 → f 7 = x7 → f 8 = x8 → f 9 = x9 → At Try.prog Ex none Try.f17 [1, 1, 1, 1, 1] ⟨⟨161, f⟩, []⟩ M Q
def P_fettlelaw12_RecoTrace_4 (x2 x7 x8 x9 x11 x12 : Value) (M : Store) (Q : Value → Store → Prop) : Prop :=
  ∀ f : Nat → Value, f 2 = x2 → f 7 = x7 → f 8 = x8 → f 9 = x9 → f 11 = x11 → f 12 = x12 → At Try.prog Ex none Try.f17 [1, 1, 1, 1, 1, 1, 1, 0, 0] ⟨⟨161, f⟩, []⟩ M Q
def P_fettlelaw12_RecoTrace_5 (x2 x7 x8 x9 x11 x12 : Value) (M : Store) (Q : Value → Store → Prop) : Prop :=
  ∀ f : Nat → Value, f 2 = x2 → f 7 = x7 → f 8 = x8 → f 9 = x9 → f 11 = x11 → f 12 = x12 → At Try.prog Ex none Try.f17 [1, 1, 1, 1, 1, 1, 1, 1] ⟨⟨161, f⟩, []⟩ M Q
def P_fettlelaw12_RecoTrace_6 (x2 x15 x16 x17 : Value) (M : Store) (Q : Value → Store → Prop) : Prop :=
  ∀ f : Nat → Value, f 2 = x2 → f 15 = x15 → f 16 = x16 → f 17 = x17 → At Try.prog Ex none Try.f17 [1, 1, 1, 1, 1, 1, 1, 1, 1, 1, 1, 1, 0, 1, 0] ⟨⟨161, f⟩, []⟩ M Q
def P_fettlelaw12_RecoTrace_7 (x2 x15 x16 x17 : Value) (M : Store) (Q : Value → Store → Prop) : Prop :=
  ∀ f : Nat → Value, f 2 = x2 → f 15 = x15 → f 16 = x16 → f 17 = x17 → At Try.prog Ex none Try.f17 [1, 1, 1, 1, 1, 1, 1, 1, 1, 1, 1, 1, 0, 1, 0, 0, 1] ⟨⟨161, f⟩, []⟩ M Q
def P_fettlelaw12_RecoTrace_8 (x15 x16 : Value) (M : Store) (Q : Value → Store → Prop) : Prop :=
  ∀ f : Nat → Value, f 15 = x15 → f 16 = x16 → At Try.prog Ex none Try.f17 [1, 1, 1, 1, 1, 1, 1, 1, 1, 1, 1, 1, 1] ⟨⟨161, f⟩, []⟩ M Q
def S_fettlelaw12_RecoTrace (x0 x1 x2 : Value) (M : Store) (Q : Value → Store → Prop) : Prop :=
  P_fettlelaw12_RecoTrace_1 x0 x1 x2 (.slice none 0 0) (.slice none 0 0) (.slice none 0 0) (.int .i64 0) M Q
theorem T_fettlelaw12_RecoTrace {x0 x1 x2 : Value} {M : Store} {Q : Value → Store → Prop} (h : S_fettlelaw12_RecoTrace x0 x1 x2 M Q) : R F.fettlelaw12_RecoTrace #[x0, x1, x2] M Q := by
  refine runs_of (c := bodyOf Try.f17) Try.func17 rfl (by kernel_rfl) (by kernel_rfl) ?_
  unfold At
  exact rule (B := 1000) (N := 161) (ct := (.two .no (.two .no (.two .no (.two .no (.two (.two .no (.two (.here 1000) .no)) (.here 1001)))))))
    [⟨1002, fun a M => dfr a.defers (P_fettlelaw12_RecoTrace_1 (a.get 0) (a.get 1) (a.get 2) (a.get 7) (a.get 8) (a.get 9) (a.get 10) M Q), fun a M => At Try.prog Ex none Try.f17 [1, 1, 1, 1, 0, 1, 0] a M Q⟩,
    ⟨1003, fun _ _ => False, fun a M => At Try.prog Ex none Try.f17 [1, 1, 1, 1, 1] a M Q⟩]
    [1000, 1001] [] (by kernel_rfl) (by kernel_rfl) (by kernel_rfl) (by kernel_rfl) (by kernel_rfl)
    ⟨fun a M hn h => by obtain ⟨⟨n, f⟩, ds⟩ := a; have hn : n = 161 := hn; subst hn; obtain ⟨hd, h⟩ := dfr_iff h; have hd : ds = [] := hd; subst hd; exact h f rfl rfl rfl rfl rfl rfl rfl,
    fun _ _ _ h => h.elim,
    trivial⟩
    (cast (by kernel_rfl) h)
def S_fettlelaw12_RecoTrace_1 (x0 x1 x2 x7 x8 x9 x10 : Value) (M : Store) (Q : Value → Store → Prop) : Prop :=
  OP (lenV x0) fun t20 =>
  OP (binI .lss x10 t20) fun t21 =>
  BR t21 (
  OP (binI .lss x10 (.int .i64 10)) fun t24 =>
  BR t24 (
  P_fettlelaw12_RecoTrace_2 x0 x1 x2 x7 x8 x9 x10 M Q
  ) (
  P_fettlelaw12_RecoTrace_3 x1 x2 x7 x8 x9 M Q
  )
  ) (
  P_fettlelaw12_RecoTrace_3 x1 x2 x7 x8 x9 M Q
  )
theorem T_fettlelaw12_RecoTrace_1 {x0 x1 x2 x7 x8 x9 x10 : Value} {M : Store} {Q : Value → Store → Prop} (h : S_fettlelaw12_RecoTrace_1 x0 x1 x2 x7 x8 x9 x10 M Q) : P_fettlelaw12_RecoTrace_1 x0 x1 x2 x7 x8 x9 x10 M Q := by
  intro f h0 h1 h2 h7 h8 h9 h10; subst h0; subst h1; subst h2; subst h7; subst h8; subst h9; subst h10
  unfold At
  refine cast (by kernel_rfl) (CW.loop (P := Try.prog) (E := Ex) (rd := none) (x := sub (bodyOf Try.f17) [1, 1, 1, 1, 0, 1, 0, 0]) (a := ⟨⟨161, f⟩, []⟩) (M := M) (K := kcont Try.prog Ex none (bodyOf Try.f17) [1, 1, 1, 1, 0, 1, 0] (kfin Try.prog Try.f17.results.toList Q)) ?_)
  exact rule (B := 1000) (N := 161) (ct := (.two .no (.here 1000)))
    [⟨1002, fun a M => dfr a.defers (P_fettlelaw12_RecoTrace_2 (a.get 0) (a.get 1) (a.get 2) (a.get 7) (a.get 8) (a.get 9) (a.get 10) M Q), fun a M => At Try.prog Ex none Try.f17 [1, 1, 1, 1, 0, 1, 0, 0, 1] a M Q⟩,
    ⟨2, fun a M => dfr a.defers (P_fettlelaw12_RecoTrace_3 (a.get 1) (a.get 2) (a.get 7) (a.get 8) (a.get 9) M Q), fun a M => At Try.prog Ex none Try.f17 [1, 1, 1, 1, 1] a M Q⟩]
    [1000] [2] (by kernel_rfl) (by kernel_rfl) (by kernel_rfl) (by kernel_rfl) (by kernel_rfl)
    ⟨fun a M hn h => by obtain ⟨⟨n, f⟩, ds⟩ := a; have hn : n = 161 := hn; subst hn; obtain ⟨hd, h⟩ := dfr_iff h; have hd : ds = [] := hd; subst hd; exact h f rfl rfl rfl rfl rfl rfl rfl,
    fun a M hn h => by obtain ⟨⟨n, f⟩, ds⟩ := a; have hn : n = 161 := hn; subst hn; obtain ⟨hd, h⟩ := dfr_iff h; have hd : ds = [] := hd; subst hd; exact h f rfl rfl rfl rfl rfl,
    trivial⟩
    (cast (by kernel_rfl) h)
def S_fettlelaw12_RecoTrace_2 (x0 x1 x2 x7 x8 x9 x10 : Value) (M : Store) (Q : Value → Store → Prop) : Prop :=
  OP (ixA 1 x0 x10) fun t31 =>
  OP (ld 1 false t31 M) fun t32 =>
  R F.fettlelaw12_Done #[t32] M fun t33 M1 =>
  R F.reco_Done #[t33] M1 fun t34 M2 =>
  R F.fettleref1_Put #[x7, t34] M2 fun t35 M3 =>
  OP (ixA 1 x0 x10) fun t39 =>
  OP (ld 1 false t39 M3) fun t40 =>
  R F.fettlelaw12_Done #[t40] M3 fun t41 M4 =>
  OP (bldL (.agg #[(.string ⟨#[]⟩), (.int .i64 0), (.int .i64 0), (.slice none 0 0)]) 4 1 [(0, t41)]) fun c =>
  LT (.slice (some ⟨M4.n, 0, none⟩) 1 1) (M4.push (some (.inl (c, Ty.api_Done, true)))) fun t42 M5 =>
  OP2 (appV 4 Ty.api_Done x8 t42 M5) fun t43 M6 =>
  OP (lenV t35) fun t46 =>
  OP (bldL (.int .i64 0) 1 1 [(0, t46)]) fun c_1 =>
  LT (.slice (some ⟨M6.n, 0, none⟩) 1 1) (M6.push (some (.inl (c_1, Ty.int, true)))) fun t47 M7 =>
  OP2 (appV 1 Ty.int x9 t47 M7) fun t48 M8 =>
  OP (binI .add x10 (.int .i64 1)) fun t27 =>
  P_fettlelaw12_RecoTrace_1 x0 x1 x2 t35 t43 t48 t27 M8 Q
theorem T_fettlelaw12_RecoTrace_2 {x0 x1 x2 x7 x8 x9 x10 : Value} {M : Store} {Q : Value → Store → Prop} (h : S_fettlelaw12_RecoTrace_2 x0 x1 x2 x7 x8 x9 x10 M Q) : P_fettlelaw12_RecoTrace_2 x0 x1 x2 x7 x8 x9 x10 M Q := by
  intro f h0 h1 h2 h7 h8 h9 h10; subst h0; subst h1; subst h2; subst h7; subst h8; subst h9; subst h10
  unfold At
  exact rule (B := 1000) (N := 161) (ct := .no)
    [⟨0, fun a M => dfr a.defers (P_fettlelaw12_RecoTrace_1 (a.get 0) (a.get 1) (a.get 2) (a.get 7) (a.get 8) (a.get 9) (a.get 10) M Q), fun a M => At Try.prog Ex none Try.f17 [1, 1, 1, 1, 0, 1, 0] a M Q⟩]
    [] [0] (by kernel_rfl) (by kernel_rfl) (by kernel_rfl) (by kernel_rfl) (by kernel_rfl)
    ⟨fun a M hn h => by obtain ⟨⟨n, f⟩, ds⟩ := a; have hn : n = 161 := hn; subst hn; obtain ⟨hd, h⟩ := dfr_iff h; have hd : ds = [] := hd; subst hd; exact h f rfl rfl rfl rfl rfl rfl rfl,
    trivial⟩
    (cast (by kernel_rfl) h)
def S_fettlelaw12_RecoTrace_3 (x1 x2 x7 x8 x9 : Value) (M : Store) (Q : Value → Store → Prop) : Prop :=
  OP (binI .and x1 (.int .i64 65535)) fun t50 =>
  OP (lenV x7) fun t52 =>
  OP (binI .add t52 (.int .i64 1)) fun t53 =>
  OP (binI .rem t50 t53) fun t54 =>
  P_fettlelaw12_RecoTrace_4 x2 x7 x8 x9 t54 (.int .i64 0) M Q
theorem T_fettlelaw12_RecoTrace_3 {x1 x2 x7 x8 x9 : Value} {M : Store} {Q : Value → Store → Prop} (h : S_fettlelaw12_RecoTrace_3 x1 x2 x7 x8 x9 M Q) : P_fettlelaw12_RecoTrace_3 x1 x2 x7 x8 x9 M Q := by
  intro f h1 h2 h7 h8 h9; subst h1; subst h2; subst h7; subst h8; subst h9
  unfold At
  exact rule (B := 1000) (N := 161) (ct := (.two .no (.two .no (.two (.two (.here 1000) .no) (.here 1001)))))
    [⟨1002, fun a M => dfr a.defers (P_fettlelaw12_RecoTrace_4 (a.get 2) (a.get 7) (a.get 8) (a.get 9) (a.get 11) (a.get 12) M Q), fun a M => At Try.prog Ex none Try.f17 [1, 1, 1, 1, 1, 1, 1, 0, 0] a M Q⟩,
    ⟨1003, fun _ _ => False, fun a M => At Try.prog Ex none Try.f17 [1, 1, 1, 1, 1, 1, 1, 1] a M Q⟩]
    [1000, 1001] [] (by kernel_rfl) (by kernel_rfl) (by kernel_rfl) (by kernel_rfl) (by kernel_rfl)
    ⟨fun a M hn h => by obtain ⟨⟨n, f⟩, ds⟩ := a; have hn : n = 161 := hn; subst hn; obtain ⟨hd, h⟩ := dfr_iff h; have hd : ds = [] := hd; subst hd; exact h f rfl rfl rfl rfl rfl rfl,
    fun _ _ _ h => h.elim,
    trivial⟩
    (cast (by kernel_rfl) h)
def S_fettlelaw12_RecoTrace_4 (x2 x7 x8 x9 x11 x12 : Value) (M : Store) (Q : Value → Store → Prop) : Prop :=
  OP (lenV x9) fun t57 =>
  OP (binI .lss x12 t57) fun t58 =>
  BR t58 (
  OP (ixA 1 x9 x12) fun t62 =>
  OP (ld 1 false t62 M) fun t63 =>
  OP (binI .leq t63 x11) fun t65 =>
  BR t65 (
  OP (binI .add x12 (.int .i64 1)) fun t68 =>
  P_fettlelaw12_RecoTrace_4 x2 x7 x8 x9 x11 t68 M Q
  ) (
  P_fettlelaw12_RecoTrace_5 x2 x7 x8 x9 x11 x12 M Q
  )
  ) (
  P_fettlelaw12_RecoTrace_5 x2 x7 x8 x9 x11 x12 M Q
  )
theorem T_fettlelaw12_RecoTrace_4 {x2 x7 x8 x9 x11 x12 : Value} {M : Store} {Q : Value → Store → Prop} (h : S_fettlelaw12_RecoTrace_4 x2 x7 x8 x9 x11 x12 M Q) : P_fettlelaw12_RecoTrace_4 x2 x7 x8 x9 x11 x12 M Q := by
  intro f h2 h7 h8 h9 h11 h12; subst h2; subst h7; subst h8; subst h9; subst h11; subst h12
  unfold At
  refine cast (by kernel_rfl) (CW.loop (P := Try.prog) (E := Ex) (rd := none) (x := sub (bodyOf Try.f17) [1, 1, 1, 1, 1, 1, 1, 0, 0, 0]) (a := ⟨⟨161, f⟩, []⟩) (M := M) (K := kcont Try.prog Ex none (bodyOf Try.f17) [1, 1, 1, 1, 1, 1, 1, 0, 0] (kfin Try.prog Try.f17.results.toList Q)) ?_)
  exact rule (B := 1000) (N := 161) (ct := .no)
    [⟨0, fun a M => dfr a.defers (P_fettlelaw12_RecoTrace_4 (a.get 2) (a.get 7) (a.get 8) (a.get 9) (a.get 11) (a.get 12) M Q), fun a M => At Try.prog Ex none Try.f17 [1, 1, 1, 1, 1, 1, 1, 0, 0] a M Q⟩,
    ⟨4, fun a M => dfr a.defers (P_fettlelaw12_RecoTrace_5 (a.get 2) (a.get 7) (a.get 8) (a.get 9) (a.get 11) (a.get 12) M Q), fun a M => At Try.prog Ex none Try.f17 [1, 1, 1, 1, 1, 1, 1, 1] a M Q⟩]
    [] [0, 4] (by kernel_rfl) (by kernel_rfl) (by kernel_rfl) (by kernel_rfl) (by kernel_rfl)
    ⟨fun a M hn h => by obtain ⟨⟨n, f⟩, ds⟩ := a; have hn : n = 161 := hn; subst hn; obtain ⟨hd, h⟩ := dfr_iff h; have hd : ds = [] := hd; subst hd; exact h f rfl rfl rfl rfl rfl rfl,
    fun a M hn h => by obtain ⟨⟨n, f⟩, ds⟩ := a; have hn : n = 161 := hn; subst hn; obtain ⟨hd, h⟩ := dfr_iff h; have hd : ds = [] := hd; subst hd; exact h f rfl rfl rfl rfl rfl rfl,
    trivial⟩
    (cast (by kernel_rfl) h)
def S_fettlelaw12_RecoTrace_5 (x2 x7 x8 x9 x11 x12 : Value) (M : Store) (Q : Value → Store → Prop) : Prop :=
  OP (slV 1 Ty.uint8 x7 none (some x11) M) fun t72 =>
  R F.reco_Trace #[t72] M fun t73 M1 =>
  OP (tup t73 0) fun t74 =>
  OP (tup t73 1) fun t75 =>
  OP (slV 4 Ty.api_Done x8 none (some x12) M1) fun t79 =>
  R F.fettleref10_SameDones #[t74, t79] M1 fun t80 M2 =>
  OP (aun .not t80) fun t81 =>
  BR t81 (
  NTs [(.bool false)] ∧ Q (.bool false) M2
  ) (
  OP (binI .gtr t75 x11) fun t85 =>
  BR t85 (
  NTs [(.bool false)] ∧ Q (.bool false) M2
  ) (
  OP (binI .gtr x12 (.int .i64 0)) fun t89 =>
  BR3 t89 (
  OP (binI .sub x12 (.int .i64 1)) fun t94 =>
  OP (ixA 1 x9 t94) fun t95 =>
  OP (ld 1 false t95 M2) fun t96 =>
  OP (binI .neq t75 t96) fun t97 =>
  BR t97 (
  NTs [(.bool false)] ∧ Q (.bool false) M2
  ) (
  OP (binI .eql x12 (.int .i64 0)) fun t102 =>
  BR3 t102 (
  OP (binI .neq t75 (.int .i64 0)) fun t105 =>
  BR t105 (
  NTs [(.bool false)] ∧ Q (.bool false) M2
  ) (
  OP (bldL (.int .u8 0) 1 0 []) fun c =>
  LT (.slice (some ⟨M2.n, 0, none⟩) 0 0) (M2.push (some (.inl (c, Ty.uint8, true)))) fun t108 M3 =>
  OP (slV 1 Ty.uint8 x7 none (some t75) M3) fun t111 =>
  OP2 (appV 1 Ty.uint8 t108 t111 M3) fun t112 M4 =>
  OP (bldL (.agg #[(.string ⟨#[]⟩), (.int .i64 0), (.int .i64 0), (.slice none 0 0)]) 4 0 []) fun c_1 =>
  LT (.slice (some ⟨M4.n, 0, none⟩) 0 0) (M4.push (some (.inl (c_1, Ty.api_Done, true)))) fun t113 M5 =>
  OP (slV 4 Ty.api_Done x8 none (some x12) M5) fun t116 =>
  OP2 (appV 4 Ty.api_Done t113 t116 M5) fun t117 M6 =>
  P_fettlelaw12_RecoTrace_6 x2 t112 t117 (.int .i64 0) M6 Q
  )
  ) (
  OP (bldL (.int .u8 0) 1 0 []) fun c_2 =>
  LT (.slice (some ⟨M2.n, 0, none⟩) 0 0) (M2.push (some (.inl (c_2, Ty.uint8, true)))) fun t108_1 M7 =>
  OP (slV 1 Ty.uint8 x7 none (some t75) M7) fun t111_1 =>
  OP2 (appV 1 Ty.uint8 t108_1 t111_1 M7) fun t112_1 M8 =>
  OP (bldL (.agg #[(.string ⟨#[]⟩), (.int .i64 0), (.int .i64 0), (.slice none 0 0)]) 4 0 []) fun c_3 =>
  LT (.slice (some ⟨M8.n, 0, none⟩) 0 0) (M8.push (some (.inl (c_3, Ty.api_Done, true)))) fun t113_1 M9 =>
  OP (slV 4 Ty.api_Done x8 none (some x12) M9) fun t116_1 =>
  OP2 (appV 4 Ty.api_Done t113_1 t116_1 M9) fun t117_1 M10 =>
  P_fettlelaw12_RecoTrace_6 x2 t112_1 t117_1 (.int .i64 0) M10 Q
  ) (
  BR t102 (
  BR undef (
  NTs [(.bool false)] ∧ Q (.bool false) M2
  ) (
  OP (bldL (.int .u8 0) 1 0 []) fun c_4 =>
  LT (.slice (some ⟨M2.n, 0, none⟩) 0 0) (M2.push (some (.inl (c_4, Ty.uint8, true)))) fun t108_2 M11 =>
  OP (slV 1 Ty.uint8 x7 none (some t75) M11) fun t111_2 =>
  OP2 (appV 1 Ty.uint8 t108_2 t111_2 M11) fun t112_2 M12 =>
  OP (bldL (.agg #[(.string ⟨#[]⟩), (.int .i64 0), (.int .i64 0), (.slice none 0 0)]) 4 0 []) fun c_5 =>
  LT (.slice (some ⟨M12.n, 0, none⟩) 0 0) (M12.push (some (.inl (c_5, Ty.api_Done, true)))) fun t113_2 M13 =>
  OP (slV 4 Ty.api_Done x8 none (some x12) M13) fun t116_2 =>
  OP2 (appV 4 Ty.api_Done t113_2 t116_2 M13) fun t117_2 M14 =>
  P_fettlelaw12_RecoTrace_6 x2 t112_2 t117_2 (.int .i64 0) M14 Q
  )
  ) (
  OP (bldL (.int .u8 0) 1 0 []) fun c_6 =>
  LT (.slice (some ⟨M2.n, 0, none⟩) 0 0) (M2.push (some (.inl (c_6, Ty.uint8, true)))) fun t108_3 M15 =>
  OP (slV 1 Ty.uint8 x7 none (some t75) M15) fun t111_3 =>
  OP2 (appV 1 Ty.uint8 t108_3 t111_3 M15) fun t112_3 M16 =>
  OP (bldL (.agg #[(.string ⟨#[]⟩), (.int .i64 0), (.int .i64 0), (.slice none 0 0)]) 4 0 []) fun c_7 =>
  LT (.slice (some ⟨M16.n, 0, none⟩) 0 0) (M16.push (some (.inl (c_7, Ty.api_Done, true)))) fun t113_3 M17 =>
  OP (slV 4 Ty.api_Done x8 none (some x12) M17) fun t116_3 =>
  OP2 (appV 4 Ty.api_Done t113_3 t116_3 M17) fun t117_3 M18 =>
  P_fettlelaw12_RecoTrace_6 x2 t112_3 t117_3 (.int .i64 0) M18 Q
  )
  )
  )
  ) (
  OP (binI .eql x12 (.int .i64 0)) fun t102_1 =>
  BR3 t102_1 (
  OP (binI .neq t75 (.int .i64 0)) fun t105_1 =>
  BR t105_1 (
  NTs [(.bool false)] ∧ Q (.bool false) M2
  ) (
  OP (bldL (.int .u8 0) 1 0 []) fun c_8 =>
  LT (.slice (some ⟨M2.n, 0, none⟩) 0 0) (M2.push (some (.inl (c_8, Ty.uint8, true)))) fun t108_4 M19 =>
  OP (slV 1 Ty.uint8 x7 none (some t75) M19) fun t111_4 =>
  OP2 (appV 1 Ty.uint8 t108_4 t111_4 M19) fun t112_4 M20 =>
  OP (bldL (.agg #[(.string ⟨#[]⟩), (.int .i64 0), (.int .i64 0), (.slice none 0 0)]) 4 0 []) fun c_9 =>
  LT (.slice (some ⟨M20.n, 0, none⟩) 0 0) (M20.push (some (.inl (c_9, Ty.api_Done, true)))) fun t113_4 M21 =>
  OP (slV 4 Ty.api_Done x8 none (some x12) M21) fun t116_4 =>
  OP2 (appV 4 Ty.api_Done t113_4 t116_4 M21) fun t117_4 M22 =>
  P_fettlelaw12_RecoTrace_6 x2 t112_4 t117_4 (.int .i64 0) M22 Q
  )
  ) (
  OP (bldL (.int .u8 0) 1 0 []) fun c_10 =>
  LT (.slice (some ⟨M2.n, 0, none⟩) 0 0) (M2.push (some (.inl (c_10, Ty.uint8, true)))) fun t108_5 M23 =>
  OP (slV 1 Ty.uint8 x7 none (some t75) M23) fun t111_5 =>
  OP2 (appV 1 Ty.uint8 t108_5 t111_5 M23) fun t112_5 M24 =>
  OP (bldL (.agg #[(.string ⟨#[]⟩), (.int .i64 0), (.int .i64 0), (.slice none 0 0)]) 4 0 []) fun c_11 =>
  LT (.slice (some ⟨M24.n, 0, none⟩) 0 0) (M24.push (some (.inl (c_11, Ty.api_Done, true)))) fun t113_5 M25 =>
  OP (slV 4 Ty.api_Done x8 none (some x12) M25) fun t116_5 =>
  OP2 (appV 4 Ty.api_Done t113_5 t116_5 M25) fun t117_5 M26 =>
  P_fettlelaw12_RecoTrace_6 x2 t112_5 t117_5 (.int .i64 0) M26 Q
  ) (
  BR t102_1 (
  BR undef (
  NTs [(.bool false)] ∧ Q (.bool false) M2
  ) (
  OP (bldL (.int .u8 0) 1 0 []) fun c_12 =>
  LT (.slice (some ⟨M2.n, 0, none⟩) 0 0) (M2.push (some (.inl (c_12, Ty.uint8, true)))) fun t108_6 M27 =>
  OP (slV 1 Ty.uint8 x7 none (some t75) M27) fun t111_6 =>
  OP2 (appV 1 Ty.uint8 t108_6 t111_6 M27) fun t112_6 M28 =>
  OP (bldL (.agg #[(.string ⟨#[]⟩), (.int .i64 0), (.int .i64 0), (.slice none 0 0)]) 4 0 []) fun c_13 =>
  LT (.slice (some ⟨M28.n, 0, none⟩) 0 0) (M28.push (some (.inl (c_13, Ty.api_Done, true)))) fun t113_6 M29 =>
  OP (slV 4 Ty.api_Done x8 none (some x12) M29) fun t116_6 =>
  OP2 (appV 4 Ty.api_Done t113_6 t116_6 M29) fun t117_6 M30 =>
  P_fettlelaw12_RecoTrace_6 x2 t112_6 t117_6 (.int .i64 0) M30 Q
  )
  ) (
  OP (bldL (.int .u8 0) 1 0 []) fun c_14 =>
  LT (.slice (some ⟨M2.n, 0, none⟩) 0 0) (M2.push (some (.inl (c_14, Ty.uint8, true)))) fun t108_7 M31 =>
  OP (slV 1 Ty.uint8 x7 none (some t75) M31) fun t111_7 =>
  OP2 (appV 1 Ty.uint8 t108_7 t111_7 M31) fun t112_7 M32 =>
  OP (bldL (.agg #[(.string ⟨#[]⟩), (.int .i64 0), (.int .i64 0), (.slice none 0 0)]) 4 0 []) fun c_15 =>
  LT (.slice (some ⟨M32.n, 0, none⟩) 0 0) (M32.push (some (.inl (c_15, Ty.api_Done, true)))) fun t113_7 M33 =>
  OP (slV 4 Ty.api_Done x8 none (some x12) M33) fun t116_7 =>
  OP2 (appV 4 Ty.api_Done t113_7 t116_7 M33) fun t117_7 M34 =>
  P_fettlelaw12_RecoTrace_6 x2 t112_7 t117_7 (.int .i64 0) M34 Q
  )
  )
  ) (
  BR t89 (
  BR undef (
  NTs [(.bool false)] ∧ Q (.bool false) M2
  ) (
  OP (binI .eql x12 (.int .i64 0)) fun t102_2 =>
  BR3 t102_2 (
  OP (binI .neq t75 (.int .i64 0)) fun t105_2 =>
  BR t105_2 (
  NTs [(.bool false)] ∧ Q (.bool false) M2
  ) (
  OP (bldL (.int .u8 0) 1 0 []) fun c_16 =>
  LT (.slice (some ⟨M2.n, 0, none⟩) 0 0) (M2.push (some (.inl (c_16, Ty.uint8, true)))) fun t108_8 M35 =>
  OP (slV 1 Ty.uint8 x7 none (some t75) M35) fun t111_8 =>
  OP2 (appV 1 Ty.uint8 t108_8 t111_8 M35) fun t112_8 M36 =>
  OP (bldL (.agg #[(.string ⟨#[]⟩), (.int .i64 0), (.int .i64 0), (.slice none 0 0)]) 4 0 []) fun c_17 =>
  LT (.slice (some ⟨M36.n, 0, none⟩) 0 0) (M36.push (some (.inl (c_17, Ty.api_Done, true)))) fun t113_8 M37 =>
  OP (slV 4 Ty.api_Done x8 none (some x12) M37) fun t116_8 =>
  OP2 (appV 4 Ty.api_Done t113_8 t116_8 M37) fun t117_8 M38 =>
  P_fettlelaw12_RecoTrace_6 x2 t112_8 t117_8 (.int .i64 0) M38 Q
  )
  ) (
  OP (bldL (.int .u8 0) 1 0 []) fun c_18 =>
  LT (.slice (some ⟨M2.n, 0, none⟩) 0 0) (M2.push (some (.inl (c_18, Ty.uint8, true)))) fun t108_9 M39 =>
  OP (slV 1 Ty.uint8 x7 none (some t75) M39) fun t111_9 =>
  OP2 (appV 1 Ty.uint8 t108_9 t111_9 M39) fun t112_9 M40 =>
  OP (bldL (.agg #[(.string ⟨#[]⟩), (.int .i64 0), (.int .i64 0), (.slice none 0 0)]) 4 0 []) fun c_19 =>
  LT (.slice (some ⟨M40.n, 0, none⟩) 0 0) (M40.push (some (.inl (c_19, Ty.api_Done, true)))) fun t113_9 M41 =>
  OP (slV 4 Ty.api_Done x8 none (some x12) M41) fun t116_9 =>
  OP2 (appV 4 Ty.api_Done t113_9 t116_9 M41) fun t117_9 M42 =>
  P_fettlelaw12_RecoTrace_6 x2 t112_9 t117_9 (.int .i64 0) M42 Q
  ) (
  BR t102_2 (
  BR undef (
  NTs [(.bool false)] ∧ Q (.bool false) M2
  ) (
  OP (bldL (.int .u8 0) 1 0 []) fun c_20 =>
  LT (.slice (some ⟨M2.n, 0, none⟩) 0 0) (M2.push (some (.inl (c_20, Ty.uint8, true)))) fun t108_10 M43 =>
  OP (slV 1 Ty.uint8 x7 none (some t75) M43) fun t111_10 =>
  OP2 (appV 1 Ty.uint8 t108_10 t111_10 M43) fun t112_10 M44 =>
  OP (bldL (.agg #[(.string ⟨#[]⟩), (.int .i64 0), (.int .i64 0), (.slice none 0 0)]) 4 0 []) fun c_21 =>
  LT (.slice (some ⟨M44.n, 0, none⟩) 0 0) (M44.push (some (.inl (c_21, Ty.api_Done, true)))) fun t113_10 M45 =>
  OP (slV 4 Ty.api_Done x8 none (some x12) M45) fun t116_10 =>
  OP2 (appV 4 Ty.api_Done t113_10 t116_10 M45) fun t117_10 M46 =>
  P_fettlelaw12_RecoTrace_6 x2 t112_10 t117_10 (.int .i64 0) M46 Q
  )
  ) (
  OP (bldL (.int .u8 0) 1 0 []) fun c_22 =>
  LT (.slice (some ⟨M2.n, 0, none⟩) 0 0) (M2.push (some (.inl (c_22, Ty.uint8, true)))) fun t108_11 M47 =>
  OP (slV 1 Ty.uint8 x7 none (some t75) M47) fun t111_11 =>
  OP2 (appV 1 Ty.uint8 t108_11 t111_11 M47) fun t112_11 M48 =>
  OP (bldL (.agg #[(.string ⟨#[]⟩), (.int .i64 0), (.int .i64 0), (.slice none 0 0)]) 4 0 []) fun c_23 =>
  LT (.slice (some ⟨M48.n, 0, none⟩) 0 0) (M48.push (some (.inl (c_23, Ty.api_Done, true)))) fun t113_11 M49 =>
  OP (slV 4 Ty.api_Done x8 none (some x12) M49) fun t116_11 =>
  OP2 (appV 4 Ty.api_Done t113_11 t116_11 M49) fun t117_11 M50 =>
  P_fettlelaw12_RecoTrace_6 x2 t112_11 t117_11 (.int .i64 0) M50 Q
  )
  )
  )
  ) (
  OP (binI .eql x12 (.int .i64 0)) fun t102_3 =>
  BR3 t102_3 (
  OP (binI .neq t75 (.int .i64 0)) fun t105_3 =>
  BR t105_3 (
  NTs [(.bool false)] ∧ Q (.bool false) M2
  ) (
  OP (bldL (.int .u8 0) 1 0 []) fun c_24 =>
  LT (.slice (some ⟨M2.n, 0, none⟩) 0 0) (M2.push (some (.inl (c_24, Ty.uint8, true)))) fun t108_12 M51 =>
  OP (slV 1 Ty.uint8 x7 none (some t75) M51) fun t111_12 =>
  OP2 (appV 1 Ty.uint8 t108_12 t111_12 M51) fun t112_12 M52 =>
  OP (bldL (.agg #[(.string ⟨#[]⟩), (.int .i64 0), (.int .i64 0), (.slice none 0 0)]) 4 0 []) fun c_25 =>
  LT (.slice (some ⟨M52.n, 0, none⟩) 0 0) (M52.push (some (.inl (c_25, Ty.api_Done, true)))) fun t113_12 M53 =>
  OP (slV 4 Ty.api_Done x8 none (some x12) M53) fun t116_12 =>
  OP2 (appV 4 Ty.api_Done t113_12 t116_12 M53) fun t117_12 M54 =>
  P_fettlelaw12_RecoTrace_6 x2 t112_12 t117_12 (.int .i64 0) M54 Q
  )
  ) (
  OP (bldL (.int .u8 0) 1 0 []) fun c_26 =>
  LT (.slice (some ⟨M2.n, 0, none⟩) 0 0) (M2.push (some (.inl (c_26, Ty.uint8, true)))) fun t108_13 M55 =>
  OP (slV 1 Ty.uint8 x7 none (some t75) M55) fun t111_13 =>
  OP2 (appV 1 Ty.uint8 t108_13 t111_13 M55) fun t112_13 M56 =>
  OP (bldL (.agg #[(.string ⟨#[]⟩), (.int .i64 0), (.int .i64 0), (.slice none 0 0)]) 4 0 []) fun c_27 =>
  LT (.slice (some ⟨M56.n, 0, none⟩) 0 0) (M56.push (some (.inl (c_27, Ty.api_Done, true)))) fun t113_13 M57 =>
  OP (slV 4 Ty.api_Done x8 none (some x12) M57) fun t116_13 =>
  OP2 (appV 4 Ty.api_Done t113_13 t116_13 M57) fun t117_13 M58 =>
  P_fettlelaw12_RecoTrace_6 x2 t112_13 t117_13 (.int .i64 0) M58 Q
  ) (
  BR t102_3 (
  BR undef (
  NTs [(.bool false)] ∧ Q (.bool false) M2
  ) (
  OP (bldL (.int .u8 0) 1 0 []) fun c_28 =>
  LT (.slice (some ⟨M2.n, 0, none⟩) 0 0) (M2.push (some (.inl (c_28, Ty.uint8, true)))) fun t108_14 M59 =>
  OP (slV 1 Ty.uint8 x7 none (some t75) M59) fun t111_14 =>
  OP2 (appV 1 Ty.uint8 t108_14 t111_14 M59) fun t112_14 M60 =>
  OP (bldL (.agg #[(.string ⟨#[]⟩), (.int .i64 0), (.int .i64 0), (.slice none 0 0)]) 4 0 []) fun c_29 =>
  LT (.slice (some ⟨M60.n, 0, none⟩) 0 0) (M60.push (some (.inl (c_29, Ty.api_Done, true)))) fun t113_14 M61 =>
  OP (slV 4 Ty.api_Done x8 none (some x12) M61) fun t116_14 =>
  OP2 (appV 4 Ty.api_Done t113_14 t116_14 M61) fun t117_14 M62 =>
  P_fettlelaw12_RecoTrace_6 x2 t112_14 t117_14 (.int .i64 0) M62 Q
  )
  ) (
  OP (bldL (.int .u8 0) 1 0 []) fun c_30 =>
  LT (.slice (some ⟨M2.n, 0, none⟩) 0 0) (M2.push (some (.inl (c_30, Ty.uint8, true)))) fun t108_15 M63 =>
  OP (slV 1 Ty.uint8 x7 none (some t75) M63) fun t111_15 =>
  OP2 (appV 1 Ty.uint8 t108_15 t111_15 M63) fun t112_15 M64 =>
  OP (bldL (.agg #[(.string ⟨#[]⟩), (.int .i64 0), (.int .i64 0), (.slice none 0 0)]) 4 0 []) fun c_31 =>
  LT (.slice (some ⟨M64.n, 0, none⟩) 0 0) (M64.push (some (.inl (c_31, Ty.api_Done, true)))) fun t113_15 M65 =>
  OP (slV 4 Ty.api_Done x8 none (some x12) M65) fun t116_15 =>
  OP2 (appV 4 Ty.api_Done t113_15 t116_15 M65) fun t117_15 M66 =>
  P_fettlelaw12_RecoTrace_6 x2 t112_15 t117_15 (.int .i64 0) M66 Q
  )
  )
  )
  )
  )
  )
theorem T_fettlelaw12_RecoTrace_5 {x2 x7 x8 x9 x11 x12 : Value} {M : Store} {Q : Value → Store → Prop} (h : S_fettlelaw12_RecoTrace_5 x2 x7 x8 x9 x11 x12 M Q) : P_fettlelaw12_RecoTrace_5 x2 x7 x8 x9 x11 x12 M Q := by
  intro f h2 h7 h8 h9 h11 h12; subst h2; subst h7; subst h8; subst h9; subst h11; subst h12
  unfold At
  exact rule (B := 1000) (N := 161) (ct := (.two .no (.two .no (.two .no (.two .no (.two (.two .no (.two (.here 1000) .no)) (.here 1001)))))))
    [⟨1002, fun a M => dfr a.defers (P_fettlelaw12_RecoTrace_6 (a.get 2) (a.get 15) (a.get 16) (a.get 17) M Q), fun a M => At Try.prog Ex none Try.f17 [1, 1, 1, 1, 1, 1, 1, 1, 1, 1, 1, 1, 0, 1, 0] a M Q⟩,
    ⟨1003, fun _ _ => False, fun a M => At Try.prog Ex none Try.f17 [1, 1, 1, 1, 1, 1, 1, 1, 1, 1, 1, 1, 1] a M Q⟩,
    ⟨1, fun a M => kfin Try.prog Try.f17.results.toList Q 1 a M, fun a M => kfin Try.prog Try.f17.results.toList Q 1 a M⟩]
    [1000, 1001] [1] (by kernel_rfl) (by kernel_rfl) (by kernel_rfl) (by kernel_rfl) (by kernel_rfl)
    ⟨fun a M hn h => by obtain ⟨⟨n, f⟩, ds⟩ := a; have hn : n = 161 := hn; subst hn; obtain ⟨hd, h⟩ := dfr_iff h; have hd : ds = [] := hd; subst hd; exact h f rfl rfl rfl rfl,
    fun _ _ _ h => h.elim,
    fun _ _ _ h => h,
    trivial⟩
    (cast (by kernel_rfl) h)
def S_fettlelaw12_RecoTrace_6 (x2 x15 x16 x17 : Value) (M : Store) (Q : Value → Store → Prop) : Prop :=
  OP (lenV x2) fun t120 =>
  OP (binI .lss x17 t120) fun t121 =>
  BR t121 (
  OP (binI .lss x17 (.int .i64 5)) fun t124 =>
  BR t124 (
  P_fettlelaw12_RecoTrace_7 x2 x15 x16 x17 M Q
  ) (
  P_fettlelaw12_RecoTrace_8 x15 x16 M Q
  )
  ) (
  P_fettlelaw12_RecoTrace_8 x15 x16 M Q
  )
theorem T_fettlelaw12_RecoTrace_6 {x2 x15 x16 x17 : Value} {M : Store} {Q : Value → Store → Prop} (h : S_fettlelaw12_RecoTrace_6 x2 x15 x16 x17 M Q) : P_fettlelaw12_RecoTrace_6 x2 x15 x16 x17 M Q := by
  intro f h2 h15 h16 h17; subst h2; subst h15; subst h16; subst h17
  unfold At
  refine cast (by kernel_rfl) (CW.loop (P := Try.prog) (E := Ex) (rd := none) (x := sub (bodyOf Try.f17) [1, 1, 1, 1, 1, 1, 1, 1, 1, 1, 1, 1, 0, 1, 0, 0]) (a := ⟨⟨161, f⟩, []⟩) (M := M) (K := kcont Try.prog Ex none (bodyOf Try.f17) [1, 1, 1, 1, 1, 1, 1, 1, 1, 1, 1, 1, 0, 1, 0] (kfin Try.prog Try.f17.results.toList Q)) ?_)
  exact rule (B := 1000) (N := 161) (ct := (.two .no (.here 1000)))
    [⟨1002, fun a M => dfr a.defers (P_fettlelaw12_RecoTrace_7 (a.get 2) (a.get 15) (a.get 16) (a.get 17) M Q), fun a M => At Try.prog Ex none Try.f17 [1, 1, 1, 1, 1, 1, 1, 1, 1, 1, 1, 1, 0, 1, 0, 0, 1] a M Q⟩,
    ⟨6, fun a M => dfr a.defers (P_fettlelaw12_RecoTrace_8 (a.get 15) (a.get 16) M Q), fun a M => At Try.prog Ex none Try.f17 [1, 1, 1, 1, 1, 1, 1, 1, 1, 1, 1, 1, 1] a M Q⟩]
    [1000] [6] (by kernel_rfl) (by kernel_rfl) (by kernel_rfl) (by kernel_rfl) (by kernel_rfl)
    ⟨fun a M hn h => by obtain ⟨⟨n, f⟩, ds⟩ := a; have hn : n = 161 := hn; subst hn; obtain ⟨hd, h⟩ := dfr_iff h; have hd : ds = [] := hd; subst hd; exact h f rfl rfl rfl rfl,
    fun a M hn h => by obtain ⟨⟨n, f⟩, ds⟩ := a; have hn : n = 161 := hn; subst hn; obtain ⟨hd, h⟩ := dfr_iff h; have hd : ds = [] := hd; subst hd; exact h f rfl rfl,
    trivial⟩
    (cast (by kernel_rfl) h)
def S_fettlelaw12_RecoTrace_7 (x2 x15 x16 x17 : Value) (M : Store) (Q : Value → Store → Prop) : Prop :=
  OP (ixA 1 x2 x17) fun t131 =>
  OP (ld 1 false t131 M) fun t132 =>
  R F.fettlelaw12_Done #[t132] M fun t133 M1 =>
  R F.reco_Done #[t133] M1 fun t134 M2 =>
  R F.fettleref1_Put #[x15, t134] M2 fun t135 M3 =>
  OP (ixA 1 x2 x17) fun t139 =>
  OP (ld 1 false t139 M3) fun t140 =>
  R F.fettlelaw12_Done #[t140] M3 fun t141 M4 =>
  OP (bldL (.agg #[(.string ⟨#[]⟩), (.int .i64 0), (.int .i64 0), (.slice none 0 0)]) 4 1 [(0, t141)]) fun c =>
  LT (.slice (some ⟨M4.n, 0, none⟩) 1 1) (M4.push (some (.inl (c, Ty.api_Done, true)))) fun t142 M5 =>
  OP2 (appV 4 Ty.api_Done x16 t142 M5) fun t143 M6 =>
  OP (binI .add x17 (.int .i64 1)) fun t127 =>
  P_fettlelaw12_RecoTrace_6 x2 t135 t143 t127 M6 Q
theorem T_fettlelaw12_RecoTrace_7 {x2 x15 x16 x17 : Value} {M : Store} {Q : Value → Store → Prop} (h : S_fettlelaw12_RecoTrace_7 x2 x15 x16 x17 M Q) : P_fettlelaw12_RecoTrace_7 x2 x15 x16 x17 M Q := by
  intro f h2 h15 h16 h17; subst h2; subst h15; subst h16; subst h17
  unfold At
  exact rule (B := 1000) (N := 161) (ct := .no)
    [⟨0, fun a M => dfr a.defers (P_fettlelaw12_RecoTrace_6 (a.get 2) (a.get 15) (a.get 16) (a.get 17) M Q), fun a M => At Try.prog Ex none Try.f17 [1, 1, 1, 1, 1, 1, 1, 1, 1, 1, 1, 1, 0, 1, 0] a M Q⟩]
    [] [0] (by kernel_rfl) (by kernel_rfl) (by kernel_rfl) (by kernel_rfl) (by kernel_rfl)
    ⟨fun a M hn h => by obtain ⟨⟨n, f⟩, ds⟩ := a; have hn : n = 161 := hn; subst hn; obtain ⟨hd, h⟩ := dfr_iff h; have hd : ds = [] := hd; subst hd; exact h f rfl rfl rfl rfl,
    trivial⟩
    (cast (by kernel_rfl) h)
def S_fettlelaw12_RecoTrace_8 (x15 x16 : Value) (M : Store) (Q : Value → Store → Prop) : Prop :=
  R F.reco_Trace #[x15] M fun t146 M1 =>
  OP (tup t146 0) fun t147 =>
  OP (tup t146 1) fun t148 =>
  R F.fettleref10_SameDones #[t147, x16] M1 fun t151 M2 =>
  BR t151 (
  OP (lenV x15) fun t155 =>
  OP (binI .eql t148 t155) fun t156 =>
  BR t156 (
  R F.fettlelaw12_awake #[] M2 fun t159 M3 =>
  NTs [t159] ∧ Q t159 M3
  ) (
  NTs [(.bool false)] ∧ Q (.bool false) M2
  )
  ) (
  NTs [(.bool false)] ∧ Q (.bool false) M2
  )
theorem T_fettlelaw12_RecoTrace_8 {x15 x16 : Value} {M : Store} {Q : Value → Store → Prop} (h : S_fettlelaw12_RecoTrace_8 x15 x16 M Q) : P_fettlelaw12_RecoTrace_8 x15 x16 M Q := by
  intro f h15 h16; subst h15; subst h16
  unfold At
  exact rule (B := 1000) (N := 161) (ct := .no)
    [⟨1, fun a M => kfin Try.prog Try.f17.results.toList Q 1 a M, fun a M => kfin Try.prog Try.f17.results.toList Q 1 a M⟩]
    [] [1] (by kernel_rfl) (by kernel_rfl) (by kernel_rfl) (by kernel_rfl) (by kernel_rfl)
    ⟨fun _ _ _ h => h,
    trivial⟩
    (cast (by kernel_rfl) h)
def S_reco_Done (x0 : Value) (M : Store) (Q : Value → Store → Prop) : Prop :=
  OP (boxv x0) fun c =>
  LT (.pointer (some ⟨M.n, 0, none⟩)) (M.push (some (.inl (c, Ty.api_Done, true)))) fun t1 M1 =>
  OP (ld 4 true t1 M1) fun t4 =>
  R F.reco_right #[t4] M1 fun t5 M2 =>
  OP (aun .not t5) fun t6 =>
  BR t6 (
  NTs [(.slice none 0 0)] ∧ Q (.slice none 0 0) M2
  ) (
  OP (fad 0 t1) fun t7 =>
  OP (ld 1 false t7 M2) fun t8 =>
  OP2 (cvSB Ty.uint8 t8 M2) fun t9 M3 =>
  R F.code_Bytes #[(.slice none 0 0), t9] M3 fun t10 M4 =>
  TDj [0, 1, 2] [M2.n, M2.n, M2.n, M3.n] M3 M4 ∧
  OP (fad 3 t1) fun t11 =>
  OP (ld 1 false t11 M4) fun t12 =>
  R F.code_Bytes #[t10, t12] M4 fun t13 M5 =>
  TDx [0, 1, 3, 7, 0, 16, 63, 127] [M2.n, M2.n, M2.n, M3.n, M4.n, M4.n, M4.n] 6 M4 M5 ∧
  OP (fad 1 t1) fun t15 =>
  OP (ld 1 false t15 M5) fun t16 =>
  R F.code_Num #[t13, t16] M5 fun t17 M6 =>
  TDj [0, 1, 2] [M5.n, M5.n, M5.n, M5.n] M5 M6 ∧
  OP (fad 2 t1) fun t18 =>
  OP (ld 1 false t18 M6) fun t19 =>
  R F.code_Num #[t17, t19] M6 fun t20 M7 =>
  TDx [0, 0, 2, 7, 0, 16, 63, 127] [M5.n, M5.n, M5.n, M5.n, M6.n, M6.n, M6.n] 6 M6 M7 ∧
  NTs [t20] ∧ Q t20 M7
  )
theorem T_reco_Done {x0 : Value} {M : Store} {Q : Value → Store → Prop} (h : S_reco_Done x0 M Q) : R F.reco_Done #[x0] M Q := by
  refine runs_of (c := bodyOf Try.f56) Try.func56 rfl (by kernel_rfl) (by kernel_rfl) ?_
  unfold At
  exact rule (B := 1000) (N := 21) (ct := .no)
    [⟨1, fun a M => kfin Try.prog Try.f56.results.toList Q 1 a M, fun a M => kfin Try.prog Try.f56.results.toList Q 1 a M⟩]
    [] [1] (by kernel_rfl) (by kernel_rfl) (by kernel_rfl) (by kernel_rfl) (by kernel_rfl)
    ⟨fun _ _ _ h => h,
    trivial⟩
    (cast (by kernel_rfl) h)
def S_reco_OpenDone (x0 : Value) (M : Store) (Q : Value → Store → Prop) : Prop :=
  LT (.pointer (some ⟨M.n, 0, none⟩)) (M.push (some (.inl ([(.string ⟨#[]⟩), (.int .i64 0), (.int .i64 0), (.slice none 0 0)], Ty.api_Done, true)))) fun t2 M1 =>
  R F.code_Read #[x0] M1 fun t7 M2 =>
  R F.code_Reader_Bytes #[t7, (.int .i64 16)] M2 fun t9 M3 =>
  OP (cvBS t9 M3) fun t10 =>
  OP (bldS #[(.string ⟨#[]⟩), (.int .i64 0), (.int .i64 0), (.slice none 0 0)] [(0, 1), (1, 1), (2, 1), (3, 1)] [(0, t10)]) fun t11 =>
  LT (.pointer (some ⟨M3.n, 0, none⟩)) (M3.push (some (.inl ([(.string ⟨#[]⟩), (.int .i64 0), (.int .i64 0), (.slice none 0 0)], Ty.api_Done, true)))) fun t5 M4 =>
  OP (st 4 t5 t11 M4) fun M5 =>
  R F.code_Reader_Bytes #[t7, (.int .i64 4000)] M5 fun t13 M6 =>
  OP (fad 3 t5) fun t14 =>
  OP (st 1 t14 t13 M6) fun M7 =>
  R F.code_Reader_Num #[t7, (.int .i64 1099511627776)] M7 fun t16 M8 =>
  R F.code_Reader_Num #[t7, (.int .i64 1099511627776)] M8 fun t18 M9 =>
  OP (fad 1 t5) fun t19 =>
  OP (st 1 t19 t16 M9) fun M10 =>
  OP (fad 2 t5) fun t20 =>
  OP (st 1 t20 t18 M10) fun M11 =>
  R F.code_Reader_End #[t7] M11 fun t22 M12 =>
  OP (aun .not t22) fun t23 =>
  BR t23 (
  OP (bldS #[(.string ⟨#[]⟩), (.int .i64 0), (.int .i64 0), (.slice none 0 0)] [(0, 1), (1, 1), (2, 1), (3, 1)] []) fun t29 =>
  OP (st 4 t2 t29 M12) fun M13 =>
  OP (ld 4 true t2 M13) fun r2 =>
  NTs [r2, (.bool false)] ∧ Q (.tuple #[r2, (.bool false)]) M13
  ) (
  OP (ld 4 true t5 M12) fun t25 =>
  R F.reco_right #[t25] M12 fun t26 M14 =>
  OP (aun .not t26) fun t27 =>
  BR t27 (
  OP (bldS #[(.string ⟨#[]⟩), (.int .i64 0), (.int .i64 0), (.slice none 0 0)] [(0, 1), (1, 1), (2, 1), (3, 1)] []) fun t29_1 =>
  OP (st 4 t2 t29_1 M14) fun M15 =>
  OP (ld 4 true t2 M15) fun r2_1 =>
  NTs [r2_1, (.bool false)] ∧ Q (.tuple #[r2_1, (.bool false)]) M15
  ) (
  OP (ld 4 true t5 M14) fun t30 =>
  OP (st 4 t2 t30 M14) fun M16 =>
  OP (ld 4 true t2 M16) fun r2_2 =>
  NTs [r2_2, (.bool true)] ∧ Q (.tuple #[r2_2, (.bool true)]) M16
  )
  )
theorem T_reco_OpenDone {x0 : Value} {M : Store} {Q : Value → Store → Prop} (h : S_reco_OpenDone x0 M Q) : R F.reco_OpenDone #[x0] M Q := by
  refine runs_of (c := bodyOf Try.f57) Try.func57 rfl (by kernel_rfl) (by kernel_rfl) ?_
  unfold At
  exact rule (B := 1000) (N := 31) (ct := .no)
    [⟨1, fun a M => kfin Try.prog Try.f57.results.toList Q 1 a M, fun a M => kfin Try.prog Try.f57.results.toList Q 1 a M⟩]
    [] [1] (by kernel_rfl) (by kernel_rfl) (by kernel_rfl) (by kernel_rfl) (by kernel_rfl)
    ⟨fun _ _ _ h => h,
    trivial⟩
    (cast (by kernel_rfl) h)
def S_reco_OpenLock (x0 : Value) (M : Store) (Q : Value → Store → Prop) : Prop :=
  LT (.pointer (some ⟨M.n, 0, none⟩)) (M.push (some (.inl ([(.int .i64 0), (.int .i64 0), (.int .i64 0), (.int .i64 0)], Ty.api_Lock, true)))) fun t2 M1 =>
  R F.reco_alone #[x0] M1 fun t10 M2 =>
  OP (tup t10 0) fun t11 =>
  OP (tup t10 1) fun t12 =>
  R F.code_Read #[t11] M2 fun t14 M3 =>
  R F.code_Reader_Num #[t14, (.int .i64 1099511627776)] M3 fun t16 M4 =>
  R F.code_Reader_Num #[t14, (.int .i64 1099511627776)] M4 fun t18 M5 =>
  OP (bldS #[(.int .i64 0), (.int .i64 0), (.int .i64 0), (.int .i64 0)] [(0, 1), (1, 1), (2, 1), (3, 1)] [(0, t16), (1, t18)]) fun t19 =>
  LT (.pointer (some ⟨M5.n, 0, none⟩)) (M5.push (some (.inl ([(.int .i64 0), (.int .i64 0), (.int .i64 0), (.int .i64 0)], Ty.api_Lock, true)))) fun t7 M6 =>
  OP (st 4 t7 t19 M6) fun M7 =>
  R F.code_Reader_Num #[t14, (.int .i64 1099511627776)] M7 fun t21 M8 =>
  R F.code_Reader_Num #[t14, (.int .i64 1099511627776)] M8 fun t23 M9 =>
  OP (fad 2 t7) fun t24 =>
  OP (st 1 t24 t21 M9) fun M10 =>
  OP (fad 3 t7) fun t25 =>
  OP (st 1 t25 t23 M10) fun M11 =>
  OP (aun .not t12) fun t27 =>
  BR t27 (
  OP (bldS #[(.int .i64 0), (.int .i64 0), (.int .i64 0), (.int .i64 0)] [(0, 1), (1, 1), (2, 1), (3, 1)] []) fun t33 =>
  OP (st 4 t2 t33 M11) fun M12 =>
  OP (ld 4 true t2 M12) fun r2 =>
  NTs [r2, (.bool false)] ∧ Q (.tuple #[r2, (.bool false)]) M12
  ) (
  R F.code_Reader_End #[t14] M11 fun t30 M13 =>
  OP (aun .not t30) fun t31 =>
  BR t31 (
  OP (bldS #[(.int .i64 0), (.int .i64 0), (.int .i64 0), (.int .i64 0)] [(0, 1), (1, 1), (2, 1), (3, 1)] []) fun t33_1 =>
  OP (st 4 t2 t33_1 M13) fun M14 =>
  OP (ld 4 true t2 M14) fun r2_1 =>
  NTs [r2_1, (.bool false)] ∧ Q (.tuple #[r2_1, (.bool false)]) M14
  ) (
  OP (ld 4 true t7 M13) fun t34 =>
  OP (st 4 t2 t34 M13) fun M15 =>
  OP (ld 4 true t2 M15) fun r2_2 =>
  NTs [r2_2, (.bool true)] ∧ Q (.tuple #[r2_2, (.bool true)]) M15
  )
  )
theorem T_reco_OpenLock {x0 : Value} {M : Store} {Q : Value → Store → Prop} (h : S_reco_OpenLock x0 M Q) : R F.reco_OpenLock #[x0] M Q := by
  refine runs_of (c := bodyOf Try.f58) Try.func58 rfl (by kernel_rfl) (by kernel_rfl) ?_
  unfold At
  exact rule (B := 1000) (N := 35) (ct := .no)
    [⟨1, fun a M => kfin Try.prog Try.f58.results.toList Q 1 a M, fun a M => kfin Try.prog Try.f58.results.toList Q 1 a M⟩]
    [] [1] (by kernel_rfl) (by kernel_rfl) (by kernel_rfl) (by kernel_rfl) (by kernel_rfl)
    ⟨fun _ _ _ h => h,
    trivial⟩
    (cast (by kernel_rfl) h)
def S_reco_Lock (x0 : Value) (M : Store) (Q : Value → Store → Prop) : Prop :=
  OP (boxv x0) fun c =>
  LT (.pointer (some ⟨M.n, 0, none⟩)) (M.push (some (.inl (c, Ty.api_Lock, true)))) fun t1 M1 =>
  OP (fad 0 t1) fun t3 =>
  OP (ld 1 false t3 M1) fun t4 =>
  R F.code_Num #[(.slice none 0 0), t4] M1 fun t5 M2 =>
  TDj [0, 1] [M1.n, M1.n, M1.n] M1 M2 ∧
  OP (fad 1 t1) fun t6 =>
  OP (ld 1 false t6 M2) fun t7 =>
  R F.code_Num #[t5, t7] M2 fun t8 M3 =>
  TDj [0, 1, 2, 3, 4] [M1.n, M1.n, M1.n, M2.n, M2.n, M2.n] M2 M3 ∧
  OP (fad 2 t1) fun t9 =>
  OP (ld 1 false t9 M3) fun t10 =>
  R F.code_Num #[t8, t10] M3 fun t11 M4 =>
  TDj [0, 1, 2, 3, 4, 5, 6, 7] [M1.n, M1.n, M1.n, M2.n, M2.n, M2.n, M3.n, M3.n, M3.n] M3 M4 ∧
  OP (fad 3 t1) fun t12 =>
  OP (ld 1 false t12 M4) fun t13 =>
  R F.code_Num #[t11, t13] M4 fun t14 M5 =>
  TDx [0, 1, 3, 0, 8, 31, 0, 64, 255, 0, 512, 2047, 4095, 8191] [M1.n, M1.n, M1.n, M2.n, M2.n, M2.n, M3.n, M3.n, M3.n, M4.n, M4.n, M4.n] 11 M4 M5 ∧
  R F.fram_Put #[(.slice none 0 0), t14] M5 fun t15 M6 =>
  TDx [0, 1, 3, 0, 8, 31, 0, 64, 255, 0, 512, 2047, 4095, 8191] [M1.n, M1.n, M1.n, M2.n, M2.n, M2.n, M3.n, M3.n, M3.n, M4.n, M4.n, M4.n, M5.n] 12 M5 M6 ∧
  NTs [t15] ∧ Q t15 M6
theorem T_reco_Lock {x0 : Value} {M : Store} {Q : Value → Store → Prop} (h : S_reco_Lock x0 M Q) : R F.reco_Lock #[x0] M Q := by
  refine runs_of (c := bodyOf Try.f59) Try.func59 rfl (by kernel_rfl) (by kernel_rfl) ?_
  unfold At
  exact rule (B := 1000) (N := 16) (ct := .no)
    [⟨1, fun a M => kfin Try.prog Try.f59.results.toList Q 1 a M, fun a M => kfin Try.prog Try.f59.results.toList Q 1 a M⟩]
    [] [1] (by kernel_rfl) (by kernel_rfl) (by kernel_rfl) (by kernel_rfl) (by kernel_rfl)
    ⟨fun _ _ _ h => h,
    trivial⟩
    (cast (by kernel_rfl) h)
def S_fettleref10_SameDone (x0 x1 : Value) (M : Store) (Q : Value → Store → Prop) : Prop :=
  OP (boxv x0) fun c =>
  LT (.pointer (some ⟨M.n, 0, none⟩)) (M.push (some (.inl (c, Ty.api_Done, true)))) fun t2 M1 =>
  OP (boxv x1) fun c_1 =>
  LT (.pointer (some ⟨M1.n, 0, none⟩)) (M1.push (some (.inl (c_1, Ty.api_Done, true)))) fun t3 M2 =>
  OP (fad 0 t2) fun t5 =>
  OP (ld 1 false t5 M2) fun t6 =>
  OP (fad 0 t3) fun t7 =>
  OP (ld 1 false t7 M2) fun t8 =>
  OP (binS .eql t6 t8) fun t9 =>
  BR t9 (
  OP (fad 1 t2) fun t11 =>
  OP (ld 1 false t11 M2) fun t12 =>
  OP (fad 1 t3) fun t13 =>
  OP (ld 1 false t13 M2) fun t14 =>
  OP (binI .eql t12 t14) fun t15 =>
  BR t15 (
  OP (fad 2 t2) fun t18 =>
  OP (ld 1 false t18 M2) fun t19 =>
  OP (fad 2 t3) fun t20 =>
  OP (ld 1 false t20 M2) fun t21 =>
  OP (binI .eql t19 t21) fun t22 =>
  BR t22 (
  OP (fad 3 t2) fun t25 =>
  OP (ld 1 false t25 M2) fun t26 =>
  OP (cvBS t26 M2) fun t27 =>
  OP (fad 3 t3) fun t28 =>
  OP (ld 1 false t28 M2) fun t29 =>
  OP (cvBS t29 M2) fun t30 =>
  OP (binS .eql t27 t30) fun t31 =>
  NTs [t31] ∧ Q t31 M2
  ) (
  NTs [(.bool false)] ∧ Q (.bool false) M2
  )
  ) (
  NTs [(.bool false)] ∧ Q (.bool false) M2
  )
  ) (
  NTs [(.bool false)] ∧ Q (.bool false) M2
  )
theorem T_fettleref10_SameDone {x0 x1 : Value} {M : Store} {Q : Value → Store → Prop} (h : S_fettleref10_SameDone x0 x1 M Q) : R F.fettleref10_SameDone #[x0, x1] M Q := by
  refine runs_of (c := bodyOf Try.f60) Try.func60 rfl (by kernel_rfl) (by kernel_rfl) ?_
  unfold At
  exact rule (B := 1000) (N := 33) (ct := .no)
    [⟨1, fun a M => kfin Try.prog Try.f60.results.toList Q 1 a M, fun a M => kfin Try.prog Try.f60.results.toList Q 1 a M⟩]
    [] [1] (by kernel_rfl) (by kernel_rfl) (by kernel_rfl) (by kernel_rfl) (by kernel_rfl)
    ⟨fun _ _ _ h => h,
    trivial⟩
    (cast (by kernel_rfl) h)
def S_fettlelaw12_awake (M : Store) (Q : Value → Store → Prop) : Prop :=
  OP (bldS #[(.int .i64 0), (.int .i64 0), (.int .i64 0), (.int .i64 0)] [(0, 1), (1, 1), (2, 1), (3, 1)] [(0, (.int .i64 1)), (1, (.int .i64 2)), (2, (.int .i64 3)), (3, (.int .i64 400))]) fun t10 =>
  LT (.pointer (some ⟨M.n, 0, none⟩)) (M.push (some (.inl ([(.int .i64 0), (.int .i64 0), (.int .i64 0), (.int .i64 0)], Ty.api_Lock, true)))) fun t1 M1 =>
  OP (st 4 t1 t10 M1) fun M2 =>
  OP (ld 4 true t1 M2) fun t12 =>
  R F.reco_Lock #[t12] M2 fun t13 M3 =>
  R F.reco_OpenLock #[t13] M3 fun t14 M4 =>
  OP (tup t14 0) fun t15 =>
  OP (tup t14 1) fun t16 =>
  LT (.pointer (some ⟨M4.n, 0, none⟩)) (M4.push (some (.inl ([(.int .i64 0), (.int .i64 0), (.int .i64 0), (.int .i64 0)], Ty.api_Lock, true)))) fun t2 M5 =>
  OP (st 4 t2 t15 M5) fun M6 =>
  OP (bldL (.int .u8 0) 1 1 [(0, (.int .u8 112))]) fun c =>
  LT (.slice (some ⟨M6.n, 0, none⟩) 1 1) (M6.push (some (.inl (c, Ty.uint8, true)))) fun t17 M7 =>
  OP2 (cvId t17 M7) fun t18 M8 =>
  OP (bldS #[(.string ⟨#[]⟩), (.int .i64 0), (.int .i64 0), (.slice none 0 0)] [(0, 1), (1, 1), (2, 1), (3, 1)] [(0, (.string ⟨#[97, 46, 111]⟩)), (1, (.int .i64 1)), (2, (.int .i64 2)), (3, t18)]) fun t19 =>
  LT (.pointer (some ⟨M8.n, 0, none⟩)) (M8.push (some (.inl ([(.string ⟨#[]⟩), (.int .i64 0), (.int .i64 0), (.slice none 0 0)], Ty.api_Done, true)))) fun t4 M9 =>
  OP (st 4 t4 t19 M9) fun M10 =>
  OP (ld 4 true t4 M10) fun t21 =>
  R F.reco_Done #[t21] M10 fun t22 M11 =>
  R F.reco_OpenDone #[t22] M11 fun t23 M12 =>
  OP (tup t23 0) fun t24 =>
  OP (tup t23 1) fun t25 =>
  LT (.pointer (some ⟨M12.n, 0, none⟩)) (M12.push (some (.inl ([(.string ⟨#[]⟩), (.int .i64 0), (.int .i64 0), (.slice none 0 0)], Ty.api_Done, true)))) fun t5 M13 =>
  OP (st 4 t5 t24 M13) fun M14 =>
  OP (ld 4 true t4 M14) fun t26 =>
  R F.reco_Done #[t26] M14 fun t27 M15 =>
  TDj [0] [M14.n, M14.n] M14 M15 ∧
  R F.fettleref1_Put #[(.slice none 0 0), t27] M15 fun t28 M16 =>
  TDj [0, 1] [M14.n, M14.n, M15.n] M15 M16 ∧
  OP (ld 4 true t4 M16) fun t29 =>
  R F.reco_Done #[t29] M16 fun t30 M17 =>
  TDx [0, 1, 3, 0, 15, 31, 0, 127, 255] [M14.n, M14.n, M15.n, M16.n, M16.n] 4 M16 M17 ∧
  R F.fettleref1_Put #[t28, t30] M17 fun t31 M18 =>
  TDx [0, 1, 3, 0, 15, 31, 0, 127, 255] [M14.n, M14.n, M15.n, M16.n, M16.n, M17.n] 5 M17 M18 ∧
  OP (bldL (.int .u8 0) 1 2 [(0, (.int .u8 7)), (1, (.int .u8 7))]) fun c_1 =>
  LT (.slice (some ⟨M18.n, 0, none⟩) 2 2) (M18.push (some (.inl (c_1, Ty.uint8, true)))) fun t32 M19 =>
  OP2 (appV 1 Ty.uint8 t31 t32 M19) fun t33 M20 =>
  TDx [0, 1, 3, 0, 15, 31, 0, 127, 255] [M14.n, M14.n, M15.n, M16.n, M16.n, M17.n, M18.n, M19.n] 7 M19 M20 ∧
  R F.reco_Trace #[t33] M20 fun t36 M21 =>
  OP (tup t36 0) fun t37 =>
  OP (tup t36 1) fun t38 =>
  BR t16 (
  OP (ld 4 true t2 M21) fun t41 =>
  OP (ld 4 true t1 M21) fun t42 =>
  OP (abin Try.prog false .eql Ty.api_Lock t41 t42) fun t43 =>
  BR t43 (
  BR t25 (
  OP (ld 4 true t4 M21) fun t49 =>
  OP (ld 4 true t5 M21) fun t50 =>
  R F.fettleref10_SameDone #[t49, t50] M21 fun t51 M22 =>
  BR t51 (
  OP (lenV t37) fun t55 =>
  OP (binI .eql t55 (.int .i64 2)) fun t56 =>
  BR t56 (
  OP (lenV t33) fun t61 =>
  OP (binI .sub t61 (.int .i64 2)) fun t62 =>
  OP (binI .eql t38 t62) fun t63 =>
  BR t63 (
  OP (bldS #[(.string ⟨#[]⟩), (.int .i64 0), (.int .i64 0), (.slice none 0 0)] [(0, 1), (1, 1), (2, 1), (3, 1)] []) fun t66 =>
  R F.reco_Done #[t66] M22 fun t67 M23 =>
  OP (lenV t67) fun t68 =>
  OP (binI .eql t68 (.int .i64 0)) fun t69 =>
  NTs [t69] ∧ Q t69 M23
  ) (
  NTs [(.bool false)] ∧ Q (.bool false) M22
  )
  ) (
  NTs [(.bool false)] ∧ Q (.bool false) M22
  )
  ) (
  NTs [(.bool false)] ∧ Q (.bool false) M22
  )
  ) (
  NTs [(.bool false)] ∧ Q (.bool false) M21
  )
  ) (
  NTs [(.bool false)] ∧ Q (.bool false) M21
  )
  ) (
  NTs [(.bool false)] ∧ Q (.bool false) M21
  )
theorem T_fettlelaw12_awake {M : Store} {Q : Value → Store → Prop} (h : S_fettlelaw12_awake M Q) : R F.fettlelaw12_awake #[] M Q := by
  refine runs_of (c := bodyOf Try.f61) Try.func61 rfl (by kernel_rfl) (by kernel_rfl) ?_
  unfold At
  exact rule (B := 1000) (N := 71) (ct := .no)
    [⟨1, fun a M => kfin Try.prog Try.f61.results.toList Q 1 a M, fun a M => kfin Try.prog Try.f61.results.toList Q 1 a M⟩]
    [] [1] (by kernel_rfl) (by kernel_rfl) (by kernel_rfl) (by kernel_rfl) (by kernel_rfl)
    ⟨fun _ _ _ h => h,
    trivial⟩
    (cast (by kernel_rfl) h)
def S_fettleref10_Lock (x0 : Value) (M : Store) (Q : Value → Store → Prop) : Prop :=
  OP (boxv x0) fun c =>
  LT (.pointer (some ⟨M.n, 0, none⟩)) (M.push (some (.inl (c, Ty.api_Lock, true)))) fun t1 M1 =>
  OP (fad 0 t1) fun t4 =>
  OP (ld 1 false t4 M1) fun t5 =>
  R F.fettleref1_Num #[(.slice none 0 0), t5] M1 fun t6 M2 =>
  TDj [0, 1] [M1.n, M1.n, M1.n] M1 M2 ∧
  OP (fad 1 t1) fun t7 =>
  OP (ld 1 false t7 M2) fun t8 =>
  R F.fettleref1_Num #[t6, t8] M2 fun t9 M3 =>
  TDx [0, 1, 3, 0, 8, 31, 63] [M1.n, M1.n, M1.n, M2.n, M2.n, M2.n] 5 M2 M3 ∧
  OP (fad 2 t1) fun t11 =>
  OP (ld 1 false t11 M3) fun t12 =>
  R F.fettleref1_Num #[t9, t12] M3 fun t13 M4 =>
  TDj [0, 1, 2] [M3.n, M3.n, M3.n, M3.n] M3 M4 ∧
  OP (fad 3 t1) fun t14 =>
  OP (ld 1 false t14 M4) fun t15 =>
  R F.fettleref1_Num #[t13, t15] M4 fun t16 M5 =>
  TDx [0, 0, 2, 7, 0, 16, 63, 127, 255] [M3.n, M3.n, M3.n, M3.n, M4.n, M4.n, M4.n] 6 M4 M5 ∧
  R F.fettleref1_Put #[(.slice none 0 0), t16] M5 fun t17 M6 =>
  TDx [0, 0, 2, 7, 0, 16, 63, 127, 255] [M3.n, M3.n, M3.n, M3.n, M4.n, M4.n, M4.n, M5.n] 7 M5 M6 ∧
  NTs [t17] ∧ Q t17 M6
theorem T_fettleref10_Lock {x0 : Value} {M : Store} {Q : Value → Store → Prop} (h : S_fettleref10_Lock x0 M Q) : R F.fettleref10_Lock #[x0] M Q := by
  refine runs_of (c := bodyOf Try.f62) Try.func62 rfl (by kernel_rfl) (by kernel_rfl) ?_
  unfold At
  exact rule (B := 1000) (N := 18) (ct := .no)
    [⟨1, fun a M => kfin Try.prog Try.f62.results.toList Q 1 a M, fun a M => kfin Try.prog Try.f62.results.toList Q 1 a M⟩]
    [] [1] (by kernel_rfl) (by kernel_rfl) (by kernel_rfl) (by kernel_rfl) (by kernel_rfl)
    ⟨fun _ _ _ h => h,
    trivial⟩
    (cast (by kernel_rfl) h)
def S_fettleref10_Done (x0 : Value) (M : Store) (Q : Value → Store → Prop) : Prop :=
  OP (boxv x0) fun c =>
  LT (.pointer (some ⟨M.n, 0, none⟩)) (M.push (some (.inl (c, Ty.api_Done, true)))) fun t1 M1 =>
  OP (fad 0 t1) fun t4 =>
  OP (ld 1 false t4 M1) fun t5 =>
  R F.fettleref4_Ok #[t5] M1 fun t6 M2 =>
  OP (aun .not t6) fun t7 =>
  BR t7 (
  NTs [(.slice none 0 0)] ∧ Q (.slice none 0 0) M2
  ) (
  OP (fad 3 t1) fun t9 =>
  OP (ld 1 false t9 M2) fun t10 =>
  OP (lenV t10) fun t11 =>
  OP (binI .gtr t11 (.int .i64 4000)) fun t12 =>
  BR t12 (
  NTs [(.slice none 0 0)] ∧ Q (.slice none 0 0) M2
  ) (
  OP (fad 1 t1) fun t15 =>
  OP (ld 1 false t15 M2) fun t16 =>
  OP (binI .lss t16 (.int .i64 0)) fun t17 =>
  BR t17 (
  NTs [(.slice none 0 0)] ∧ Q (.slice none 0 0) M2
  ) (
  OP (fad 1 t1) fun t20 =>
  OP (ld 1 false t20 M2) fun t21 =>
  OP (binI .gtr t21 (.int .i64 1099511627776)) fun t22 =>
  BR t22 (
  NTs [(.slice none 0 0)] ∧ Q (.slice none 0 0) M2
  ) (
  OP (fad 2 t1) fun t25 =>
  OP (ld 1 false t25 M2) fun t26 =>
  OP (binI .lss t26 (.int .i64 0)) fun t27 =>
  BR t27 (
  NTs [(.slice none 0 0)] ∧ Q (.slice none 0 0) M2
  ) (
  OP (fad 2 t1) fun t30 =>
  OP (ld 1 false t30 M2) fun t31 =>
  OP (binI .gtr t31 (.int .i64 1099511627776)) fun t32 =>
  BR t32 (
  NTs [(.slice none 0 0)] ∧ Q (.slice none 0 0) M2
  ) (
  OP (fad 0 t1) fun t34 =>
  OP (ld 1 false t34 M2) fun t35 =>
  OP2 (cvSB Ty.uint8 t35 M2) fun t36 M3 =>
  R F.fettleref1_Bytes #[(.slice none 0 0), t36] M3 fun t37 M4 =>
  TDj [0, 1, 2] [M2.n, M2.n, M2.n, M3.n] M3 M4 ∧
  OP (fad 3 t1) fun t38 =>
  OP (ld 1 false t38 M4) fun t39 =>
  R F.fettleref1_Bytes #[t37, t39] M4 fun t40 M5 =>
  TDx [0, 1, 3, 7, 0, 16, 63, 127] [M2.n, M2.n, M2.n, M3.n, M4.n, M4.n, M4.n] 6 M4 M5 ∧
  OP (fad 1 t1) fun t42 =>
  OP (ld 1 false t42 M5) fun t43 =>
  R F.fettleref1_Num #[t40, t43] M5 fun t44 M6 =>
  TDj [0, 1, 2] [M5.n, M5.n, M5.n, M5.n] M5 M6 ∧
  OP (fad 2 t1) fun t45 =>
  OP (ld 1 false t45 M6) fun t46 =>
  R F.fettleref1_Num #[t44, t46] M6 fun t47 M7 =>
  TDx [0, 0, 2, 7, 0, 16, 63, 127] [M5.n, M5.n, M5.n, M5.n, M6.n, M6.n, M6.n] 6 M6 M7 ∧
  NTs [t47] ∧ Q t47 M7
  )
  )
  )
  )
  )
  )
theorem T_fettleref10_Done {x0 : Value} {M : Store} {Q : Value → Store → Prop} (h : S_fettleref10_Done x0 M Q) : R F.fettleref10_Done #[x0] M Q := by
  refine runs_of (c := bodyOf Try.f63) Try.func63 rfl (by kernel_rfl) (by kernel_rfl) ?_
  unfold At
  exact rule (B := 1000) (N := 48) (ct := .no)
    [⟨1, fun a M => kfin Try.prog Try.f63.results.toList Q 1 a M, fun a M => kfin Try.prog Try.f63.results.toList Q 1 a M⟩]
    [] [1] (by kernel_rfl) (by kernel_rfl) (by kernel_rfl) (by kernel_rfl) (by kernel_rfl)
    ⟨fun _ _ _ h => h,
    trivial⟩
    (cast (by kernel_rfl) h)
def S_fettlelaw12_Done (x0 : Value) (M : Store) (Q : Value → Store → Prop) : Prop :=
  LT (.pointer (some ⟨M.n, 0, none⟩)) (M.push (some (.inl ([(.string ⟨#[]⟩), (.int .i64 0), (.int .i64 0), (.slice none 0 0)], Ty.api_Done, true)))) fun t2 M1 =>
  OP (bldL (.string ⟨#[]⟩) 1 4 [(0, (.string ⟨#[97]⟩)), (1, (.string ⟨#[98]⟩)), (2, (.string ⟨#[99, 46, 111]⟩)), (3, (.string ⟨#[108, 111, 110, 103, 45, 110, 97, 109, 101, 95, 48, 49, 50, 51]⟩))]) fun c =>
  LT (.slice (some ⟨M1.n, 0, none⟩) 4 4) (M1.push (some (.inl (c, Ty.string, true)))) fun t3 M2 =>
  OP (binI .and x0 (.int .i64 3)) fun t5 =>
  OP (ixA 1 t3 t5) fun t6 =>
  OP (ld 1 false t6 M2) fun t7 =>
  OP (binI .shr x0 (.int .u64 2)) fun t9 =>
  OP (binI .and t9 (.int .i64 7)) fun t10 =>
  OP (binI .shr x0 (.int .u64 5)) fun t12 =>
  OP (binI .and t12 (.int .i64 15)) fun t13 =>
  OP (binI .shr x0 (.int .u64 9)) fun t15 =>
  OP (cvI .u8 t15) fun t16 =>
  OP (binI .shr x0 (.int .u64 17)) fun t18 =>
  OP (cvI .u8 t18) fun t19 =>
  OP (bldL (.int .u8 0) 1 2 [(0, t16), (1, t19)]) fun c_1 =>
  LT (.slice (some ⟨M2.n, 0, none⟩) 2 2) (M2.push (some (.inl (c_1, Ty.uint8, true)))) fun t20 M3 =>
  OP (binI .shr x0 (.int .u64 25)) fun t22 =>
  OP (binI .and t22 (.int .i64 3)) fun t23 =>
  OP (binI .rem t23 (.int .i64 3)) fun t24 =>
  OP (slV 1 Ty.uint8 t20 none (some t24) M3) fun t25 =>
  OP (bldS #[(.string ⟨#[]⟩), (.int .i64 0), (.int .i64 0), (.slice none 0 0)] [(0, 1), (1, 1), (2, 1), (3, 1)] [(0, t7), (1, t10), (2, t13), (3, t25)]) fun t26 =>
  OP (st 4 t2 t26 M3) fun M4 =>
  TDx [0, 0, 2, 7, 15, 0, 32, 96, 0, 256, 768, 0, 2048, 6144, 0, 16384, 49152, 129024, 0, 262144, 786432, 1835008, 4192256, 8388607, 16777215] [M1.n, M2.n, M2.n, M2.n, M2.n, M2.n, M2.n, M2.n, M2.n, M2.n, M2.n, M2.n, M2.n, M2.n, M2.n, M2.n, M2.n, M2.n, M3.n, M3.n, M3.n, M3.n, M3.n, M3.n, M3.n] 24 M3 M4 ∧
  OP (ld 4 true t2 M4) fun r2 =>
  NTs [r2] ∧ Q r2 M4
theorem T_fettlelaw12_Done {x0 : Value} {M : Store} {Q : Value → Store → Prop} (h : S_fettlelaw12_Done x0 M Q) : R F.fettlelaw12_Done #[x0] M Q := by
  refine runs_of (c := bodyOf Try.f64) Try.func64 rfl (by kernel_rfl) (by kernel_rfl) ?_
  unfold At
  exact rule (B := 1000) (N := 27) (ct := .no)
    [⟨1, fun a M => kfin Try.prog Try.f64.results.toList Q 1 a M, fun a M => kfin Try.prog Try.f64.results.toList Q 1 a M⟩]
    [] [1] (by kernel_rfl) (by kernel_rfl) (by kernel_rfl) (by kernel_rfl) (by kernel_rfl)
    ⟨fun _ _ _ h => h,
    trivial⟩
    (cast (by kernel_rfl) h)
def S_fettleref10_OpenLock (x0 : Value) (M : Store) (Q : Value → Store → Prop) : Prop :=
  LT (.pointer (some ⟨M.n, 0, none⟩)) (M.push (some (.inl ([(.int .i64 0), (.int .i64 0), (.int .i64 0), (.int .i64 0)], Ty.api_Lock, true)))) fun t2 M1 =>
  R F.fettleref10_whole #[x0] M1 fun t10 M2 =>
  OP (tup t10 0) fun t11 =>
  OP (tup t10 1) fun t12 =>
  OP (bldS #[(.slice none 0 0), (.bool false)] [(0, 1), (1, 1)] [(0, t11)]) fun t14 =>
  OP (boxv t14) fun c =>
  LT (.pointer (some ⟨M2.n, 0, none⟩)) (M2.push (some (.inl (c, Ty.fettleref1_Reader, true)))) fun t15 M3 =>
  R F.fettleref1_Reader_Num #[t15, (.int .i64 1099511627776)] M3 fun t17 M4 =>
  R F.fettleref1_Reader_Num #[t15, (.int .i64 1099511627776)] M4 fun t19 M5 =>
  R F.fettleref1_Reader_Num #[t15, (.int .i64 1099511627776)] M5 fun t21 M6 =>
  R F.fettleref1_Reader_Num #[t15, (.int .i64 1099511627776)] M6 fun t23 M7 =>
  OP (bldS #[(.int .i64 0), (.int .i64 0), (.int .i64 0), (.int .i64 0)] [(0, 1), (1, 1), (2, 1), (3, 1)] [(0, t17), (1, t19), (2, t21), (3, t23)]) fun t24 =>
  LT (.pointer (some ⟨M7.n, 0, none⟩)) (M7.push (some (.inl ([(.int .i64 0), (.int .i64 0), (.int .i64 0), (.int .i64 0)], Ty.api_Lock, true)))) fun t7 M8 =>
  OP (st 4 t7 t24 M8) fun M9 =>
  OP (aun .not t12) fun t26 =>
  BR t26 (
  OP (bldS #[(.int .i64 0), (.int .i64 0), (.int .i64 0), (.int .i64 0)] [(0, 1), (1, 1), (2, 1), (3, 1)] []) fun t32 =>
  OP (st 4 t2 t32 M9) fun M10 =>
  OP (ld 4 true t2 M10) fun r2 =>
  NTs [r2, (.bool false)] ∧ Q (.tuple #[r2, (.bool false)]) M10
  ) (
  R F.fettleref1_Reader_End #[t15] M9 fun t29 M11 =>
  OP (aun .not t29) fun t30 =>
  BR t30 (
  OP (bldS #[(.int .i64 0), (.int .i64 0), (.int .i64 0), (.int .i64 0)] [(0, 1), (1, 1), (2, 1), (3, 1)] []) fun t32_1 =>
  OP (st 4 t2 t32_1 M11) fun M12 =>
  OP (ld 4 true t2 M12) fun r2_1 =>
  NTs [r2_1, (.bool false)] ∧ Q (.tuple #[r2_1, (.bool false)]) M12
  ) (
  OP (ld 4 true t7 M11) fun t33 =>
  OP (st 4 t2 t33 M11) fun M13 =>
  OP (ld 4 true t2 M13) fun r2_2 =>
  NTs [r2_2, (.bool true)] ∧ Q (.tuple #[r2_2, (.bool true)]) M13
  )
  )
theorem T_fettleref10_OpenLock {x0 : Value} {M : Store} {Q : Value → Store → Prop} (h : S_fettleref10_OpenLock x0 M Q) : R F.fettleref10_OpenLock #[x0] M Q := by
  refine runs_of (c := bodyOf Try.f65) Try.func65 rfl (by kernel_rfl) (by kernel_rfl) ?_
  unfold At
  exact rule (B := 1000) (N := 34) (ct := .no)
    [⟨1, fun a M => kfin Try.prog Try.f65.results.toList Q 1 a M, fun a M => kfin Try.prog Try.f65.results.toList Q 1 a M⟩]
    [] [1] (by kernel_rfl) (by kernel_rfl) (by kernel_rfl) (by kernel_rfl) (by kernel_rfl)
    ⟨fun _ _ _ h => h,
    trivial⟩
    (cast (by kernel_rfl) h)
def S_fettleref10_OpenDone (x0 : Value) (M : Store) (Q : Value → Store → Prop) : Prop :=
  LT (.pointer (some ⟨M.n, 0, none⟩)) (M.push (some (.inl ([(.string ⟨#[]⟩), (.int .i64 0), (.int .i64 0), (.slice none 0 0)], Ty.api_Done, true)))) fun t2 M1 =>
  OP (bldS #[(.slice none 0 0), (.bool false)] [(0, 1), (1, 1)] [(0, x0)]) fun t7 =>
  OP (boxv t7) fun c =>
  LT (.pointer (some ⟨M1.n, 0, none⟩)) (M1.push (some (.inl (c, Ty.fettleref1_Reader, true)))) fun t8 M2 =>
  R F.fettleref1_Reader_Bytes #[t8, (.int .i64 16)] M2 fun t10 M3 =>
  OP (cvBS t10 M3) fun t11 =>
  OP (bldS #[(.string ⟨#[]⟩), (.int .i64 0), (.int .i64 0), (.slice none 0 0)] [(0, 1), (1, 1), (2, 1), (3, 1)] [(0, t11)]) fun t12 =>
  LT (.pointer (some ⟨M3.n, 0, none⟩)) (M3.push (some (.inl ([(.string ⟨#[]⟩), (.int .i64 0), (.int .i64 0), (.slice none 0 0)], Ty.api_Done, true)))) fun t5 M4 =>
  OP (st 4 t5 t12 M4) fun M5 =>
  R F.fettleref1_Reader_Bytes #[t8, (.int .i64 4000)] M5 fun t14 M6 =>
  OP (fad 3 t5) fun t15 =>
  OP (st 1 t15 t14 M6) fun M7 =>
  R F.fettleref1_Reader_Num #[t8, (.int .i64 1099511627776)] M7 fun t17 M8 =>
  R F.fettleref1_Reader_Num #[t8, (.int .i64 1099511627776)] M8 fun t19 M9 =>
  OP (fad 1 t5) fun t20 =>
  OP (st 1 t20 t17 M9) fun M10 =>
  OP (fad 2 t5) fun t21 =>
  OP (st 1 t21 t19 M10) fun M11 =>
  R F.fettleref1_Reader_End #[t8] M11 fun t23 M12 =>
  OP (aun .not t23) fun t24 =>
  BR t24 (
  OP (bldS #[(.string ⟨#[]⟩), (.int .i64 0), (.int .i64 0), (.slice none 0 0)] [(0, 1), (1, 1), (2, 1), (3, 1)] []) fun t31 =>
  OP (st 4 t2 t31 M12) fun M13 =>
  OP (ld 4 true t2 M13) fun r2 =>
  NTs [r2, (.bool false)] ∧ Q (.tuple #[r2, (.bool false)]) M13
  ) (
  OP (fad 0 t5) fun t26 =>
  OP (ld 1 false t26 M12) fun t27 =>
  R F.fettleref4_Ok #[t27] M12 fun t28 M14 =>
  OP (aun .not t28) fun t29 =>
  BR t29 (
  OP (bldS #[(.string ⟨#[]⟩), (.int .i64 0), (.int .i64 0), (.slice none 0 0)] [(0, 1), (1, 1), (2, 1), (3, 1)] []) fun t31_1 =>
  OP (st 4 t2 t31_1 M14) fun M15 =>
  OP (ld 4 true t2 M15) fun r2_1 =>
  NTs [r2_1, (.bool false)] ∧ Q (.tuple #[r2_1, (.bool false)]) M15
  ) (
  OP (ld 4 true t5 M14) fun t32 =>
  OP (st 4 t2 t32 M14) fun M16 =>
  OP (ld 4 true t2 M16) fun r2_2 =>
  NTs [r2_2, (.bool true)] ∧ Q (.tuple #[r2_2, (.bool true)]) M16
  )
  )
theorem T_fettleref10_OpenDone {x0 : Value} {M : Store} {Q : Value → Store → Prop} (h : S_fettleref10_OpenDone x0 M Q) : R F.fettleref10_OpenDone #[x0] M Q := by
  refine runs_of (c := bodyOf Try.f66) Try.func66 rfl (by kernel_rfl) (by kernel_rfl) ?_
  unfold At
  exact rule (B := 1000) (N := 33) (ct := .no)
    [⟨1, fun a M => kfin Try.prog Try.f66.results.toList Q 1 a M, fun a M => kfin Try.prog Try.f66.results.toList Q 1 a M⟩]
    [] [1] (by kernel_rfl) (by kernel_rfl) (by kernel_rfl) (by kernel_rfl) (by kernel_rfl)
    ⟨fun _ _ _ h => h,
    trivial⟩
    (cast (by kernel_rfl) h)
def P_reco_Trace_1 (x0 x5 x6 x16 x17 x18 : Value) (M : Store) (Q : Value → Store → Prop) : Prop :=
  ∀ f : Nat → Value, f 0 = x0 → f 5 = x5 → f 6 = x6 → f 16 = x16 → f 17 = x17 → f 18 = x18 → At Try.prog Ex none Try.f67 [1, 1, 1, 0, 1, 0] ⟨⟨41, f⟩, []⟩ M Q
def P_reco_Trace_2 (x0 x5 x6 x16 x17 x18 : Value) (M : Store) (Q : Value → Store → Prop) : Prop :=
  ∀ f : Nat → Value, f 0 = x0 → f 5 = x5 → f 6 = x6 → f 16 = x16 → f 17 = x17 → f 18 = x18 → At Try.prog Ex none Try.f67 [1, 1, 1, 0, 1, 0, 0, 1, 1] ⟨⟨41, f⟩, []⟩ M Q
def P_reco_Trace_3 (x5 x6 : Value) (M : Store) (Q : Value → Store → Prop) : Prop :=
  ∀ f : Nat → Value, f 5 = x5 → f 6 = x6 → At Try.prog Ex none Try.f67 [1, 1, 1, 1] ⟨⟨41, f⟩, []⟩ M Q
def S_reco_Trace (x0 : Value) (M : Store) (Q : Value → Store → Prop) : Prop :=
  R F.fram_Scan #[x0] M fun t13 M1 =>
  OP (tup t13 0) fun t14 =>
  OP (tup t13 1) fun t15 =>
  OP (lenV t14) fun t17 =>
  P_reco_Trace_1 x0 t15 (.slice none 0 0) t14 t17 (.int .i64 0) M1 Q
theorem T_reco_Trace {x0 : Value} {M : Store} {Q : Value → Store → Prop} (h : S_reco_Trace x0 M Q) : R F.reco_Trace #[x0] M Q := by
  refine runs_of (c := bodyOf Try.f67) Try.func67 rfl (by kernel_rfl) (by kernel_rfl) ?_
  unfold At
  exact rule (B := 1000) (N := 41) (ct := (.two .no (.two .no (.two .no (.two (.two .no (.two (.here 1000) .no)) (.here 1001))))))
    [⟨1002, fun a M => dfr a.defers (P_reco_Trace_1 (a.get 0) (a.get 5) (a.get 6) (a.get 16) (a.get 17) (a.get 18) M Q), fun a M => At Try.prog Ex none Try.f67 [1, 1, 1, 0, 1, 0] a M Q⟩,
    ⟨1003, fun _ _ => False, fun a M => At Try.prog Ex none Try.f67 [1, 1, 1, 1] a M Q⟩]
    [1000, 1001] [] (by kernel_rfl) (by kernel_rfl) (by kernel_rfl) (by kernel_rfl) (by kernel_rfl)
    ⟨fun a M hn h => by obtain ⟨⟨n, f⟩, ds⟩ := a; have hn : n = 41 := hn; subst hn; obtain ⟨hd, h⟩ := dfr_iff h; have hd : ds = [] := hd; subst hd; exact h f rfl rfl rfl rfl rfl rfl,
    fun _ _ _ h => h.elim,
    trivial⟩
    (cast (by kernel_rfl) h)
def S_reco_Trace_1 (x0 x5 x6 x16 x17 x18 : Value) (M : Store) (Q : Value → Store → Prop) : Prop :=
  OP (binI .lss x18 x17) fun t19 =>
  BR t19 (
  P_reco_Trace_2 x0 x5 x6 x16 x17 x18 M Q
  ) (
  P_reco_Trace_3 x5 x6 M Q
  )
theorem T_reco_Trace_1 {x0 x5 x6 x16 x17 x18 : Value} {M : Store} {Q : Value → Store → Prop} (h : S_reco_Trace_1 x0 x5 x6 x16 x17 x18 M Q) : P_reco_Trace_1 x0 x5 x6 x16 x17 x18 M Q := by
  intro f h0 h5 h6 h16 h17 h18; subst h0; subst h5; subst h6; subst h16; subst h17; subst h18
  unfold At
  refine cast (by kernel_rfl) (CW.loop (P := Try.prog) (E := Ex) (rd := none) (x := sub (bodyOf Try.f67) [1, 1, 1, 0, 1, 0, 0]) (a := ⟨⟨41, f⟩, []⟩) (M := M) (K := kcont Try.prog Ex none (bodyOf Try.f67) [1, 1, 1, 0, 1, 0] (kfin Try.prog Try.f67.results.toList Q)) ?_)
  exact rule (B := 1000) (N := 41) (ct := (.two .no (.two .no (.here 1000))))
    [⟨1002, fun a M => dfr a.defers (P_reco_Trace_2 (a.get 0) (a.get 5) (a.get 6) (a.get 16) (a.get 17) (a.get 18) M Q), fun a M => At Try.prog Ex none Try.f67 [1, 1, 1, 0, 1, 0, 0, 1, 1] a M Q⟩,
    ⟨2, fun a M => dfr a.defers (P_reco_Trace_3 (a.get 5) (a.get 6) M Q), fun a M => At Try.prog Ex none Try.f67 [1, 1, 1, 1] a M Q⟩]
    [1000] [2] (by kernel_rfl) (by kernel_rfl) (by kernel_rfl) (by kernel_rfl) (by kernel_rfl)
    ⟨fun a M hn h => by obtain ⟨⟨n, f⟩, ds⟩ := a; have hn : n = 41 := hn; subst hn; obtain ⟨hd, h⟩ := dfr_iff h; have hd : ds = [] := hd; subst hd; exact h f rfl rfl rfl rfl rfl rfl,
    fun a M hn h => by obtain ⟨⟨n, f⟩, ds⟩ := a; have hn : n = 41 := hn; subst hn; obtain ⟨hd, h⟩ := dfr_iff h; have hd : ds = [] := hd; subst hd; exact h f rfl rfl,
    trivial⟩
    (cast (by kernel_rfl) h)
def S_reco_Trace_2 (x0 x5 x6 x16 x17 x18 : Value) (M : Store) (Q : Value → Store → Prop) : Prop :=
  OP (ixA 1 x16 x18) fun t21 =>
  OP (ld 1 false t21 M) fun t22 =>
  R F.reco_OpenDone #[t22] M fun t25 M1 =>
  OP (tup t25 0) fun t26 =>
  OP (tup t25 1) fun t27 =>
  LT (.pointer (some ⟨M1.n, 0, none⟩)) (M1.push (some (.inl ([(.string ⟨#[]⟩), (.int .i64 0), (.int .i64 0), (.slice none 0 0)], Ty.api_Done, true)))) fun t9 M2 =>
  OP (st 4 t9 t26 M2) fun M3 =>
  OP (aun .not t27) fun t29 =>
  BR t29 (
  R F.reco_begins #[x0, x18] M3 fun t33 M4 =>
  NTs [x6, t33] ∧ Q (.tuple #[x6, t33]) M4
  ) (
  OP (ld 4 true t9 M3) fun t35 =>
  OP (bldL (.agg #[(.string ⟨#[]⟩), (.int .i64 0), (.int .i64 0), (.slice none 0 0)]) 4 1 [(0, t35)]) fun c =>
  LT (.slice (some ⟨M3.n, 0, none⟩) 1 1) (M3.push (some (.inl (c, Ty.api_Done, true)))) fun t36 M5 =>
  OP2 (appV 4 Ty.api_Done x6 t36 M5) fun t37 M6 =>
  OP (binI .add x18 (.int .i64 1)) fun t38 =>
  P_reco_Trace_1 x0 x5 t37 x16 x17 t38 M6 Q
  )
theorem T_reco_Trace_2 {x0 x5 x6 x16 x17 x18 : Value} {M : Store} {Q : Value → Store → Prop} (h : S_reco_Trace_2 x0 x5 x6 x16 x17 x18 M Q) : P_reco_Trace_2 x0 x5 x6 x16 x17 x18 M Q := by
  intro f h0 h5 h6 h16 h17 h18; subst h0; subst h5; subst h6; subst h16; subst h17; subst h18
  unfold At
  exact rule (B := 1000) (N := 41) (ct := .no)
    [⟨0, fun a M => dfr a.defers (P_reco_Trace_1 (a.get 0) (a.get 5) (a.get 6) (a.get 16) (a.get 17) (a.get 18) M Q), fun a M => At Try.prog Ex none Try.f67 [1, 1, 1, 0, 1, 0] a M Q⟩,
    ⟨1, fun a M => kfin Try.prog Try.f67.results.toList Q 1 a M, fun a M => kfin Try.prog Try.f67.results.toList Q 1 a M⟩]
    [] [0, 1] (by kernel_rfl) (by kernel_rfl) (by kernel_rfl) (by kernel_rfl) (by kernel_rfl)
    ⟨fun a M hn h => by obtain ⟨⟨n, f⟩, ds⟩ := a; have hn : n = 41 := hn; subst hn; obtain ⟨hd, h⟩ := dfr_iff h; have hd : ds = [] := hd; subst hd; exact h f rfl rfl rfl rfl rfl rfl,
    fun _ _ _ h => h,
    trivial⟩
    (cast (by kernel_rfl) h)
def S_reco_Trace_3 (x5 x6 : Value) (M : Store) (Q : Value → Store → Prop) : Prop :=
  NTs [x6, x5] ∧ Q (.tuple #[x6, x5]) M
theorem T_reco_Trace_3 {x5 x6 : Value} {M : Store} {Q : Value → Store → Prop} (h : S_reco_Trace_3 x5 x6 M Q) : P_reco_Trace_3 x5 x6 M Q := by
  intro f h5 h6; subst h5; subst h6
  unfold At
  exact rule (B := 1000) (N := 41) (ct := .no)
    [⟨1, fun a M => kfin Try.prog Try.f67.results.toList Q 1 a M, fun a M => kfin Try.prog Try.f67.results.toList Q 1 a M⟩]
    [] [1] (by kernel_rfl) (by kernel_rfl) (by kernel_rfl) (by kernel_rfl) (by kernel_rfl)
    ⟨fun _ _ _ h => h,
    trivial⟩
    (cast (by kernel_rfl) h)
def P_fettleref10_Trace_1 (x4 x6 x7 x8 : Value) (M : Store) (Q : Value → Store → Prop) : Prop :=
  ∀ f : Nat → Value, f 4 = x4 → f 6 = x6 → f 7 = x7 → f 8 = x8 → At Try.prog Ex none Try.f68 [1, 1, 1, 1, 0, 1, 0] ⟨⟨48, f⟩, []⟩ M Q
def P_fettleref10_Trace_2 (x4 x6 x7 x8 : Value) (M : Store) (Q : Value → Store → Prop) : Prop :=
  ∀ f : Nat → Value, f 4 = x4 → f 6 = x6 → f 7 = x7 → f 8 = x8 → At Try.prog Ex none Try.f68 [1, 1, 1, 1, 0, 1, 0, 0, 1] ⟨⟨48, f⟩, []⟩ M Q
def P_fettleref10_Trace_3 (x6 x7 : Value) (M : Store) (Q : Value → Store → Prop) : Prop :=
  ∀ f : Nat → Value, f 6 = x6 → f 7 = x7 → At Try.prog Ex none Try.f68 [1, 1, 1, 1, 1] ⟨⟨48, f⟩, []⟩ M Q
def S_fettleref10_Trace (x0 : Value) (M : Store) (Q : Value → Store → Prop) : Prop :=
  R F.fettleref1_Scan #[x0] M fun t13 M1 =>
  OP (tup t13 0) fun t14 =>
  OP (tup t13 1) fun t15 =>
  P_fettleref10_Trace_1 t14 (.slice none 0 0) (.int .i64 0) (.int .i64 0) M1 Q
theorem T_fettleref10_Trace {x0 : Value} {M : Store} {Q : Value → Store → Prop} (h : S_fettleref10_Trace x0 M Q) : R F.fettleref10_Trace #[x0] M Q := by
  refine runs_of (c := bodyOf Try.f68) Try.func68 rfl (by kernel_rfl) (by kernel_rfl) ?_
  unfold At
  exact rule (B := 1000) (N := 48) (ct := (.two .no (.two .no (.two .no (.two .no (.two (.two .no (.two (.here 1000) .no)) (.here 1001)))))))
    [⟨1002, fun a M => dfr a.defers (P_fettleref10_Trace_1 (a.get 4) (a.get 6) (a.get 7) (a.get 8) M Q), fun a M => At Try.prog Ex none Try.f68 [1, 1, 1, 1, 0, 1, 0] a M Q⟩,
    ⟨1003, fun _ _ => False, fun a M => At Try.prog Ex none Try.f68 [1, 1, 1, 1, 1] a M Q⟩]
    [1000, 1001] [] (by kernel_rfl) (by kernel_rfl) (by kernel_rfl) (by kernel_rfl) (by kernel_rfl)
    ⟨fun a M hn h => by obtain ⟨⟨n, f⟩, ds⟩ := a; have hn : n = 48 := hn; subst hn; obtain ⟨hd, h⟩ := dfr_iff h; have hd : ds = [] := hd; subst hd; exact h f rfl rfl rfl rfl,
    fun _ _ _ h => h.elim,
    trivial⟩
    (cast (by kernel_rfl) h)
def S_fettleref10_Trace_1 (x4 x6 x7 x8 : Value) (M : Store) (Q : Value → Store → Prop) : Prop :=
  OP (lenV x4) fun t18 =>
  OP (binI .lss x8 t18) fun t19 =>
  BR t19 (
  P_fettleref10_Trace_2 x4 x6 x7 x8 M Q
  ) (
  P_fettleref10_Trace_3 x6 x7 M Q
  )
theorem T_fettleref10_Trace_1 {x4 x6 x7 x8 : Value} {M : Store} {Q : Value → Store → Prop} (h : S_fettleref10_Trace_1 x4 x6 x7 x8 M Q) : P_fettleref10_Trace_1 x4 x6 x7 x8 M Q := by
  intro f h4 h6 h7 h8; subst h4; subst h6; subst h7; subst h8
  unfold At
  refine cast (by kernel_rfl) (CW.loop (P := Try.prog) (E := Ex) (rd := none) (x := sub (bodyOf Try.f68) [1, 1, 1, 1, 0, 1, 0, 0]) (a := ⟨⟨48, f⟩, []⟩) (M := M) (K := kcont Try.prog Ex none (bodyOf Try.f68) [1, 1, 1, 1, 0, 1, 0] (kfin Try.prog Try.f68.results.toList Q)) ?_)
  exact rule (B := 1000) (N := 48) (ct := (.two .no (.here 1000)))
    [⟨1002, fun a M => dfr a.defers (P_fettleref10_Trace_2 (a.get 4) (a.get 6) (a.get 7) (a.get 8) M Q), fun a M => At Try.prog Ex none Try.f68 [1, 1, 1, 1, 0, 1, 0, 0, 1] a M Q⟩,
    ⟨2, fun a M => dfr a.defers (P_fettleref10_Trace_3 (a.get 6) (a.get 7) M Q), fun a M => At Try.prog Ex none Try.f68 [1, 1, 1, 1, 1] a M Q⟩]
    [1000] [2] (by kernel_rfl) (by kernel_rfl) (by kernel_rfl) (by kernel_rfl) (by kernel_rfl)
    ⟨fun a M hn h => by obtain ⟨⟨n, f⟩, ds⟩ := a; have hn : n = 48 := hn; subst hn; obtain ⟨hd, h⟩ := dfr_iff h; have hd : ds = [] := hd; subst hd; exact h f rfl rfl rfl rfl,
    fun a M hn h => by obtain ⟨⟨n, f⟩, ds⟩ := a; have hn : n = 48 := hn; subst hn; obtain ⟨hd, h⟩ := dfr_iff h; have hd : ds = [] := hd; subst hd; exact h f rfl rfl,
    trivial⟩
    (cast (by kernel_rfl) h)
def S_fettleref10_Trace_2 (x4 x6 x7 x8 : Value) (M : Store) (Q : Value → Store → Prop) : Prop :=
  OP (ixA 1 x4 x8) fun t25 =>
  OP (ld 1 false t25 M) fun t26 =>
  R F.fettleref10_OpenDone #[t26] M fun t27 M1 =>
  OP (tup t27 0) fun t28 =>
  OP (tup t27 1) fun t29 =>
  LT (.pointer (some ⟨M1.n, 0, none⟩)) (M1.push (some (.inl ([(.string ⟨#[]⟩), (.int .i64 0), (.int .i64 0), (.slice none 0 0)], Ty.api_Done, true)))) fun t9 M2 =>
  OP (st 4 t9 t28 M2) fun M3 =>
  OP (aun .not t29) fun t31 =>
  BR t31 (
  NTs [x6, x7] ∧ Q (.tuple #[x6, x7]) M3
  ) (
  OP (ld 4 true t9 M3) fun t35 =>
  OP (bldL (.agg #[(.string ⟨#[]⟩), (.int .i64 0), (.int .i64 0), (.slice none 0 0)]) 4 1 [(0, t35)]) fun c =>
  LT (.slice (some ⟨M3.n, 0, none⟩) 1 1) (M3.push (some (.inl (c, Ty.api_Done, true)))) fun t36 M4 =>
  OP2 (appV 4 Ty.api_Done x6 t36 M4) fun t37 M5 =>
  OP (binI .add x7 (.int .i64 10)) fun t39 =>
  OP (ixA 1 x4 x8) fun t42 =>
  OP (ld 1 false t42 M5) fun t43 =>
  OP (lenV t43) fun t44 =>
  OP (binI .add t39 t44) fun t45 =>
  OP (binI .add x8 (.int .i64 1)) fun t21 =>
  P_fettleref10_Trace_1 x4 t37 t45 t21 M5 Q
  )
theorem T_fettleref10_Trace_2 {x4 x6 x7 x8 : Value} {M : Store} {Q : Value → Store → Prop} (h : S_fettleref10_Trace_2 x4 x6 x7 x8 M Q) : P_fettleref10_Trace_2 x4 x6 x7 x8 M Q := by
  intro f h4 h6 h7 h8; subst h4; subst h6; subst h7; subst h8
  unfold At
  exact rule (B := 1000) (N := 48) (ct := .no)
    [⟨0, fun a M => dfr a.defers (P_fettleref10_Trace_1 (a.get 4) (a.get 6) (a.get 7) (a.get 8) M Q), fun a M => At Try.prog Ex none Try.f68 [1, 1, 1, 1, 0, 1, 0] a M Q⟩,
    ⟨1, fun a M => kfin Try.prog Try.f68.results.toList Q 1 a M, fun a M => kfin Try.prog Try.f68.results.toList Q 1 a M⟩]
    [] [0, 1] (by kernel_rfl) (by kernel_rfl) (by kernel_rfl) (by kernel_rfl) (by kernel_rfl)
    ⟨fun a M hn h => by obtain ⟨⟨n, f⟩, ds⟩ := a; have hn : n = 48 := hn; subst hn; obtain ⟨hd, h⟩ := dfr_iff h; have hd : ds = [] := hd; subst hd; exact h f rfl rfl rfl rfl,
    fun _ _ _ h => h,
    trivial⟩
    (cast (by kernel_rfl) h)
def S_fettleref10_Trace_3 (x6 x7 : Value) (M : Store) (Q : Value → Store → Prop) : Prop :=
  NTs [x6, x7] ∧ Q (.tuple #[x6, x7]) M
theorem T_fettleref10_Trace_3 {x6 x7 : Value} {M : Store} {Q : Value → Store → Prop} (h : S_fettleref10_Trace_3 x6 x7 M Q) : P_fettleref10_Trace_3 x6 x7 M Q := by
  intro f h6 h7; subst h6; subst h7
  unfold At
  exact rule (B := 1000) (N := 48) (ct := .no)
    [⟨1, fun a M => kfin Try.prog Try.f68.results.toList Q 1 a M, fun a M => kfin Try.prog Try.f68.results.toList Q 1 a M⟩]
    [] [1] (by kernel_rfl) (by kernel_rfl) (by kernel_rfl) (by kernel_rfl) (by kernel_rfl)
    ⟨fun _ _ _ h => h,
    trivial⟩
    (cast (by kernel_rfl) h)
def P_fettleref10_SameDones_1 (x0 x1 x5 : Value) (M : Store) (Q : Value → Store → Prop) : Prop :=
  ∀ f : Nat → Value, f 0 = x0 → f 1 = x1 → f 5 = x5 → At Try.prog Ex none Try.f69 [1, 1, 0, 1, 0] ⟨⟨27, f⟩, []⟩ M Q
def P_fettleref10_SameDones_2 (x0 x1 x5 : Value) (M : Store) (Q : Value → Store → Prop) : Prop :=
  ∀ f : Nat → Value, f 0 = x0 → f 1 = x1 → f 5 = x5 → At Try.prog Ex none Try.f69 [1, 1, 0, 1, 0, 0, 1] ⟨⟨27, f⟩, []⟩ M Q
def P_fettleref10_SameDones_3 (M : Store) (Q : Value → Store → Prop) : Prop :=
  ∀ f : Nat → Value, At Try.prog Ex none Try.f69 [1, 1, 1] ⟨⟨27, f⟩, []⟩ M Q
def S_fettleref10_SameDones (x0 x1 : Value) (M : Store) (Q : Value → Store → Prop) : Prop :=
  OP (lenV x0) fun t7 =>
  OP (lenV x1) fun t9 =>
  OP (binI .neq t7 t9) fun t10 =>
  BR t10 (
  NTs [(.bool false)] ∧ Q (.bool false) M
  ) (
  P_fettleref10_SameDones_1 x0 x1 (.int .i64 0) M Q
  )
theorem T_fettleref10_SameDones {x0 x1 : Value} {M : Store} {Q : Value → Store → Prop} (h : S_fettleref10_SameDones x0 x1 M Q) : R F.fettleref10_SameDones #[x0, x1] M Q := by
  refine runs_of (c := bodyOf Try.f69) Try.func69 rfl (by kernel_rfl) (by kernel_rfl) ?_
  unfold At
  exact rule (B := 1000) (N := 27) (ct := (.two .no (.two .no (.two (.two .no (.two (.here 1000) .no)) (.here 1001)))))
    [⟨1002, fun a M => dfr a.defers (P_fettleref10_SameDones_1 (a.get 0) (a.get 1) (a.get 5) M Q), fun a M => At Try.prog Ex none Try.f69 [1, 1, 0, 1, 0] a M Q⟩,
    ⟨1003, fun _ _ => False, fun a M => At Try.prog Ex none Try.f69 [1, 1, 1] a M Q⟩,
    ⟨1, fun a M => kfin Try.prog Try.f69.results.toList Q 1 a M, fun a M => kfin Try.prog Try.f69.results.toList Q 1 a M⟩]
    [1000, 1001] [1] (by kernel_rfl) (by kernel_rfl) (by kernel_rfl) (by kernel_rfl) (by kernel_rfl)
    ⟨fun a M hn h => by obtain ⟨⟨n, f⟩, ds⟩ := a; have hn : n = 27 := hn; subst hn; obtain ⟨hd, h⟩ := dfr_iff h; have hd : ds = [] := hd; subst hd; exact h f rfl rfl rfl,
    fun _ _ _ h => h.elim,
    fun _ _ _ h => h,
    trivial⟩
    (cast (by kernel_rfl) h)
def S_fettleref10_SameDones_1 (x0 x1 x5 : Value) (M : Store) (Q : Value → Store → Prop) : Prop :=
  OP (lenV x0) fun t13 =>
  OP (binI .lss x5 t13) fun t14 =>
  BR t14 (
  P_fettleref10_SameDones_2 x0 x1 x5 M Q
  ) (
  P_fettleref10_SameDones_3 M Q
  )
theorem T_fettleref10_SameDones_1 {x0 x1 x5 : Value} {M : Store} {Q : Value → Store → Prop} (h : S_fettleref10_SameDones_1 x0 x1 x5 M Q) : P_fettleref10_SameDones_1 x0 x1 x5 M Q := by
  intro f h0 h1 h5; subst h0; subst h1; subst h5
  unfold At
  refine cast (by kernel_rfl) (CW.loop (P := Try.prog) (E := Ex) (rd := none) (x := sub (bodyOf Try.f69) [1, 1, 0, 1, 0, 0]) (a := ⟨⟨27, f⟩, []⟩) (M := M) (K := kcont Try.prog Ex none (bodyOf Try.f69) [1, 1, 0, 1, 0] (kfin Try.prog Try.f69.results.toList Q)) ?_)
  exact rule (B := 1000) (N := 27) (ct := (.two .no (.here 1000)))
    [⟨1002, fun a M => dfr a.defers (P_fettleref10_SameDones_2 (a.get 0) (a.get 1) (a.get 5) M Q), fun a M => At Try.prog Ex none Try.f69 [1, 1, 0, 1, 0, 0, 1] a M Q⟩,
    ⟨2, fun a M => dfr a.defers (P_fettleref10_SameDones_3 M Q), fun a M => At Try.prog Ex none Try.f69 [1, 1, 1] a M Q⟩]
    [1000] [2] (by kernel_rfl) (by kernel_rfl) (by kernel_rfl) (by kernel_rfl) (by kernel_rfl)
    ⟨fun a M hn h => by obtain ⟨⟨n, f⟩, ds⟩ := a; have hn : n = 27 := hn; subst hn; obtain ⟨hd, h⟩ := dfr_iff h; have hd : ds = [] := hd; subst hd; exact h f rfl rfl rfl,
    fun a M hn h => by obtain ⟨⟨n, f⟩, ds⟩ := a; have hn : n = 27 := hn; subst hn; obtain ⟨hd, h⟩ := dfr_iff h; have hd : ds = [] := hd; subst hd; exact h f,
    trivial⟩
    (cast (by kernel_rfl) h)
def S_fettleref10_SameDones_2 (x0 x1 x5 : Value) (M : Store) (Q : Value → Store → Prop) : Prop :=
  OP (ixA 4 x0 x5) fun t19 =>
  OP (ld 4 true t19 M) fun t20 =>
  OP (ixA 4 x1 x5) fun t23 =>
  OP (ld 4 true t23 M) fun t24 =>
  R F.fettleref10_SameDone #[t20, t24] M fun t25 M1 =>
  TDx [0, 0, 3, 7, 0, 0, 48, 112, 255, 511] [M.n, M.n, M.n, M.n, M.n, M.n, M.n, M.n, M.n] 8 M M1 ∧
  OP (aun .not t25) fun t26 =>
  BR t26 (
  NTs [(.bool false)] ∧ Q (.bool false) M1
  ) (
  OP (binI .add x5 (.int .i64 1)) fun t16 =>
  P_fettleref10_SameDones_1 x0 x1 t16 M1 Q
  )
theorem T_fettleref10_SameDones_2 {x0 x1 x5 : Value} {M : Store} {Q : Value → Store → Prop} (h : S_fettleref10_SameDones_2 x0 x1 x5 M Q) : P_fettleref10_SameDones_2 x0 x1 x5 M Q := by
  intro f h0 h1 h5; subst h0; subst h1; subst h5
  unfold At
  exact rule (B := 1000) (N := 27) (ct := .no)
    [⟨0, fun a M => dfr a.defers (P_fettleref10_SameDones_1 (a.get 0) (a.get 1) (a.get 5) M Q), fun a M => At Try.prog Ex none Try.f69 [1, 1, 0, 1, 0] a M Q⟩,
    ⟨1, fun a M => kfin Try.prog Try.f69.results.toList Q 1 a M, fun a M => kfin Try.prog Try.f69.results.toList Q 1 a M⟩]
    [] [0, 1] (by kernel_rfl) (by kernel_rfl) (by kernel_rfl) (by kernel_rfl) (by kernel_rfl)
    ⟨fun a M hn h => by obtain ⟨⟨n, f⟩, ds⟩ := a; have hn : n = 27 := hn; subst hn; obtain ⟨hd, h⟩ := dfr_iff h; have hd : ds = [] := hd; subst hd; exact h f rfl rfl rfl,
    fun _ _ _ h => h,
    trivial⟩
    (cast (by kernel_rfl) h)
def S_fettleref10_SameDones_3 (M : Store) (Q : Value → Store → Prop) : Prop :=
  NTs [(.bool true)] ∧ Q (.bool true) M
theorem T_fettleref10_SameDones_3 {M : Store} {Q : Value → Store → Prop} (h : S_fettleref10_SameDones_3 M Q) : P_fettleref10_SameDones_3 M Q := by
  intro f 
  unfold At
  exact rule (B := 1000) (N := 27) (ct := .no)
    [⟨1, fun a M => kfin Try.prog Try.f69.results.toList Q 1 a M, fun a M => kfin Try.prog Try.f69.results.toList Q 1 a M⟩]
    [] [1] (by kernel_rfl) (by kernel_rfl) (by kernel_rfl) (by kernel_rfl) (by kernel_rfl)
    ⟨fun _ _ _ h => h,
    trivial⟩
    (cast (by kernel_rfl) h)
def S_reco_right (x0 : Value) (M : Store) (Q : Value → Store → Prop) : Prop :=
  OP (boxv x0) fun c =>
  LT (.pointer (some ⟨M.n, 0, none⟩)) (M.push (some (.inl (c, Ty.api_Done, true)))) fun t1 M1 =>
  OP (fad 0 t1) fun t3 =>
  OP (ld 1 false t3 M1) fun t4 =>
  R F.name_Ok #[t4] M1 fun t5 M2 =>
  BR t5 (
  OP (fad 3 t1) fun t7 =>
  OP (ld 1 false t7 M2) fun t8 =>
  OP (lenV t8) fun t9 =>
  OP (binI .leq t9 (.int .i64 4000)) fun t10 =>
  BR t10 (
  OP (fad 1 t1) fun t13 =>
  OP (ld 1 false t13 M2) fun t14 =>
  R F.reco_num #[t14] M2 fun t15 M3 =>
  BR t15 (
  OP (fad 2 t1) fun t18 =>
  OP (ld 1 false t18 M3) fun t19 =>
  R F.reco_num #[t19] M3 fun t20 M4 =>
  NTs [t20] ∧ Q t20 M4
  ) (
  NTs [(.bool false)] ∧ Q (.bool false) M3
  )
  ) (
  NTs [(.bool false)] ∧ Q (.bool false) M2
  )
  ) (
  NTs [(.bool false)] ∧ Q (.bool false) M2
  )
theorem T_reco_right {x0 : Value} {M : Store} {Q : Value → Store → Prop} (h : S_reco_right x0 M Q) : R F.reco_right #[x0] M Q := by
  refine runs_of (c := bodyOf Try.f102) Try.func102 rfl (by kernel_rfl) (by kernel_rfl) ?_
  unfold At
  exact rule (B := 1000) (N := 22) (ct := .no)
    [⟨1, fun a M => kfin Try.prog Try.f102.results.toList Q 1 a M, fun a M => kfin Try.prog Try.f102.results.toList Q 1 a M⟩]
    [] [1] (by kernel_rfl) (by kernel_rfl) (by kernel_rfl) (by kernel_rfl) (by kernel_rfl)
    ⟨fun _ _ _ h => h,
    trivial⟩
    (cast (by kernel_rfl) h)
def S_reco_alone (x0 : Value) (M : Store) (Q : Value → Store → Prop) : Prop :=
  R F.fram_Scan #[x0] M fun t8 M1 =>
  OP (tup t8 0) fun t9 =>
  OP (tup t8 1) fun t10 =>
  OP (lenV t9) fun t12 =>
  OP (binI .neq t12 (.int .i64 1)) fun t13 =>
  BR t13 (
  NTs [(.slice none 0 0), (.bool false)] ∧ Q (.tuple #[(.slice none 0 0), (.bool false)]) M1
  ) (
  OP (lenV x0) fun t17 =>
  OP (binI .neq t10 t17) fun t18 =>
  BR t18 (
  NTs [(.slice none 0 0), (.bool false)] ∧ Q (.tuple #[(.slice none 0 0), (.bool false)]) M1
  ) (
  OP (ixA 1 t9 (.int .i64 0)) fun t21 =>
  OP (ld 1 false t21 M1) fun t22 =>
  NTs [t22, (.bool true)] ∧ Q (.tuple #[t22, (.bool true)]) M1
  )
  )
theorem T_reco_alone {x0 : Value} {M : Store} {Q : Value → Store → Prop} (h : S_reco_alone x0 M Q) : R F.reco_alone #[x0] M Q := by
  refine runs_of (c := bodyOf Try.f105) Try.func105 rfl (by kernel_rfl) (by kernel_rfl) ?_
  unfold At
  exact rule (B := 1000) (N := 23) (ct := .no)
    [⟨1, fun a M => kfin Try.prog Try.f105.results.toList Q 1 a M, fun a M => kfin Try.prog Try.f105.results.toList Q 1 a M⟩]
    [] [1] (by kernel_rfl) (by kernel_rfl) (by kernel_rfl) (by kernel_rfl) (by kernel_rfl)
    ⟨fun _ _ _ h => h,
    trivial⟩
    (cast (by kernel_rfl) h)
def P_fettleref4_Ok_1 (x0 x3 : Value) (M : Store) (Q : Value → Store → Prop) : Prop :=
  ∀ f : Nat → Value, f 0 = x0 → f 3 = x3 → At Try.prog Ex none Try.f106 [1, 0, 1, 0] ⟨⟨49, f⟩, []⟩ M Q
def P_fettleref4_Ok_2 (x0 x3 : Value) (M : Store) (Q : Value → Store → Prop) : Prop :=
  ∀ f : Nat → Value, f 0 = x0 → f 3 = x3 → At Try.prog Ex none Try.f106 [1, 0, 1, 0, 0, 1] ⟨⟨49, f⟩, []⟩ M Q
def P_fettleref4_Ok_3 (x0 : Value) (M : Store) (Q : Value → Store → Prop) : Prop :=
  ∀ f : Nat → Value, f 0 = x0 → At Try.prog Ex none Try.f106 [1, 1] ⟨⟨49, f⟩, []⟩ M Q
def S_fettleref4_Ok (x0 : Value) (M : Store) (Q : Value → Store → Prop) : Prop :=
  P_fettleref4_Ok_1 x0 (.int .i64 0) M Q
theorem T_fettleref4_Ok {x0 : Value} {M : Store} {Q : Value → Store → Prop} (h : S_fettleref4_Ok x0 M Q) : R F.fettleref4_Ok #[x0] M Q := by
  refine runs_of (c := bodyOf Try.f106) Try.func106 rfl (by kernel_rfl) (by kernel_rfl) ?_
  unfold At
  exact rule (B := 1000) (N := 49) (ct := (.two .no (.two (.two .no (.two (.here 1000) .no)) (.here 1001))))
    [⟨1002, fun a M => dfr a.defers (P_fettleref4_Ok_1 (a.get 0) (a.get 3) M Q), fun a M => At Try.prog Ex none Try.f106 [1, 0, 1, 0] a M Q⟩,
    ⟨1003, fun _ _ => False, fun a M => At Try.prog Ex none Try.f106 [1, 1] a M Q⟩]
    [1000, 1001] [] (by kernel_rfl) (by kernel_rfl) (by kernel_rfl) (by kernel_rfl) (by kernel_rfl)
    ⟨fun a M hn h => by obtain ⟨⟨n, f⟩, ds⟩ := a; have hn : n = 49 := hn; subst hn; obtain ⟨hd, h⟩ := dfr_iff h; have hd : ds = [] := hd; subst hd; exact h f rfl rfl,
    fun _ _ _ h => h.elim,
    trivial⟩
    (cast (by kernel_rfl) h)
def S_fettleref4_Ok_1 (x0 x3 : Value) (M : Store) (Q : Value → Store → Prop) : Prop :=
  OP (lenS x0) fun t7 =>
  OP (binI .lss x3 t7) fun t8 =>
  BR t8 (
  P_fettleref4_Ok_2 x0 x3 M Q
  ) (
  P_fettleref4_Ok_3 x0 M Q
  )
theorem T_fettleref4_Ok_1 {x0 x3 : Value} {M : Store} {Q : Value → Store → Prop} (h : S_fettleref4_Ok_1 x0 x3 M Q) : P_fettleref4_Ok_1 x0 x3 M Q := by
  intro f h0 h3; subst h0; subst h3
  unfold At
  refine cast (by kernel_rfl) (CW.loop (P := Try.prog) (E := Ex) (rd := none) (x := sub (bodyOf Try.f106) [1, 0, 1, 0, 0]) (a := ⟨⟨49, f⟩, []⟩) (M := M) (K := kcont Try.prog Ex none (bodyOf Try.f106) [1, 0, 1, 0] (kfin Try.prog Try.f106.results.toList Q)) ?_)
  exact rule (B := 1000) (N := 49) (ct := (.two .no (.here 1000)))
    [⟨1002, fun a M => dfr a.defers (P_fettleref4_Ok_2 (a.get 0) (a.get 3) M Q), fun a M => At Try.prog Ex none Try.f106 [1, 0, 1, 0, 0, 1] a M Q⟩,
    ⟨2, fun a M => dfr a.defers (P_fettleref4_Ok_3 (a.get 0) M Q), fun a M => At Try.prog Ex none Try.f106 [1, 1] a M Q⟩]
    [1000] [2] (by kernel_rfl) (by kernel_rfl) (by kernel_rfl) (by kernel_rfl) (by kernel_rfl)
    ⟨fun a M hn h => by obtain ⟨⟨n, f⟩, ds⟩ := a; have hn : n = 49 := hn; subst hn; obtain ⟨hd, h⟩ := dfr_iff h; have hd : ds = [] := hd; subst hd; exact h f rfl rfl,
    fun a M hn h => by obtain ⟨⟨n, f⟩, ds⟩ := a; have hn : n = 49 := hn; subst hn; obtain ⟨hd, h⟩ := dfr_iff h; have hd : ds = [] := hd; subst hd; exact h f rfl,
    trivial⟩
    (cast (by kernel_rfl) h)
def S_fettleref4_Ok_2 (x0 x3 : Value) (M : Store) (Q : Value → Store → Prop) : Prop :=
  OP (ixS x0 x3) fun t13 =>
  OP (binI .geq t13 (.int .u8 97)) fun t15 =>
  BR t15 (
  OP (binI .leq t13 (.int .u8 122)) fun t18 =>
  BR t18 (
  OP (aun .not (.bool true)) fun t40 =>
  BR t40 (
  NTs [(.bool false)] ∧ Q (.bool false) M
  ) (
  OP (binI .add x3 (.int .i64 1)) fun t10 =>
  P_fettleref4_Ok_1 x0 t10 M Q
  )
  ) (
  OP (binI .geq t13 (.int .u8 48)) fun t22 =>
  BR3 t22 (
  OP (binI .leq t13 (.int .u8 57)) fun t25 =>
  BR t25 (
  OP (aun .not (.bool true)) fun t40_1 =>
  BR t40_1 (
  NTs [(.bool false)] ∧ Q (.bool false) M
  ) (
  OP (binI .add x3 (.int .i64 1)) fun t10_1 =>
  P_fettleref4_Ok_1 x0 t10_1 M Q
  )
  ) (
  OP (binI .eql t13 (.int .u8 46)) fun t30 =>
  BR t30 (
  OP (aun .not (.bool true)) fun t40_2 =>
  BR t40_2 (
  NTs [(.bool false)] ∧ Q (.bool false) M
  ) (
  OP (binI .add x3 (.int .i64 1)) fun t10_2 =>
  P_fettleref4_Ok_1 x0 t10_2 M Q
  )
  ) (
  OP (binI .eql t13 (.int .u8 45)) fun t34 =>
  BR t34 (
  OP (aun .not (.bool true)) fun t40_3 =>
  BR t40_3 (
  NTs [(.bool false)] ∧ Q (.bool false) M
  ) (
  OP (binI .add x3 (.int .i64 1)) fun t10_3 =>
  P_fettleref4_Ok_1 x0 t10_3 M Q
  )
  ) (
  OP (binI .eql t13 (.int .u8 95)) fun t38 =>
  OP (aun .not t38) fun t40_4 =>
  BR t40_4 (
  NTs [(.bool false)] ∧ Q (.bool false) M
  ) (
  OP (binI .add x3 (.int .i64 1)) fun t10_4 =>
  P_fettleref4_Ok_1 x0 t10_4 M Q
  )
  )
  )
  )
  ) (
  OP (binI .eql t13 (.int .u8 46)) fun t30_1 =>
  BR t30_1 (
  OP (aun .not (.bool true)) fun t40_5 =>
  BR t40_5 (
  NTs [(.bool false)] ∧ Q (.bool false) M
  ) (
  OP (binI .add x3 (.int .i64 1)) fun t10_5 =>
  P_fettleref4_Ok_1 x0 t10_5 M Q
  )
  ) (
  OP (binI .eql t13 (.int .u8 45)) fun t34_1 =>
  BR t34_1 (
  OP (aun .not (.bool true)) fun t40_6 =>
  BR t40_6 (
  NTs [(.bool false)] ∧ Q (.bool false) M
  ) (
  OP (binI .add x3 (.int .i64 1)) fun t10_6 =>
  P_fettleref4_Ok_1 x0 t10_6 M Q
  )
  ) (
  OP (binI .eql t13 (.int .u8 95)) fun t38_1 =>
  OP (aun .not t38_1) fun t40_7 =>
  BR t40_7 (
  NTs [(.bool false)] ∧ Q (.bool false) M
  ) (
  OP (binI .add x3 (.int .i64 1)) fun t10_7 =>
  P_fettleref4_Ok_1 x0 t10_7 M Q
  )
  )
  )
  ) (
  BR t22 (
  BR undef (
  OP (aun .not (.bool true)) fun t40_8 =>
  BR t40_8 (
  NTs [(.bool false)] ∧ Q (.bool false) M
  ) (
  OP (binI .add x3 (.int .i64 1)) fun t10_8 =>
  P_fettleref4_Ok_1 x0 t10_8 M Q
  )
  ) (
  OP (binI .eql t13 (.int .u8 46)) fun t30_2 =>
  BR t30_2 (
  OP (aun .not (.bool true)) fun t40_9 =>
  BR t40_9 (
  NTs [(.bool false)] ∧ Q (.bool false) M
  ) (
  OP (binI .add x3 (.int .i64 1)) fun t10_9 =>
  P_fettleref4_Ok_1 x0 t10_9 M Q
  )
  ) (
  OP (binI .eql t13 (.int .u8 45)) fun t34_2 =>
  BR t34_2 (
  OP (aun .not (.bool true)) fun t40_10 =>
  BR t40_10 (
  NTs [(.bool false)] ∧ Q (.bool false) M
  ) (
  OP (binI .add x3 (.int .i64 1)) fun t10_10 =>
  P_fettleref4_Ok_1 x0 t10_10 M Q
  )
  ) (
  OP (binI .eql t13 (.int .u8 95)) fun t38_2 =>
  OP (aun .not t38_2) fun t40_11 =>
  BR t40_11 (
  NTs [(.bool false)] ∧ Q (.bool false) M
  ) (
  OP (binI .add x3 (.int .i64 1)) fun t10_11 =>
  P_fettleref4_Ok_1 x0 t10_11 M Q
  )
  )
  )
  )
  ) (
  OP (binI .eql t13 (.int .u8 46)) fun t30_3 =>
  BR t30_3 (
  OP (aun .not (.bool true)) fun t40_12 =>
  BR t40_12 (
  NTs [(.bool false)] ∧ Q (.bool false) M
  ) (
  OP (binI .add x3 (.int .i64 1)) fun t10_12 =>
  P_fettleref4_Ok_1 x0 t10_12 M Q
  )
  ) (
  OP (binI .eql t13 (.int .u8 45)) fun t34_3 =>
  BR t34_3 (
  OP (aun .not (.bool true)) fun t40_13 =>
  BR t40_13 (
  NTs [(.bool false)] ∧ Q (.bool false) M
  ) (
  OP (binI .add x3 (.int .i64 1)) fun t10_13 =>
  P_fettleref4_Ok_1 x0 t10_13 M Q
  )
  ) (
  OP (binI .eql t13 (.int .u8 95)) fun t38_3 =>
  OP (aun .not t38_3) fun t40_14 =>
  BR t40_14 (
  NTs [(.bool false)] ∧ Q (.bool false) M
  ) (
  OP (binI .add x3 (.int .i64 1)) fun t10_14 =>
  P_fettleref4_Ok_1 x0 t10_14 M Q
  )
  )
  )
  )
  )
  )
  ) (
  OP (binI .geq t13 (.int .u8 48)) fun t22_1 =>
  BR3 t22_1 (
  OP (binI .leq t13 (.int .u8 57)) fun t25_1 =>
  BR t25_1 (
  OP (aun .not (.bool true)) fun t40_15 =>
  BR t40_15 (
  NTs [(.bool false)] ∧ Q (.bool false) M
  ) (
  OP (binI .add x3 (.int .i64 1)) fun t10_15 =>
  P_fettleref4_Ok_1 x0 t10_15 M Q
  )
  ) (
  OP (binI .eql t13 (.int .u8 46)) fun t30_4 =>
  BR t30_4 (
  OP (aun .not (.bool true)) fun t40_16 =>
  BR t40_16 (
  NTs [(.bool false)] ∧ Q (.bool false) M
  ) (
  OP (binI .add x3 (.int .i64 1)) fun t10_16 =>
  P_fettleref4_Ok_1 x0 t10_16 M Q
  )
  ) (
  OP (binI .eql t13 (.int .u8 45)) fun t34_4 =>
  BR t34_4 (
  OP (aun .not (.bool true)) fun t40_17 =>
  BR t40_17 (
  NTs [(.bool false)] ∧ Q (.bool false) M
  ) (
  OP (binI .add x3 (.int .i64 1)) fun t10_17 =>
  P_fettleref4_Ok_1 x0 t10_17 M Q
  )
  ) (
  OP (binI .eql t13 (.int .u8 95)) fun t38_4 =>
  OP (aun .not t38_4) fun t40_18 =>
  BR t40_18 (
  NTs [(.bool false)] ∧ Q (.bool false) M
  ) (
  OP (binI .add x3 (.int .i64 1)) fun t10_18 =>
  P_fettleref4_Ok_1 x0 t10_18 M Q
  )
  )
  )
  )
  ) (
  OP (binI .eql t13 (.int .u8 46)) fun t30_5 =>
  BR t30_5 (
  OP (aun .not (.bool true)) fun t40_19 =>
  BR t40_19 (
  NTs [(.bool false)] ∧ Q (.bool false) M
  ) (
  OP (binI .add x3 (.int .i64 1)) fun t10_19 =>
  P_fettleref4_Ok_1 x0 t10_19 M Q
  )
  ) (
  OP (binI .eql t13 (.int .u8 45)) fun t34_5 =>
  BR t34_5 (
  OP (aun .not (.bool true)) fun t40_20 =>
  BR t40_20 (
  NTs [(.bool false)] ∧ Q (.bool false) M
  ) (
  OP (binI .add x3 (.int .i64 1)) fun t10_20 =>
  P_fettleref4_Ok_1 x0 t10_20 M Q
  )
  ) (
  OP (binI .eql t13 (.int .u8 95)) fun t38_5 =>
  OP (aun .not t38_5) fun t40_21 =>
  BR t40_21 (
  NTs [(.bool false)] ∧ Q (.bool false) M
  ) (
  OP (binI .add x3 (.int .i64 1)) fun t10_21 =>
  P_fettleref4_Ok_1 x0 t10_21 M Q
  )
  )
  )
  ) (
  BR t22_1 (
  BR undef (
  OP (aun .not (.bool true)) fun t40_22 =>
  BR t40_22 (
  NTs [(.bool false)] ∧ Q (.bool false) M
  ) (
  OP (binI .add x3 (.int .i64 1)) fun t10_22 =>
  P_fettleref4_Ok_1 x0 t10_22 M Q
  )
  ) (
  OP (binI .eql t13 (.int .u8 46)) fun t30_6 =>
  BR t30_6 (
  OP (aun .not (.bool true)) fun t40_23 =>
  BR t40_23 (
  NTs [(.bool false)] ∧ Q (.bool false) M
  ) (
  OP (binI .add x3 (.int .i64 1)) fun t10_23 =>
  P_fettleref4_Ok_1 x0 t10_23 M Q
  )
  ) (
  OP (binI .eql t13 (.int .u8 45)) fun t34_6 =>
  BR t34_6 (
  OP (aun .not (.bool true)) fun t40_24 =>
  BR t40_24 (
  NTs [(.bool false)] ∧ Q (.bool false) M
  ) (
  OP (binI .add x3 (.int .i64 1)) fun t10_24 =>
  P_fettleref4_Ok_1 x0 t10_24 M Q
  )
  ) (
  OP (binI .eql t13 (.int .u8 95)) fun t38_6 =>
  OP (aun .not t38_6) fun t40_25 =>
  BR t40_25 (
  NTs [(.bool false)] ∧ Q (.bool false) M
  ) (
  OP (binI .add x3 (.int .i64 1)) fun t10_25 =>
  P_fettleref4_Ok_1 x0 t10_25 M Q
  )
  )
  )
  )
  ) (
  OP (binI .eql t13 (.int .u8 46)) fun t30_7 =>
  BR t30_7 (
  OP (aun .not (.bool true)) fun t40_26 =>
  BR t40_26 (
  NTs [(.bool false)] ∧ Q (.bool false) M
  ) (
  OP (binI .add x3 (.int .i64 1)) fun t10_26 =>
  P_fettleref4_Ok_1 x0 t10_26 M Q
  )
  ) (
  OP (binI .eql t13 (.int .u8 45)) fun t34_7 =>
  BR t34_7 (
  OP (aun .not (.bool true)) fun t40_27 =>
  BR t40_27 (
  NTs [(.bool false)] ∧ Q (.bool false) M
  ) (
  OP (binI .add x3 (.int .i64 1)) fun t10_27 =>
  P_fettleref4_Ok_1 x0 t10_27 M Q
  )
  ) (
  OP (binI .eql t13 (.int .u8 95)) fun t38_7 =>
  OP (aun .not t38_7) fun t40_28 =>
  BR t40_28 (
  NTs [(.bool false)] ∧ Q (.bool false) M
  ) (
  OP (binI .add x3 (.int .i64 1)) fun t10_28 =>
  P_fettleref4_Ok_1 x0 t10_28 M Q
  )
  )
  )
  )
  )
  )
theorem T_fettleref4_Ok_2 {x0 x3 : Value} {M : Store} {Q : Value → Store → Prop} (h : S_fettleref4_Ok_2 x0 x3 M Q) : P_fettleref4_Ok_2 x0 x3 M Q := by
  intro f h0 h3; subst h0; subst h3
  unfold At
  exact rule (B := 1000) (N := 49) (ct := .no)
    [⟨0, fun a M => dfr a.defers (P_fettleref4_Ok_1 (a.get 0) (a.get 3) M Q), fun a M => At Try.prog Ex none Try.f106 [1, 0, 1, 0] a M Q⟩,
    ⟨1, fun a M => kfin Try.prog Try.f106.results.toList Q 1 a M, fun a M => kfin Try.prog Try.f106.results.toList Q 1 a M⟩]
    [] [0, 1] (by kernel_rfl) (by kernel_rfl) (by kernel_rfl) (by kernel_rfl) (by kernel_rfl)
    ⟨fun a M hn h => by obtain ⟨⟨n, f⟩, ds⟩ := a; have hn : n = 49 := hn; subst hn; obtain ⟨hd, h⟩ := dfr_iff h; have hd : ds = [] := hd; subst hd; exact h f rfl rfl,
    fun _ _ _ h => h,
    trivial⟩
    (cast (by kernel_rfl) h)
def S_fettleref4_Ok_3 (x0 : Value) (M : Store) (Q : Value → Store → Prop) : Prop :=
  OP (lenS x0) fun t42 =>
  OP (binI .geq t42 (.int .i64 1)) fun t43 =>
  BR t43 (
  OP (lenS x0) fun t46 =>
  OP (binI .leq t46 (.int .i64 16)) fun t47 =>
  NTs [t47] ∧ Q t47 M
  ) (
  NTs [(.bool false)] ∧ Q (.bool false) M
  )
theorem T_fettleref4_Ok_3 {x0 : Value} {M : Store} {Q : Value → Store → Prop} (h : S_fettleref4_Ok_3 x0 M Q) : P_fettleref4_Ok_3 x0 M Q := by
  intro f h0; subst h0
  unfold At
  exact rule (B := 1000) (N := 49) (ct := .no)
    [⟨1, fun a M => kfin Try.prog Try.f106.results.toList Q 1 a M, fun a M => kfin Try.prog Try.f106.results.toList Q 1 a M⟩]
    [] [1] (by kernel_rfl) (by kernel_rfl) (by kernel_rfl) (by kernel_rfl) (by kernel_rfl)
    ⟨fun _ _ _ h => h,
    trivial⟩
    (cast (by kernel_rfl) h)
def P_reco_begins_1 (ds : List Deferred) (x0 x3 x4 x7 : Value) (M : Store) (Q : Value → Store → Prop) : Prop :=
  ∀ f : Nat → Value, f 0 = x0 → f 3 = x3 → f 4 = x4 → f 7 = x7 → At Try.prog Ex none Try.f108 [1, 0, 1, 0] ⟨⟨17, f⟩, ds⟩ M Q
def P_reco_begins_2 (l : Nat) (x3 x4 x5 : Value) (M : Store) (Q : Value → Store → Prop) : Prop :=
  ∀ f : Nat → Value, f 3 = x3 → f 4 = x4 → f 5 = x5 → AtY Try.prog Ex l Try.f108 [1, 0, 1, 0, 1] [] ⟨⟨17, f⟩, []⟩ M Q
def P_reco_begins_3 (ds : List Deferred) (x0 x4 : Value) (M : Store) (Q : Value → Store → Prop) : Prop :=
  ∀ f : Nat → Value, f 0 = x0 → f 4 = x4 → At Try.prog Ex none Try.f108 [1, 1] ⟨⟨17, f⟩, ds⟩ M Q
def S_reco_begins (x0 x1 : Value) (M : Store) (Q : Value → Store → Prop) : Prop :=
  OP (boxv x1) fun c =>
  LT (.pointer (some ⟨M.n, 0, none⟩)) (M.push (some (.inl (c, Ty.int, true)))) fun t3 M1 =>
  LT (.pointer (some ⟨M1.n, 0, none⟩)) (M1.push (some (.inl ([(.int .i64 0)], Ty.int, true)))) fun t4 M2 =>
  R F.fram_All #[x0] M2 fun t7 M3 =>
  P_reco_begins_1 [] x0 t3 t4 t7 M3 Q
theorem T_reco_begins {x0 x1 : Value} {M : Store} {Q : Value → Store → Prop} (h : S_reco_begins x0 x1 M Q) : R F.reco_begins #[x0, x1] M Q := by
  refine runs_of (c := bodyOf Try.f108) Try.func108 rfl (by kernel_rfl) (by kernel_rfl) ?_
  unfold At
  exact rule (B := 1000) (N := 17) (ct := (.two .no (.two (.two .no (.two (.here 1000) .no)) (.here 1001))))
    [⟨1002, fun a M => P_reco_begins_1 a.defers (a.get 0) (a.get 3) (a.get 4) (a.get 7) M Q, fun a M => At Try.prog Ex none Try.f108 [1, 0, 1, 0] a M Q⟩,
    ⟨1003, fun _ _ => False, fun a M => At Try.prog Ex none Try.f108 [1, 1] a M Q⟩]
    [1000, 1001] [] (by kernel_rfl) (by kernel_rfl) (by kernel_rfl) (by kernel_rfl) (by kernel_rfl)
    ⟨fun a M hn h => by obtain ⟨⟨n, f⟩, ds⟩ := a; have hn : n = 17 := hn; subst hn; exact h f rfl rfl rfl rfl,
    fun _ _ _ h => h.elim,
    trivial⟩
    (cast (by kernel_rfl) h)
/-- The record of the range, and a round. -/
def RC_reco_begins_1 (x3 x4 : Value) (st : LoopState) (pe : Nat) (rc : LRec) : Prop := ∃ f : Nat → Value, f 3 = x3 ∧ f 4 = x4 ∧ rc = ⟨st, pe, ⟨17, f⟩, #[8, 9], (sub (bodyOf Try.f108) [1, 0, 1, 0, 0]), (sub (bodyOf Try.f108) [1, 0, 1, 0, 1])⟩
def SY_reco_begins_1 (l : Nat) (x3 x4 : Value) (y8 y9 : Value) (M : Store) (Q : Value → Store → Prop) : Prop :=
  OP (recOf M l) fun r => r.st = .ready ∧
  P_reco_begins_2 l x3 x4 y8 (putRec M l { r with st := .busy }) Q
theorem Y_reco_begins_1 {l pe : Nat} {x3 x4 : Value} {y8 y9 : Value} {M : Store} {Q : Value → Store → Prop} {rc : LRec} (hr : recOf M l = some rc) (hc : RC_reco_begins_1 x3 x4 .ready pe rc) (h : SY_reco_begins_1 l x3 x4 y8 y9 M Q) : RunsY Try.prog Ex l #[y8, y9] M Q := by
  obtain ⟨f, h3, h4, hc⟩ := hc; subst h3; subst h4; subst hc
  refine runsY_of (args := [y8, y9]) hr (by kernel_rfl) ?_
  exact rule (B := 1000) (N := 17) (ct := .no)
    [⟨0, fun a M => OP (recOf M l) fun r => r.st = .ready ∧ dfr a.defers (P_reco_begins_2 l (a.get 3) (a.get 4) (a.get 5) (putRec M l { r with st := .busy }) Q), fun a M => kmid Try.prog Ex l (sub (bodyOf Try.f108) [1, 0, 1, 0, 1]) Q 0 a M⟩]
    [] [0] (by kernel_rfl) (by kernel_rfl) (by kernel_rfl) (by kernel_rfl) (by kernel_rfl)
    ⟨fun a M hn h => by obtain ⟨⟨n, f⟩, ds⟩ := a; have hn : n = 17 := hn; subst hn; obtain ⟨r, hr, hs, h⟩ := OP_iff.1 h; obtain ⟨hd, h⟩ := dfr_iff h; have hd : ds = [] := hd; subst hd; exact OP_iff.2 ⟨r, hr, hs, cast (by kernel_rfl) (h f rfl rfl rfl)⟩, trivial⟩
    (cast (by kernel_rfl) h)
def S_reco_begins_1 (ds : List Deferred) (x0 x3 x4 x7 : Value) (M : Store) (Q : Value → Store → Prop) : Prop :=
  ∀ rc : LRec, RC_reco_begins_1 x3 x4 .ready 0 rc →
  rfc Try.prog Ex x7 (M.n + 1) ((M.push (some (.inr (.inr none)))).push (some (.inr (.inr (some rc))))) fun _ M1 =>
  OP (recOf M1 (M.n + 1)) fun r => r.st ≠ .busy ∧
  bif Nat.beq 0 r.pe then (
  P_reco_begins_3 ({ target := .collected M.n, args := #[] } :: ds) x0 x4 (putRec M1 (M.n + 1) { r with st := .exhausted }) Q
  ) else
  bif Nat.beq 1 r.pe then (
  OP (atake ({ target := .collected M.n, args := #[] } :: ds) (putRec M1 (M.n + 1) { r with st := .exhausted })) fun M2 =>
  OP (ld 1 false x4 M2) fun r4 =>
  NTs [r4] ∧ Q r4 M2
  ) else
  False
theorem T_reco_begins_1 {ds : List Deferred} {x0 x3 x4 x7 : Value} {M : Store} {Q : Value → Store → Prop} (h : S_reco_begins_1 ds x0 x3 x4 x7 M Q) : P_reco_begins_1 ds x0 x3 x4 x7 M Q := by
  intro f h0 h3 h4 h7; subst h0; subst h3; subst h4; subst h7
  unfold At
  refine cast (by kernel_rfl) (CW.rf (P := Try.prog) (E := Ex) (g := .tmp 7) (ps := #[8, 9]) (x := (sub (bodyOf Try.f108) [1, 0, 1, 0, 0])) (y := (sub (bodyOf Try.f108) [1, 0, 1, 0, 1])) (a := ⟨⟨17, f⟩, ds⟩) (M := M) (K := kcont Try.prog Ex none (bodyOf Try.f108) [1, 0, 1, 0] (kfin Try.prog Try.f108.results.toList Q)) ?_)
  refine cast (by kernel_rfl) (rfc_mono (k' := fun _ M' => OP (recOf M' (M.n + 1)) fun r => r.st ≠ .busy ∧ kcont Try.prog Ex none (bodyOf Try.f108) [1, 0, 1, 0] (kfin Try.prog Try.f108.results.toList Q) r.pe ⟨⟨17, f⟩, { target := .collected M.n, args := #[] } :: ds⟩ (putRec M' (M.n + 1) { r with st := .exhausted })) (h ⟨.ready, 0, ⟨17, f⟩, #[8, 9], (sub (bodyOf Try.f108) [1, 0, 1, 0, 0]), (sub (bodyOf Try.f108) [1, 0, 1, 0, 1])⟩ ⟨f, rfl, rfl, rfl⟩) ?_)
  intro _ M1 h
  obtain ⟨r, hr, hs, h⟩ := OP_iff.1 h
  refine OP_iff.2 ⟨r, hr, hs, ?_⟩
  exact disp_K (N := 17) (L := [⟨0, fun a M => P_reco_begins_3 a.defers (a.get 0) (a.get 4) M Q, fun a M => At Try.prog Ex none Try.f108 [1, 1] a M Q⟩,
    ⟨1, fun a M => kfin Try.prog Try.f108.results.toList Q 1 a M, fun a M => kfin Try.prog Try.f108.results.toList Q 1 a M⟩])
    [0, 1] (by kernel_rfl) (by kernel_rfl)
    ⟨fun a M hn h => by obtain ⟨⟨n, f⟩, ds⟩ := a; have hn : n = 17 := hn; subst hn; exact h f rfl rfl,
    fun _ _ _ h => h,
    trivial⟩
    rfl (cast (by kernel_rfl) h)
def S_reco_begins_2 (l : Nat) (x3 x4 x5 : Value) (M : Store) (Q : Value → Store → Prop) : Prop :=
  OP (ld 1 false x3 M) fun t10 =>
  OP (binI .eql t10 (.int .i64 0)) fun t11 =>
  BR t11 (
  OP (st 1 x4 x5 M) fun M1 =>
  YE l 1 M1 Q
  ) (
  OP (ld 1 false x3 M) fun t13 =>
  OP (binI .sub t13 (.int .i64 1)) fun t14 =>
  OP (st 1 x3 t14 M) fun M2 =>
  YE l 0 M2 Q
  )
theorem T_reco_begins_2 {l : Nat} {x3 x4 x5 : Value} {M : Store} {Q : Value → Store → Prop} (h : S_reco_begins_2 l x3 x4 x5 M Q) : P_reco_begins_2 l x3 x4 x5 M Q := by
  intro f h3 h4 h5; subst h3; subst h4; subst h5
  unfold AtY
  exact rule (B := 1000) (N := 17) (ct := .no)
    [⟨0, fun a M => kfinY l Q 0 a M, fun a M => kfinY l Q 0 a M⟩,
    ⟨1, fun a M => kfinY l Q 1 a M, fun a M => kfinY l Q 1 a M⟩]
    [] [0, 1] (by kernel_rfl) (by kernel_rfl) (by kernel_rfl) (by kernel_rfl) (by kernel_rfl)
    ⟨fun _ _ _ h => h,
    fun _ _ _ h => h,
    trivial⟩
    (cast (by kernel_rfl) h)
def S_reco_begins_3 (ds : List Deferred) (x0 x4 : Value) (M : Store) (Q : Value → Store → Prop) : Prop :=
  OP (lenV x0) fun t16 =>
  OP (st 1 x4 t16 M) fun M1 =>
  OP (atake ds M1) fun M2 =>
  OP (ld 1 false x4 M2) fun r4 =>
  NTs [r4] ∧ Q r4 M2
theorem T_reco_begins_3 {ds : List Deferred} {x0 x4 : Value} {M : Store} {Q : Value → Store → Prop} (h : S_reco_begins_3 ds x0 x4 M Q) : P_reco_begins_3 ds x0 x4 M Q := by
  intro f h0 h4; subst h0; subst h4
  unfold At
  exact rule (B := 1000) (N := 17) (ct := .no)
    [⟨1, fun a M => kfin Try.prog Try.f108.results.toList Q 1 a M, fun a M => kfin Try.prog Try.f108.results.toList Q 1 a M⟩]
    [] [1] (by kernel_rfl) (by kernel_rfl) (by kernel_rfl) (by kernel_rfl) (by kernel_rfl)
    ⟨fun _ _ _ h => h,
    trivial⟩
    (cast (by kernel_rfl) h)
def P_name_Ok_1 (x0 x5 x6 : Value) (M : Store) (Q : Value → Store → Prop) : Prop :=
  ∀ f : Nat → Value, f 0 = x0 → f 5 = x5 → f 6 = x6 → At Try.prog Ex none Try.f129 [1, 0, 1, 0] ⟨⟨23, f⟩, []⟩ M Q
def P_name_Ok_2 (x0 : Value) (M : Store) (Q : Value → Store → Prop) : Prop :=
  ∀ f : Nat → Value, f 0 = x0 → At Try.prog Ex none Try.f129 [1, 1] ⟨⟨23, f⟩, []⟩ M Q
def S_name_Ok (x0 : Value) (M : Store) (Q : Value → Store → Prop) : Prop :=
  OP (lenS x0) fun t5 =>
  P_name_Ok_1 x0 t5 (.int .i64 0) M Q
theorem T_name_Ok {x0 : Value} {M : Store} {Q : Value → Store → Prop} (h : S_name_Ok x0 M Q) : R F.name_Ok #[x0] M Q := by
  refine runs_of (c := bodyOf Try.f129) Try.func129 rfl (by kernel_rfl) (by kernel_rfl) ?_
  unfold At
  exact rule (B := 1000) (N := 23) (ct := (.two .no (.two (.two .no (.two (.here 1000) .no)) (.here 1001))))
    [⟨1002, fun a M => dfr a.defers (P_name_Ok_1 (a.get 0) (a.get 5) (a.get 6) M Q), fun a M => At Try.prog Ex none Try.f129 [1, 0, 1, 0] a M Q⟩,
    ⟨1003, fun _ _ => False, fun a M => At Try.prog Ex none Try.f129 [1, 1] a M Q⟩]
    [1000, 1001] [] (by kernel_rfl) (by kernel_rfl) (by kernel_rfl) (by kernel_rfl) (by kernel_rfl)
    ⟨fun a M hn h => by obtain ⟨⟨n, f⟩, ds⟩ := a; have hn : n = 23 := hn; subst hn; obtain ⟨hd, h⟩ := dfr_iff h; have hd : ds = [] := hd; subst hd; exact h f rfl rfl rfl,
    fun _ _ _ h => h.elim,
    trivial⟩
    (cast (by kernel_rfl) h)
def S_name_Ok_1 (x0 x5 x6 : Value) (M : Store) (Q : Value → Store → Prop) : Prop :=
  OP (binI .lss x6 x5) fun t7 =>
  BR t7 (
  OP (ixS x0 x6) fun t11 =>
  R F.name_letter #[t11] M fun t12 M1 =>
  OP (aun .not t12) fun t13 =>
  BR t13 (
  NTs [(.bool false)] ∧ Q (.bool false) M1
  ) (
  OP (binI .add x6 (.int .i64 1)) fun t14 =>
  P_name_Ok_1 x0 x5 t14 M1 Q
  )
  ) (
  P_name_Ok_2 x0 M Q
  )
theorem T_name_Ok_1 {x0 x5 x6 : Value} {M : Store} {Q : Value → Store → Prop} (h : S_name_Ok_1 x0 x5 x6 M Q) : P_name_Ok_1 x0 x5 x6 M Q := by
  intro f h0 h5 h6; subst h0; subst h5; subst h6
  unfold At
  refine cast (by kernel_rfl) (CW.loop (P := Try.prog) (E := Ex) (rd := none) (x := sub (bodyOf Try.f129) [1, 0, 1, 0, 0]) (a := ⟨⟨23, f⟩, []⟩) (M := M) (K := kcont Try.prog Ex none (bodyOf Try.f129) [1, 0, 1, 0] (kfin Try.prog Try.f129.results.toList Q)) ?_)
  exact rule (B := 1000) (N := 23) (ct := .no)
    [⟨0, fun a M => dfr a.defers (P_name_Ok_1 (a.get 0) (a.get 5) (a.get 6) M Q), fun a M => At Try.prog Ex none Try.f129 [1, 0, 1, 0] a M Q⟩,
    ⟨1, fun a M => kfin Try.prog Try.f129.results.toList Q 1 a M, fun a M => kfin Try.prog Try.f129.results.toList Q 1 a M⟩,
    ⟨2, fun a M => dfr a.defers (P_name_Ok_2 (a.get 0) M Q), fun a M => At Try.prog Ex none Try.f129 [1, 1] a M Q⟩]
    [] [0, 1, 2] (by kernel_rfl) (by kernel_rfl) (by kernel_rfl) (by kernel_rfl) (by kernel_rfl)
    ⟨fun a M hn h => by obtain ⟨⟨n, f⟩, ds⟩ := a; have hn : n = 23 := hn; subst hn; obtain ⟨hd, h⟩ := dfr_iff h; have hd : ds = [] := hd; subst hd; exact h f rfl rfl rfl,
    fun _ _ _ h => h,
    fun a M hn h => by obtain ⟨⟨n, f⟩, ds⟩ := a; have hn : n = 23 := hn; subst hn; obtain ⟨hd, h⟩ := dfr_iff h; have hd : ds = [] := hd; subst hd; exact h f rfl,
    trivial⟩
    (cast (by kernel_rfl) h)
def S_name_Ok_2 (x0 : Value) (M : Store) (Q : Value → Store → Prop) : Prop :=
  OP (lenS x0) fun t16 =>
  OP (binI .geq t16 (.int .i64 1)) fun t17 =>
  BR t17 (
  OP (lenS x0) fun t20 =>
  OP (binI .leq t20 (.int .i64 16)) fun t21 =>
  NTs [t21] ∧ Q t21 M
  ) (
  NTs [(.bool false)] ∧ Q (.bool false) M
  )
theorem T_name_Ok_2 {x0 : Value} {M : Store} {Q : Value → Store → Prop} (h : S_name_Ok_2 x0 M Q) : P_name_Ok_2 x0 M Q := by
  intro f h0; subst h0
  unfold At
  exact rule (B := 1000) (N := 23) (ct := .no)
    [⟨1, fun a M => kfin Try.prog Try.f129.results.toList Q 1 a M, fun a M => kfin Try.prog Try.f129.results.toList Q 1 a M⟩]
    [] [1] (by kernel_rfl) (by kernel_rfl) (by kernel_rfl) (by kernel_rfl) (by kernel_rfl)
    ⟨fun _ _ _ h => h,
    trivial⟩
    (cast (by kernel_rfl) h)
def S_reco_num (x0 : Value) (M : Store) (Q : Value → Store → Prop) : Prop :=
  OP (binI .geq x0 (.int .i64 0)) fun t4 =>
  BR t4 (
  OP (binI .leq x0 (.int .i64 1099511627776)) fun t7 =>
  NTs [t7] ∧ Q t7 M
  ) (
  NTs [(.bool false)] ∧ Q (.bool false) M
  )
theorem T_reco_num {x0 : Value} {M : Store} {Q : Value → Store → Prop} (h : S_reco_num x0 M Q) : R F.reco_num #[x0] M Q := by
  refine runs_of (c := bodyOf Try.f130) Try.func130 rfl (by kernel_rfl) (by kernel_rfl) ?_
  unfold At
  exact rule (B := 1000) (N := 9) (ct := .no)
    [⟨1, fun a M => kfin Try.prog Try.f130.results.toList Q 1 a M, fun a M => kfin Try.prog Try.f130.results.toList Q 1 a M⟩]
    [] [1] (by kernel_rfl) (by kernel_rfl) (by kernel_rfl) (by kernel_rfl) (by kernel_rfl)
    ⟨fun _ _ _ h => h,
    trivial⟩
    (cast (by kernel_rfl) h)
def S_name_letter (x0 : Value) (M : Store) (Q : Value → Store → Prop) : Prop :=
  OP (binI .geq x0 (.int .u8 97)) fun t5 =>
  BR t5 (
  OP (binI .leq x0 (.int .u8 122)) fun t8 =>
  BR t8 (
  BR t8 (
  NTs [(.bool true)] ∧ Q (.bool true) M
  ) (
  NTs [(.bool false)] ∧ Q (.bool false) M
  )
  ) (
  OP (binI .geq x0 (.int .u8 48)) fun t11 =>
  BR t11 (
  OP (binI .leq x0 (.int .u8 57)) fun t14 =>
  BR t14 (
  BR t14 (
  NTs [(.bool true)] ∧ Q (.bool true) M
  ) (
  NTs [(.bool false)] ∧ Q (.bool false) M
  )
  ) (
  OP (binI .eql x0 (.int .u8 46)) fun t17 =>
  BR t17 (
  BR t17 (
  NTs [(.bool true)] ∧ Q (.bool true) M
  ) (
  NTs [(.bool false)] ∧ Q (.bool false) M
  )
  ) (
  OP (binI .eql x0 (.int .u8 45)) fun t19 =>
  BR t19 (
  BR t19 (
  NTs [(.bool true)] ∧ Q (.bool true) M
  ) (
  NTs [(.bool false)] ∧ Q (.bool false) M
  )
  ) (
  OP (binI .eql x0 (.int .u8 95)) fun t21 =>
  BR t21 (
  NTs [(.bool true)] ∧ Q (.bool true) M
  ) (
  NTs [(.bool false)] ∧ Q (.bool false) M
  )
  )
  )
  )
  ) (
  OP (binI .eql x0 (.int .u8 46)) fun t17_1 =>
  BR t17_1 (
  BR t17_1 (
  NTs [(.bool true)] ∧ Q (.bool true) M
  ) (
  NTs [(.bool false)] ∧ Q (.bool false) M
  )
  ) (
  OP (binI .eql x0 (.int .u8 45)) fun t19_1 =>
  BR t19_1 (
  BR t19_1 (
  NTs [(.bool true)] ∧ Q (.bool true) M
  ) (
  NTs [(.bool false)] ∧ Q (.bool false) M
  )
  ) (
  OP (binI .eql x0 (.int .u8 95)) fun t21_1 =>
  BR t21_1 (
  NTs [(.bool true)] ∧ Q (.bool true) M
  ) (
  NTs [(.bool false)] ∧ Q (.bool false) M
  )
  )
  )
  )
  )
  ) (
  OP (binI .geq x0 (.int .u8 48)) fun t11_1 =>
  BR t11_1 (
  OP (binI .leq x0 (.int .u8 57)) fun t14_1 =>
  BR t14_1 (
  BR t14_1 (
  NTs [(.bool true)] ∧ Q (.bool true) M
  ) (
  NTs [(.bool false)] ∧ Q (.bool false) M
  )
  ) (
  OP (binI .eql x0 (.int .u8 46)) fun t17_2 =>
  BR t17_2 (
  BR t17_2 (
  NTs [(.bool true)] ∧ Q (.bool true) M
  ) (
  NTs [(.bool false)] ∧ Q (.bool false) M
  )
  ) (
  OP (binI .eql x0 (.int .u8 45)) fun t19_2 =>
  BR t19_2 (
  BR t19_2 (
  NTs [(.bool true)] ∧ Q (.bool true) M
  ) (
  NTs [(.bool false)] ∧ Q (.bool false) M
  )
  ) (
  OP (binI .eql x0 (.int .u8 95)) fun t21_2 =>
  BR t21_2 (
  NTs [(.bool true)] ∧ Q (.bool true) M
  ) (
  NTs [(.bool false)] ∧ Q (.bool false) M
  )
  )
  )
  )
  ) (
  OP (binI .eql x0 (.int .u8 46)) fun t17_3 =>
  BR t17_3 (
  BR t17_3 (
  NTs [(.bool true)] ∧ Q (.bool true) M
  ) (
  NTs [(.bool false)] ∧ Q (.bool false) M
  )
  ) (
  OP (binI .eql x0 (.int .u8 45)) fun t19_3 =>
  BR t19_3 (
  BR t19_3 (
  NTs [(.bool true)] ∧ Q (.bool true) M
  ) (
  NTs [(.bool false)] ∧ Q (.bool false) M
  )
  ) (
  OP (binI .eql x0 (.int .u8 95)) fun t21_3 =>
  BR t21_3 (
  NTs [(.bool true)] ∧ Q (.bool true) M
  ) (
  NTs [(.bool false)] ∧ Q (.bool false) M
  )
  )
  )
  )
  )
theorem T_name_letter {x0 : Value} {M : Store} {Q : Value → Store → Prop} (h : S_name_letter x0 M Q) : R F.name_letter #[x0] M Q := by
  refine runs_of (c := bodyOf Try.f140) Try.func140 rfl (by kernel_rfl) (by kernel_rfl) ?_
  unfold At
  exact rule (B := 1000) (N := 22) (ct := .no)
    [⟨1, fun a M => kfin Try.prog Try.f140.results.toList Q 1 a M, fun a M => kfin Try.prog Try.f140.results.toList Q 1 a M⟩]
    [] [1] (by kernel_rfl) (by kernel_rfl) (by kernel_rfl) (by kernel_rfl) (by kernel_rfl)
    ⟨fun _ _ _ h => h,
    trivial⟩
    (cast (by kernel_rfl) h)
end Go.G
