/-  -/
import Derived.Test.YtpacolplhcfamaaPGN
open Go.RowKit
namespace Go.G
open Go.Ab Go.Proofs
set_option linter.unusedVariables false
set_option maxRecDepth 100000
def P_fettlelaw25_HistParts_1 (x0 x1 x2 x3 x9 x10 x11 : Value) (M : Store) (Q : Value → Store → Prop) : Prop :=
  ∀ f : Nat → Value, f 0 = x0 → f 1 = x1 → f 2 = x2 → f 3 = x3 → f 9 = x9 → f 10 = x10 → f 11 = x11 → At Try.prog Ex none Try.f11 [1, 1, 1, 0, 1, 0] ⟨⟨182, f⟩, []⟩ M Q
def P_fettlelaw25_HistParts_2 (x0 x1 x2 x3 x9 x10 x11 : Value) (M : Store) (Q : Value → Store → Prop) : Prop :=
  ∀ f : Nat → Value, f 0 = x0 → f 1 = x1 → f 2 = x2 → f 3 = x3 → f 9 = x9 → f 10 = x10 → f 11 = x11 → At Try.prog Ex none Try.f11 [1, 1, 1, 0, 1, 0, 0, 1] ⟨⟨182, f⟩, []⟩ M Q
def P_fettlelaw25_HistParts_3 (x2 x3 x9 x10 : Value) (M : Store) (Q : Value → Store → Prop) : Prop :=
  ∀ f : Nat → Value, f 2 = x2 → f 3 = x3 → f 9 = x9 → f 10 = x10 → At Try.prog Ex none Try.f11 [1, 1, 1, 1] ⟨⟨182, f⟩, []⟩ M Q
def P_fettlelaw25_HistParts_4 (x2 x3 x9 x10 x101 x102 : Value) (M : Store) (Q : Value → Store → Prop) : Prop :=
  ∀ f : Nat → Value, f 2 = x2 → f 3 = x3 → f 9 = x9 → f 10 = x10 → f 101 = x101 → f 102 = x102 → At Try.prog Ex none Try.f11 [1, 1, 1, 1, 1, 0, 1, 0] ⟨⟨182, f⟩, []⟩ M Q
def P_fettlelaw25_HistParts_5 (x2 x3 x9 x10 x101 x102 : Value) (M : Store) (Q : Value → Store → Prop) : Prop :=
  ∀ f : Nat → Value, f 2 = x2 → f 3 = x3 → f 9 = x9 → f 10 = x10 → f 101 = x101 → f 102 = x102 → At Try.prog Ex none Try.f11 [1, 1, 1, 1, 1, 0, 1, 0, 0, 1, 1] ⟨⟨182, f⟩, []⟩ M Q
def P_fettlelaw25_HistParts_6 (x2 x3 x9 x10 : Value) (M : Store) (Q : Value → Store → Prop) : Prop :=
  ∀ f : Nat → Value, f 2 = x2 → f 3 = x3 → f 9 = x9 → f 10 = x10 → At Try.prog Ex none Try.f11 [1, 1, 1, 1, 1, 1] ⟨⟨182, f⟩, []⟩ M Q
def S_fettlelaw25_HistParts (x0 x1 x2 x3 : Value) (M : Store) (Q : Value → Store → Prop) : Prop :=
  P_fettlelaw25_HistParts_1 x0 x1 x2 x3 (.slice none 0 0) (.slice none 0 0) (.int .i64 0) M Q
theorem T_fettlelaw25_HistParts {x0 x1 x2 x3 : Value} {M : Store} {Q : Value → Store → Prop} (h : S_fettlelaw25_HistParts x0 x1 x2 x3 M Q) : R F.fettlelaw25_HistParts #[x0, x1, x2, x3] M Q := by
  refine runs_of (c := bodyOf Try.f11) Try.func11 rfl (by kernel_rfl) (by kernel_rfl) ?_
  unfold At
  exact rule (B := 1000) (N := 182) (ct := (.two .no (.two .no (.two .no (.two (.two .no (.two (.here 1000) .no)) (.here 1001))))))
    [⟨1002, fun a M => dfr a.defers (P_fettlelaw25_HistParts_1 (a.get 0) (a.get 1) (a.get 2) (a.get 3) (a.get 9) (a.get 10) (a.get 11) M Q), fun a M => At Try.prog Ex none Try.f11 [1, 1, 1, 0, 1, 0] a M Q⟩,
    ⟨1003, fun _ _ => False, fun a M => At Try.prog Ex none Try.f11 [1, 1, 1, 1] a M Q⟩]
    [1000, 1001] [] (by kernel_rfl) (by kernel_rfl) (by kernel_rfl) (by kernel_rfl) (by kernel_rfl)
    ⟨fun a M hn h => by obtain ⟨⟨n, f⟩, ds⟩ := a; have hn : n = 182 := hn; subst hn; obtain ⟨hd, h⟩ := dfr_iff h; have hd : ds = [] := hd; subst hd; exact h f rfl rfl rfl rfl rfl rfl rfl,
    fun _ _ _ h => h.elim,
    trivial⟩
    (cast (by kernel_rfl) h)
def S_fettlelaw25_HistParts_1 (x0 x1 x2 x3 x9 x10 x11 : Value) (M : Store) (Q : Value → Store → Prop) : Prop :=
  OP (lenV x0) fun t20 =>
  OP (binI .lss x11 t20) fun t21 =>
  BR t21 (
  OP (binI .lss x11 (.int .i64 14)) fun t24 =>
  BR t24 (
  P_fettlelaw25_HistParts_2 x0 x1 x2 x3 x9 x10 x11 M Q
  ) (
  P_fettlelaw25_HistParts_3 x2 x3 x9 x10 M Q
  )
  ) (
  P_fettlelaw25_HistParts_3 x2 x3 x9 x10 M Q
  )
theorem T_fettlelaw25_HistParts_1 {x0 x1 x2 x3 x9 x10 x11 : Value} {M : Store} {Q : Value → Store → Prop} (h : S_fettlelaw25_HistParts_1 x0 x1 x2 x3 x9 x10 x11 M Q) : P_fettlelaw25_HistParts_1 x0 x1 x2 x3 x9 x10 x11 M Q := by
  intro f h0 h1 h2 h3 h9 h10 h11; subst h0; subst h1; subst h2; subst h3; subst h9; subst h10; subst h11
  unfold At
  refine cast (by kernel_rfl) (CW.loop (P := Try.prog) (E := Ex) (rd := none) (x := sub (bodyOf Try.f11) [1, 1, 1, 0, 1, 0, 0]) (a := ⟨⟨182, f⟩, []⟩) (M := M) (K := kcont Try.prog Ex none (bodyOf Try.f11) [1, 1, 1, 0, 1, 0] (kfin Try.prog Try.f11.results.toList Q)) ?_)
  exact rule (B := 1000) (N := 182) (ct := (.two .no (.here 1000)))
    [⟨1002, fun a M => dfr a.defers (P_fettlelaw25_HistParts_2 (a.get 0) (a.get 1) (a.get 2) (a.get 3) (a.get 9) (a.get 10) (a.get 11) M Q), fun a M => At Try.prog Ex none Try.f11 [1, 1, 1, 0, 1, 0, 0, 1] a M Q⟩,
    ⟨2, fun a M => dfr a.defers (P_fettlelaw25_HistParts_3 (a.get 2) (a.get 3) (a.get 9) (a.get 10) M Q), fun a M => At Try.prog Ex none Try.f11 [1, 1, 1, 1] a M Q⟩]
    [1000] [2] (by kernel_rfl) (by kernel_rfl) (by kernel_rfl) (by kernel_rfl) (by kernel_rfl)
    ⟨fun a M hn h => by obtain ⟨⟨n, f⟩, ds⟩ := a; have hn : n = 182 := hn; subst hn; obtain ⟨hd, h⟩ := dfr_iff h; have hd : ds = [] := hd; subst hd; exact h f rfl rfl rfl rfl rfl rfl rfl,
    fun a M hn h => by obtain ⟨⟨n, f⟩, ds⟩ := a; have hn : n = 182 := hn; subst hn; obtain ⟨hd, h⟩ := dfr_iff h; have hd : ds = [] := hd; subst hd; exact h f rfl rfl rfl rfl,
    trivial⟩
    (cast (by kernel_rfl) h)
def S_fettlelaw25_HistParts_2 (x0 x1 x2 x3 x9 x10 x11 : Value) (M : Store) (Q : Value → Store → Prop) : Prop :=
  OP (binI .add (.int .i64 97) x11) fun t29 =>
  OP (cvI .u8 t29) fun t30 =>
  OP (bldL (.int .u8 0) 1 1 [(0, t30)]) fun c =>
  LT (.slice (some ⟨M.n, 0, none⟩) 1 1) (M.push (some (.inl (c, Ty.uint8, true)))) fun t31 M1 =>
  OP (cvBS t31 M1) fun t32 =>
  OP (bldS #[(.int .i64 0), (.int .i64 0), (.string ⟨#[]⟩)] [(0, 1), (1, 1), (2, 1)] [(0, (.int .i64 1)), (2, t32)]) fun t33 =>
  OP (bldL (.agg #[(.int .i64 0), (.int .i64 0), (.string ⟨#[]⟩)]) 3 1 [(0, t33)]) fun c_1 =>
  LT (.slice (some ⟨M1.n, 0, none⟩) 1 1) (M1.push (some (.inl (c_1, Ty.api_Do, true)))) fun t34 M2 =>
  R F.fettleref10_Print #[t34, (.slice none 0 0)] M2 fun t35 M3 =>
  R F.fettleref10_Value #[t35] M3 fun t38 M4 =>
  OP (tup t38 0) fun t39 =>
  OP (tup t38 1) fun t40 =>
  OP (ixA 1 x0 x11) fun t43 =>
  OP (ld 1 false t43 M4) fun t44 =>
  OP (binI .and t44 (.int .i64 3)) fun t45 =>
  OP (bldL (.string ⟨#[]⟩) 1 3 [(0, (.string ⟨#[97]⟩)), (1, (.string ⟨#[98]⟩)), (2, (.string ⟨#[99]⟩))]) fun c_2 =>
  LT (.slice (some ⟨M4.n, 0, none⟩) 3 3) (M4.push (some (.inl (c_2, Ty.string, true)))) fun t46 M5 =>
  OP (ixA 1 x0 x11) fun t49 =>
  OP (ld 1 false t49 M5) fun t50 =>
  OP (binI .shr t50 (.int .u64 2)) fun t51 =>
  OP (binI .and t51 (.int .i64 255)) fun t52 =>
  OP (binI .rem t52 (.int .i64 3)) fun t53 =>
  OP (ixA 1 t46 t53) fun t54 =>
  OP (ld 1 false t54 M5) fun t55 =>
  R F.fettleref10_Make #[t35, t39] M5 fun t58 M6 =>
  TDj [15, 16] [M4.n, M4.n, M4.n, M4.n, M4.n, M4.n, M5.n, M5.n, M5.n, M5.n, M5.n, M5.n, M5.n, M5.n, M5.n, M5.n, M5.n, M5.n] M5 M6 ∧
  OP (bldS #[(.int .i64 0), (.string ⟨#[]⟩), (.slice none 0 0), (.bool false)] [(0, 1), (1, 1), (2, 1), (3, 1)] [(0, t45), (1, t55), (2, t58)]) fun t59 =>
  LT (.pointer (some ⟨M6.n, 0, none⟩)) (M6.push (some (.inl ([(.int .i64 0), (.string ⟨#[]⟩), (.slice none 0 0), (.bool false)], Ty.api_Commit, true)))) fun t15 M7 =>
  OP (st 4 t15 t59 M7) fun M8 =>
  TDx [0, 0, 3, 7, 15, 0, 0, 0, 192, 448, 960, 1984, 4032, 8160, 16352, 0, 0, 98304, 262143, 0, 1048575] [M4.n, M4.n, M4.n, M4.n, M4.n, M4.n, M5.n, M5.n, M5.n, M5.n, M5.n, M5.n, M5.n, M5.n, M5.n, M5.n, M5.n, M5.n, M6.n, M6.n, M7.n] 20 M7 M8 ∧
  OP (ld 4 true t15 M8) fun t61 =>
  OP (bldL (.agg #[(.int .i64 0), (.string ⟨#[]⟩), (.slice none 0 0), (.bool false)]) 4 1 [(0, t61)]) fun c_3 =>
  LT (.slice (some ⟨M8.n, 0, none⟩) 1 1) (M8.push (some (.inl (c_3, Ty.api_Commit, true)))) fun t62 M9 =>
  OP2 (appV 4 Ty.api_Commit x9 t62 M9) fun t63 M10 =>
  OP (cvI .u64 x11) fun t66 =>
  OP (binI .shr x1 t66) fun t67 =>
  OP (binI .and t67 (.int .i64 1)) fun t68 =>
  OP (binI .eql t68 (.int .i64 1)) fun t69 =>
  BR t69 (
  OP (fad 1 t15) fun t71 =>
  OP (ld 1 false t71 M10) fun t72 =>
  OP (fad 0 t15) fun t73 =>
  OP (ld 1 false t73 M10) fun t74 =>
  OP (bldS #[(.string ⟨#[]⟩), (.int .i64 0), (.int .i64 0), (.slice none 0 0)] [(0, 1), (1, 1), (2, 1), (3, 1)] [(0, t72), (1, t74), (3, t35)]) fun t76 =>
  OP (bldL (.agg #[(.string ⟨#[]⟩), (.int .i64 0), (.int .i64 0), (.slice none 0 0)]) 4 1 [(0, t76)]) fun c_4 =>
  LT (.slice (some ⟨M10.n, 0, none⟩) 1 1) (M10.push (some (.inl (c_4, Ty.api_Done, true)))) fun t77 M11 =>
  OP2 (appV 4 Ty.api_Done x10 t77 M11) fun t78 M12 =>
  OP (binI .add x11 (.int .i64 1)) fun t27 =>
  P_fettlelaw25_HistParts_1 x0 x1 x2 x3 t63 t78 t27 M12 Q
  ) (
  OP (binI .add x11 (.int .i64 1)) fun t27_1 =>
  P_fettlelaw25_HistParts_1 x0 x1 x2 x3 t63 x10 t27_1 M10 Q
  )
theorem T_fettlelaw25_HistParts_2 {x0 x1 x2 x3 x9 x10 x11 : Value} {M : Store} {Q : Value → Store → Prop} (h : S_fettlelaw25_HistParts_2 x0 x1 x2 x3 x9 x10 x11 M Q) : P_fettlelaw25_HistParts_2 x0 x1 x2 x3 x9 x10 x11 M Q := by
  intro f h0 h1 h2 h3 h9 h10 h11; subst h0; subst h1; subst h2; subst h3; subst h9; subst h10; subst h11
  unfold At
  exact rule (B := 1000) (N := 182) (ct := .no)
    [⟨0, fun a M => dfr a.defers (P_fettlelaw25_HistParts_1 (a.get 0) (a.get 1) (a.get 2) (a.get 3) (a.get 9) (a.get 10) (a.get 11) M Q), fun a M => At Try.prog Ex none Try.f11 [1, 1, 1, 0, 1, 0] a M Q⟩]
    [] [0] (by kernel_rfl) (by kernel_rfl) (by kernel_rfl) (by kernel_rfl) (by kernel_rfl)
    ⟨fun a M hn h => by obtain ⟨⟨n, f⟩, ds⟩ := a; have hn : n = 182 := hn; subst hn; obtain ⟨hd, h⟩ := dfr_iff h; have hd : ds = [] := hd; subst hd; exact h f rfl rfl rfl rfl rfl rfl rfl,
    trivial⟩
    (cast (by kernel_rfl) h)
def S_fettlelaw25_HistParts_3 (x2 x3 x9 x10 : Value) (M : Store) (Q : Value → Store → Prop) : Prop :=
  R F.hist_Honest #[x9] M fun t80 M1 =>
  OP (aun .not t80) fun t81 =>
  BR t81 (
  NTs [(.bool false)] ∧ Q (.bool false) M1
  ) (
  R F.hist_Within #[x10, x9] M1 fun t85 M2 =>
  OP (aun .not t85) fun t86 =>
  BR t86 (
  NTs [(.bool false)] ∧ Q (.bool false) M2
  ) (
  OP (bldL (.agg #[(.int .i64 0), (.string ⟨#[]⟩), (.slice none 0 0), (.bool false)]) 4 0 []) fun c =>
  LT (.slice (some ⟨M2.n, 0, none⟩) 0 0) (M2.push (some (.inl (c, Ty.api_Commit, true)))) fun t90 M3 =>
  OP2 (appV 4 Ty.api_Commit t90 x9 M3) fun t92 M4 =>
  R F.fettlelaw25_Commit #[x2] M4 fun t94 M5 =>
  OP (bldL (.agg #[(.int .i64 0), (.string ⟨#[]⟩), (.slice none 0 0), (.bool false)]) 4 1 [(0, t94)]) fun c_1 =>
  LT (.slice (some ⟨M5.n, 0, none⟩) 1 1) (M5.push (some (.inl (c_1, Ty.api_Commit, true)))) fun t95 M6 =>
  OP2 (appV 4 Ty.api_Commit t92 t95 M6) fun t96 M7 =>
  R F.hist_Within #[x10, t96] M7 fun t97 M8 =>
  OP (aun .not t97) fun t98 =>
  BR t98 (
  NTs [(.bool false)] ∧ Q (.bool false) M8
  ) (
  OP (lenV x10) fun t101 =>
  P_fettlelaw25_HistParts_4 x2 x3 x9 x10 t101 (.int .i64 0) M8 Q
  )
  )
  )
theorem T_fettlelaw25_HistParts_3 {x2 x3 x9 x10 : Value} {M : Store} {Q : Value → Store → Prop} (h : S_fettlelaw25_HistParts_3 x2 x3 x9 x10 M Q) : P_fettlelaw25_HistParts_3 x2 x3 x9 x10 M Q := by
  intro f h2 h3 h9 h10; subst h2; subst h3; subst h9; subst h10
  unfold At
  exact rule (B := 1000) (N := 182) (ct := (.two .no (.two (.two .no (.two (.here 1000) .no)) (.here 1001))))
    [⟨1002, fun a M => dfr a.defers (P_fettlelaw25_HistParts_4 (a.get 2) (a.get 3) (a.get 9) (a.get 10) (a.get 101) (a.get 102) M Q), fun a M => At Try.prog Ex none Try.f11 [1, 1, 1, 1, 1, 0, 1, 0] a M Q⟩,
    ⟨1003, fun _ _ => False, fun a M => At Try.prog Ex none Try.f11 [1, 1, 1, 1, 1, 1] a M Q⟩,
    ⟨1, fun a M => kfin Try.prog Try.f11.results.toList Q 1 a M, fun a M => kfin Try.prog Try.f11.results.toList Q 1 a M⟩]
    [1000, 1001] [1] (by kernel_rfl) (by kernel_rfl) (by kernel_rfl) (by kernel_rfl) (by kernel_rfl)
    ⟨fun a M hn h => by obtain ⟨⟨n, f⟩, ds⟩ := a; have hn : n = 182 := hn; subst hn; obtain ⟨hd, h⟩ := dfr_iff h; have hd : ds = [] := hd; subst hd; exact h f rfl rfl rfl rfl rfl rfl,
    fun _ _ _ h => h.elim,
    fun _ _ _ h => h,
    trivial⟩
    (cast (by kernel_rfl) h)
def S_fettlelaw25_HistParts_4 (x2 x3 x9 x10 x101 x102 : Value) (M : Store) (Q : Value → Store → Prop) : Prop :=
  OP (binI .lss x102 x101) fun t103 =>
  BR t103 (
  P_fettlelaw25_HistParts_5 x2 x3 x9 x10 x101 x102 M Q
  ) (
  P_fettlelaw25_HistParts_6 x2 x3 x9 x10 M Q
  )
theorem T_fettlelaw25_HistParts_4 {x2 x3 x9 x10 x101 x102 : Value} {M : Store} {Q : Value → Store → Prop} (h : S_fettlelaw25_HistParts_4 x2 x3 x9 x10 x101 x102 M Q) : P_fettlelaw25_HistParts_4 x2 x3 x9 x10 x101 x102 M Q := by
  intro f h2 h3 h9 h10 h101 h102; subst h2; subst h3; subst h9; subst h10; subst h101; subst h102
  unfold At
  refine cast (by kernel_rfl) (CW.loop (P := Try.prog) (E := Ex) (rd := none) (x := sub (bodyOf Try.f11) [1, 1, 1, 1, 1, 0, 1, 0, 0]) (a := ⟨⟨182, f⟩, []⟩) (M := M) (K := kcont Try.prog Ex none (bodyOf Try.f11) [1, 1, 1, 1, 1, 0, 1, 0] (kfin Try.prog Try.f11.results.toList Q)) ?_)
  exact rule (B := 1000) (N := 182) (ct := (.two .no (.two .no (.here 1000))))
    [⟨1002, fun a M => dfr a.defers (P_fettlelaw25_HistParts_5 (a.get 2) (a.get 3) (a.get 9) (a.get 10) (a.get 101) (a.get 102) M Q), fun a M => At Try.prog Ex none Try.f11 [1, 1, 1, 1, 1, 0, 1, 0, 0, 1, 1] a M Q⟩,
    ⟨4, fun a M => dfr a.defers (P_fettlelaw25_HistParts_6 (a.get 2) (a.get 3) (a.get 9) (a.get 10) M Q), fun a M => At Try.prog Ex none Try.f11 [1, 1, 1, 1, 1, 1] a M Q⟩]
    [1000] [4] (by kernel_rfl) (by kernel_rfl) (by kernel_rfl) (by kernel_rfl) (by kernel_rfl)
    ⟨fun a M hn h => by obtain ⟨⟨n, f⟩, ds⟩ := a; have hn : n = 182 := hn; subst hn; obtain ⟨hd, h⟩ := dfr_iff h; have hd : ds = [] := hd; subst hd; exact h f rfl rfl rfl rfl rfl rfl,
    fun a M hn h => by obtain ⟨⟨n, f⟩, ds⟩ := a; have hn : n = 182 := hn; subst hn; obtain ⟨hd, h⟩ := dfr_iff h; have hd : ds = [] := hd; subst hd; exact h f rfl rfl rfl rfl,
    trivial⟩
    (cast (by kernel_rfl) h)
def S_fettlelaw25_HistParts_5 (x2 x3 x9 x10 x101 x102 : Value) (M : Store) (Q : Value → Store → Prop) : Prop :=
  OP (slV 4 Ty.api_Done x10 none (some x102) M) fun t107 =>
  R F.hist_Within #[t107, x9] M fun t109 M1 =>
  TDx [0, 0, 3, 0, 15, 31, 63, 127, 127, 127, 895, 2047, 127, 127, 8319, 28799, 65535, 127, 262143, 524287, 1048575] [M.n, M.n, M.n, M.n, M.n] 4 M M1 ∧
  OP (aun .not t109) fun t110 =>
  BR t110 (
  NTs [(.bool false)] ∧ Q (.bool false) M1
  ) (
  OP (bldL (.agg #[(.string ⟨#[]⟩), (.int .i64 0), (.int .i64 0), (.slice none 0 0)]) 4 0 []) fun c =>
  LT (.slice (some ⟨M1.n, 0, none⟩) 0 0) (M1.push (some (.inl (c, Ty.api_Done, true)))) fun t112 M2 =>
  OP (slV 4 Ty.api_Done x10 none (some x102) M2) fun t115 =>
  OP2 (appV 4 Ty.api_Done t112 t115 M2) fun t116 M3 =>
  TDj [7, 8, 9, 10] [M.n, M.n, M.n, M.n, M.n, M1.n, M1.n, M1.n, M2.n, M2.n, M2.n, M2.n] M2 M3 ∧
  OP (binI .add x102 (.int .i64 1)) fun t119 =>
  OP (slV 4 Ty.api_Done x10 (some t119) none M3) fun t120 =>
  OP2 (appV 4 Ty.api_Done t116 t120 M3) fun t121 M4 =>
  TDx [0, 0, 3, 0, 15, 31, 63, 127, 127, 127, 895, 2047, 127, 127, 8319, 28799, 65535, 127, 262143, 524287, 1048575] [M.n, M.n, M.n, M.n, M.n, M1.n, M1.n, M1.n, M2.n, M2.n, M2.n, M2.n, M3.n, M3.n, M3.n, M3.n, M3.n] 16 M3 M4 ∧
  R F.hist_Within #[t121, x9] M4 fun t123 M5 =>
  TDx [0, 0, 3, 0, 15, 31, 63, 127, 127, 127, 895, 2047, 127, 127, 8319, 28799, 65535, 127, 262143, 524287, 1048575] [M.n, M.n, M.n, M.n, M.n, M1.n, M1.n, M1.n, M2.n, M2.n, M2.n, M2.n, M3.n, M3.n, M3.n, M3.n, M3.n, M4.n, M4.n] 18 M4 M5 ∧
  OP (aun .not t123) fun t124 =>
  BR t124 (
  NTs [(.bool false)] ∧ Q (.bool false) M5
  ) (
  OP (binI .add x102 (.int .i64 1)) fun t126 =>
  P_fettlelaw25_HistParts_4 x2 x3 x9 x10 x101 t126 M5 Q
  )
  )
theorem T_fettlelaw25_HistParts_5 {x2 x3 x9 x10 x101 x102 : Value} {M : Store} {Q : Value → Store → Prop} (h : S_fettlelaw25_HistParts_5 x2 x3 x9 x10 x101 x102 M Q) : P_fettlelaw25_HistParts_5 x2 x3 x9 x10 x101 x102 M Q := by
  intro f h2 h3 h9 h10 h101 h102; subst h2; subst h3; subst h9; subst h10; subst h101; subst h102
  unfold At
  exact rule (B := 1000) (N := 182) (ct := .no)
    [⟨0, fun a M => dfr a.defers (P_fettlelaw25_HistParts_4 (a.get 2) (a.get 3) (a.get 9) (a.get 10) (a.get 101) (a.get 102) M Q), fun a M => At Try.prog Ex none Try.f11 [1, 1, 1, 1, 1, 0, 1, 0] a M Q⟩,
    ⟨1, fun a M => kfin Try.prog Try.f11.results.toList Q 1 a M, fun a M => kfin Try.prog Try.f11.results.toList Q 1 a M⟩]
    [] [0, 1] (by kernel_rfl) (by kernel_rfl) (by kernel_rfl) (by kernel_rfl) (by kernel_rfl)
    ⟨fun a M hn h => by obtain ⟨⟨n, f⟩, ds⟩ := a; have hn : n = 182 := hn; subst hn; obtain ⟨hd, h⟩ := dfr_iff h; have hd : ds = [] := hd; subst hd; exact h f rfl rfl rfl rfl rfl rfl,
    fun _ _ _ h => h,
    trivial⟩
    (cast (by kernel_rfl) h)
def S_fettlelaw25_HistParts_6 (x2 x3 x9 x10 : Value) (M : Store) (Q : Value → Store → Prop) : Prop :=
  OP (lenV x10) fun t128 =>
  OP (binI .lss t128 (.int .i64 2)) fun t129 =>
  BR t129 (
  R F.fettlelaw25_awake #[] M fun t130 M1 =>
  NTs [t130] ∧ Q t130 M1
  ) (
  OP (binI .and x2 (.int .i64 255)) fun t132 =>
  OP (lenV x10) fun t134 =>
  OP (binI .rem t132 t134) fun t135 =>
  OP (binI .and x3 (.int .i64 255)) fun t137 =>
  OP (lenV x10) fun t139 =>
  OP (binI .rem t137 t139) fun t140 =>
  OP (bldL (.agg #[(.string ⟨#[]⟩), (.int .i64 0), (.int .i64 0), (.slice none 0 0)]) 4 0 []) fun c =>
  LT (.slice (some ⟨M.n, 0, none⟩) 0 0) (M.push (some (.inl (c, Ty.api_Done, true)))) fun t141 M2 =>
  OP2 (appV 4 Ty.api_Done t141 x10 M2) fun t143 M3 =>
  OP (ixA 4 t143 t140) fun t150 =>
  OP (ld 4 true t150 M3) fun t151 =>
  OP (ixA 4 t143 t135) fun t154 =>
  OP (ld 4 true t154 M3) fun t155 =>
  OP (ixA 4 t143 t135) fun t156 =>
  OP (st 4 t156 t151 M3) fun M4 =>
  TDx [0, 0, 0, 0, 0, 0, 48, 112, 0, 0, 768, 1792, 4083, 8179, 16383, 32767] [M3.n, M3.n, M3.n, M3.n, M3.n, M3.n, M3.n, M3.n, M3.n, M3.n, M3.n, M3.n, M3.n, M3.n] 13 M3 M4 ∧
  OP (ixA 4 t143 t140) fun t157 =>
  OP (st 4 t157 t155 M4) fun M5 =>
  TDx [0, 0, 0, 0, 0, 0, 48, 112, 0, 0, 768, 1792, 4083, 8179, 16383, 32767] [M3.n, M3.n, M3.n, M3.n, M3.n, M3.n, M3.n, M3.n, M3.n, M3.n, M3.n, M3.n, M3.n, M3.n, M4.n, M4.n] 15 M4 M5 ∧
  OP (binI .eql t135 t140) fun t160 =>
  R F.hist_Within #[t143, x9] M5 fun t163 M6 =>
  TDx [0, 0, 3, 0, 0, 24, 63, 127, 255, 255, 1023, 255, 255, 6399, 14591, 30975, 65535, 255, 262143, 524287, 1048575, 2097151, 4194303, 8388607, 16777215] [M5.n, M5.n, M5.n, M5.n, M5.n, M5.n] 5 M5 M6 ∧
  OP (abin Try.prog false .eql Ty.bool t160 t163) fun t164 =>
  BR t164 (
  OP (bldL (.agg #[(.string ⟨#[]⟩), (.int .i64 0), (.int .i64 0), (.slice none 0 0)]) 4 0 []) fun c_1 =>
  LT (.slice (some ⟨M6.n, 0, none⟩) 0 0) (M6.push (some (.inl (c_1, Ty.api_Done, true)))) fun t166 M7 =>
  OP2 (appV 4 Ty.api_Done t166 x10 M7) fun t168 M8 =>
  TDj [8, 9] [M5.n, M5.n, M5.n, M5.n, M5.n, M5.n, M6.n, M6.n, M6.n, M7.n, M7.n] M7 M8 ∧
  OP (ixA 4 x10 t135) fun t171 =>
  OP (ld 4 true t171 M8) fun t172 =>
  OP (bldL (.agg #[(.string ⟨#[]⟩), (.int .i64 0), (.int .i64 0), (.slice none 0 0)]) 4 1 [(0, t172)]) fun c_2 =>
  LT (.slice (some ⟨M8.n, 0, none⟩) 1 1) (M8.push (some (.inl (c_2, Ty.api_Done, true)))) fun t173 M9 =>
  OP2 (appV 4 Ty.api_Done t168 t173 M9) fun t174 M10 =>
  TDx [0, 0, 3, 0, 0, 24, 63, 127, 255, 255, 1023, 255, 255, 6399, 14591, 30975, 65535, 255, 262143, 524287, 1048575, 2097151, 4194303, 8388607, 16777215] [M5.n, M5.n, M5.n, M5.n, M5.n, M5.n, M6.n, M6.n, M6.n, M7.n, M7.n, M8.n, M8.n, M8.n, M8.n, M8.n, M9.n] 16 M9 M10 ∧
  R F.hist_Within #[t174, x9] M10 fun t176 M11 =>
  TDx [0, 0, 3, 0, 0, 24, 63, 127, 255, 255, 1023, 255, 255, 6399, 14591, 30975, 65535, 255, 262143, 524287, 1048575, 2097151, 4194303, 8388607, 16777215] [M5.n, M5.n, M5.n, M5.n, M5.n, M5.n, M6.n, M6.n, M6.n, M7.n, M7.n, M8.n, M8.n, M8.n, M8.n, M8.n, M9.n, M10.n, M10.n] 18 M10 M11 ∧
  OP (aun .not t176) fun t177 =>
  BR t177 (
  R F.fettlelaw25_awake #[] M11 fun t180 M12 =>
  TDx [0, 0, 3, 0, 0, 24, 63, 127, 255, 255, 1023, 255, 255, 6399, 14591, 30975, 65535, 255, 262143, 524287, 1048575, 2097151, 4194303, 8388607, 16777215] [M5.n, M5.n, M5.n, M5.n, M5.n, M5.n, M6.n, M6.n, M6.n, M7.n, M7.n, M8.n, M8.n, M8.n, M8.n, M8.n, M9.n, M10.n, M10.n, M11.n, M11.n, M11.n, M11.n] 22 M11 M12 ∧
  NTs [t180] ∧ Q t180 M12
  ) (
  NTs [(.bool false)] ∧ Q (.bool false) M11
  )
  ) (
  NTs [(.bool false)] ∧ Q (.bool false) M6
  )
  )
theorem T_fettlelaw25_HistParts_6 {x2 x3 x9 x10 : Value} {M : Store} {Q : Value → Store → Prop} (h : S_fettlelaw25_HistParts_6 x2 x3 x9 x10 M Q) : P_fettlelaw25_HistParts_6 x2 x3 x9 x10 M Q := by
  intro f h2 h3 h9 h10; subst h2; subst h3; subst h9; subst h10
  unfold At
  exact rule (B := 1000) (N := 182) (ct := .no)
    [⟨1, fun a M => kfin Try.prog Try.f11.results.toList Q 1 a M, fun a M => kfin Try.prog Try.f11.results.toList Q 1 a M⟩]
    [] [1] (by kernel_rfl) (by kernel_rfl) (by kernel_rfl) (by kernel_rfl) (by kernel_rfl)
    ⟨fun _ _ _ h => h,
    trivial⟩
    (cast (by kernel_rfl) h)
end Go.G
