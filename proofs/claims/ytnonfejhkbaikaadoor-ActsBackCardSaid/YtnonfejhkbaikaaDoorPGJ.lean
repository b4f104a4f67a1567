/-  -/
import Derived.Test.YtnonfejhkbaikaaDoorPGN
open Go.RowKit
namespace Go.G
open Go.Ab Go.Proofs
set_option linter.unusedVariables false
set_option maxRecDepth 100000
def P_fettlelaw6_ActsBack_1 (x1 x2 x7 x8 x9 x24 x25 x26 : Value) (M : Store) (Q : Value → Store → Prop) : Prop :=
  ∀ f : Nat → Value, f 1 = x1 → f 2 = x2 → f 7 = x7 → f 8 = x8 → f 9 = x9 → f 24 = x24 → f 25 = x25 → f 26 = x26 → At Tryd.prog Ex none Tryd.f5 [1, 1, 1, 1, 0, 1, 0] ⟨⟨136, f⟩, []⟩ M Q
def P_fettlelaw6_ActsBack_2 (x1 x2 x7 x8 x9 x24 x25 x26 : Value) (M : Store) (Q : Value → Store → Prop) : Prop :=
  ∀ f : Nat → Value, f 1 = x1 → f 2 = x2 → f 7 = x7 → f 8 = x8 → f 9 = x9 → f 24 = x24 → f 25 = x25 → f 26 = x26 → At Tryd.prog Ex none Tryd.f5 [1, 1, 1, 1, 0, 1, 0, 0, 1, 1] ⟨⟨136, f⟩, []⟩ M Q
def P_fettlelaw6_ActsBack_3 (x1 x2 x7 x8 : Value) (M : Store) (Q : Value → Store → Prop) : Prop :=
  ∀ f : Nat → Value, f 1 = x1 → f 2 = x2 → f 7 = x7 → f 8 = x8 → At Tryd.prog Ex none Tryd.f5 [1, 1, 1, 1, 1] ⟨⟨136, f⟩, []⟩ M Q
def P_fettlelaw6_ActsBack_4 (x1 x2 x7 x8 x9 x11 x24 x25 x26 : Value) (M : Store) (Q : Value → Store → Prop) : Prop :=
  ∀ f : Nat → Value, f 1 = x1 → f 2 = x2 → f 7 = x7 → f 8 = x8 → f 9 = x9 → f 11 = x11 → f 24 = x24 → f 25 = x25 → f 26 = x26 → At Tryd.prog Ex none Tryd.f5 [1, 1, 1, 1, 0, 1, 0, 0, 1, 1, 0, 0, 1, 1] ⟨⟨136, f⟩, []⟩ M Q
def P_fettlelaw6_ActsBack_5 (x1 x2 x7 x8 x9 x11 x24 x25 x26 x47 x48 : Value) (M : Store) (Q : Value → Store → Prop) : Prop :=
  ∀ f : Nat → Value, f 1 = x1 → f 2 = x2 → f 7 = x7 → f 8 = x8 → f 9 = x9 → f 11 = x11 → f 24 = x24 → f 25 = x25 → f 26 = x26 → f 47 = x47 → f 48 = x48 → At Tryd.prog Ex none Tryd.f5 [1, 1, 1, 1, 0, 1, 0, 0, 1, 1, 0, 0, 1, 1, 1, 1, 0, 1] ⟨⟨136, f⟩, []⟩ M Q
def P_fettlelaw6_ActsBack_6 (x1 x2 x7 x8 x9 x24 x25 x26 : Value) (M : Store) (Q : Value → Store → Prop) : Prop :=
  ∀ f : Nat → Value, f 1 = x1 → f 2 = x2 → f 7 = x7 → f 8 = x8 → f 9 = x9 → f 24 = x24 → f 25 = x25 → f 26 = x26 → At Tryd.prog Ex none Tryd.f5 [1, 1, 1, 1, 0, 1, 0, 0, 1, 1, 1] ⟨⟨136, f⟩, []⟩ M Q
def P_fettlelaw6_ActsBack_7 (x1 x2 x7 x8 x9 x11 x24 x25 x26 x57 : Value) (M : Store) (Q : Value → Store → Prop) : Prop :=
  ∀ f : Nat → Value, f 1 = x1 → f 2 = x2 → f 7 = x7 → f 8 = x8 → f 9 = x9 → f 11 = x11 → f 24 = x24 → f 25 = x25 → f 26 = x26 → f 57 = x57 → At Tryd.prog Ex none Tryd.f5 [1, 1, 1, 1, 0, 1, 0, 0, 1, 1, 0, 0, 1, 1, 1, 1, 0, 1, 1, 1] ⟨⟨136, f⟩, []⟩ M Q
def S_fettlelaw6_ActsBack (x0 x1 x2 : Value) (M : Store) (Q : Value → Store → Prop) : Prop :=
  R F.fettlelaw6_Act #[x0] M fun t22 M1 =>
  OP (bldL (.string ⟨#[]⟩) 1 12 [(0, (.string ⟨#[]⟩)), (1, (.string ⟨#[116, 101, 120, 116]⟩)), (2, (.string ⟨#[105, 110]⟩)), (3, (.string ⟨#[97, 108, 108]⟩)), (4, (.string ⟨#[117, 112, 112, 101, 114]⟩)), (5, (.string ⟨#[108, 111, 119, 101, 114]⟩)), (6, (.string ⟨#[114, 101, 118]⟩)), (7, (.string ⟨#[116, 97, 107, 101]⟩)), (8, (.string ⟨#[100, 114, 111, 112]⟩)), (9, (.string ⟨#[116, 119, 105, 99, 101]⟩)), (10, (.string ⟨#[106, 111, 105, 110]⟩)), (11, (.string ⟨#[102, 97, 105, 108]⟩))]) fun c =>
  LT (.slice (some ⟨M1.n, 0, none⟩) 12 12) (M1.push (some (.inl (c, Ty.string, true)))) fun t23 M2 =>
  OP (lenV t22) fun t25 =>
  P_fettlelaw6_ActsBack_1 x1 x2 t22 (.slice none 0 0) t23 t22 t25 (.int .i64 0) M2 Q
theorem T_fettlelaw6_ActsBack {x0 x1 x2 : Value} {M : Store} {Q : Value → Store → Prop} (h : S_fettlelaw6_ActsBack x0 x1 x2 M Q) : R F.fettlelaw6_ActsBack #[x0, x1, x2] M Q := by
  refine runs_of (c := bodyOf Tryd.f5) Tryd.func5 rfl (by kernel_rfl) (by kernel_rfl) ?_
  unfold At
  exact rule (B := 1000) (N := 136) (ct := (.two .no (.two .no (.two .no (.two .no (.two (.two .no (.two (.here 1000) .no)) (.here 1001)))))))
    [⟨1002, fun a M => dfr a.defers (P_fettlelaw6_ActsBack_1 (a.get 1) (a.get 2) (a.get 7) (a.get 8) (a.get 9) (a.get 24) (a.get 25) (a.get 26) M Q), fun a M => At Tryd.prog Ex none Tryd.f5 [1, 1, 1, 1, 0, 1, 0] a M Q⟩,
    ⟨1003, fun _ _ => False, fun a M => At Tryd.prog Ex none Tryd.f5 [1, 1, 1, 1, 1] a M Q⟩]
    [1000, 1001] [] (by kernel_rfl) (by kernel_rfl) (by kernel_rfl) (by kernel_rfl) (by kernel_rfl)
    ⟨fun a M hn h => by obtain ⟨⟨n, f⟩, ds⟩ := a; have hn : n = 136 := hn; subst hn; obtain ⟨hd, h⟩ := dfr_iff h; have hd : ds = [] := hd; subst hd; exact h f rfl rfl rfl rfl rfl rfl rfl rfl,
    fun _ _ _ h => h.elim,
    trivial⟩
    (cast (by kernel_rfl) h)
def S_fettlelaw6_ActsBack_1 (x1 x2 x7 x8 x9 x24 x25 x26 : Value) (M : Store) (Q : Value → Store → Prop) : Prop :=
  OP (binI .lss x26 x25) fun t27 =>
  BR t27 (
  P_fettlelaw6_ActsBack_2 x1 x2 x7 x8 x9 x24 x25 x26 M Q
  ) (
  P_fettlelaw6_ActsBack_3 x1 x2 x7 x8 M Q
  )
theorem T_fettlelaw6_ActsBack_1 {x1 x2 x7 x8 x9 x24 x25 x26 : Value} {M : Store} {Q : Value → Store → Prop} (h : S_fettlelaw6_ActsBack_1 x1 x2 x7 x8 x9 x24 x25 x26 M Q) : P_fettlelaw6_ActsBack_1 x1 x2 x7 x8 x9 x24 x25 x26 M Q := by
  intro f h1 h2 h7 h8 h9 h24 h25 h26; subst h1; subst h2; subst h7; subst h8; subst h9; subst h24; subst h25; subst h26
  unfold At
  refine cast (by kernel_rfl) (CW.loop (P := Tryd.prog) (E := Ex) (rd := none) (x := sub (bodyOf Tryd.f5) [1, 1, 1, 1, 0, 1, 0, 0]) (a := ⟨⟨136, f⟩, []⟩) (M := M) (K := kcont Tryd.prog Ex none (bodyOf Tryd.f5) [1, 1, 1, 1, 0, 1, 0] (kfin Tryd.prog Tryd.f5.results.toList Q)) ?_)
  exact rule (B := 1000) (N := 136) (ct := (.two .no (.two .no (.here 1000))))
    [⟨1002, fun a M => dfr a.defers (P_fettlelaw6_ActsBack_2 (a.get 1) (a.get 2) (a.get 7) (a.get 8) (a.get 9) (a.get 24) (a.get 25) (a.get 26) M Q), fun a M => At Tryd.prog Ex none Tryd.f5 [1, 1, 1, 1, 0, 1, 0, 0, 1, 1] a M Q⟩,
    ⟨2, fun a M => dfr a.defers (P_fettlelaw6_ActsBack_3 (a.get 1) (a.get 2) (a.get 7) (a.get 8) M Q), fun a M => At Tryd.prog Ex none Tryd.f5 [1, 1, 1, 1, 1] a M Q⟩]
    [1000] [2] (by kernel_rfl) (by kernel_rfl) (by kernel_rfl) (by kernel_rfl) (by kernel_rfl)
    ⟨fun a M hn h => by obtain ⟨⟨n, f⟩, ds⟩ := a; have hn : n = 136 := hn; subst hn; obtain ⟨hd, h⟩ := dfr_iff h; have hd : ds = [] := hd; subst hd; exact h f rfl rfl rfl rfl rfl rfl rfl rfl,
    fun a M hn h => by obtain ⟨⟨n, f⟩, ds⟩ := a; have hn : n = 136 := hn; subst hn; obtain ⟨hd, h⟩ := dfr_iff h; have hd : ds = [] := hd; subst hd; exact h f rfl rfl rfl rfl,
    trivial⟩
    (cast (by kernel_rfl) h)
def S_fettlelaw6_ActsBack_2 (x1 x2 x7 x8 x9 x24 x25 x26 : Value) (M : Store) (Q : Value → Store → Prop) : Prop :=
  OP (ixA 3 x24 x26) fun t29 =>
  OP (ld 3 true t29 M) fun t30 =>
  LT (.pointer (some ⟨M.n, 0, none⟩)) (M.push (some (.inl ([(.int .i64 0), (.int .i64 0), (.string ⟨#[]⟩)], Ty.api_Do, true)))) fun t11 M1 =>
  OP (st 3 t11 t30 M1) fun M2 =>
  OP (binI .gtr x26 (.int .i64 0)) fun t32 =>
  BR t32 (
  OP (bldS #[(.string ⟨#[]⟩), (.int .i64 0), (.int .i64 0), (.bool false)] [(0, 1), (1, 1), (2, 1), (3, 1)] [(0, (.string ⟨#[59]⟩))]) fun t34 =>
  OP (bldL (.agg #[(.string ⟨#[]⟩), (.int .i64 0), (.int .i64 0), (.bool false)]) 4 1 [(0, t34)]) fun c =>
  LT (.slice (some ⟨M2.n, 0, none⟩) 1 1) (M2.push (some (.inl (c, Ty.api_Word, true)))) fun t35 M3 =>
  OP2 (appV 4 Ty.api_Word x8 t35 M3) fun t36 M4 =>
  P_fettlelaw6_ActsBack_4 x1 x2 x7 t36 x9 t11 x24 x25 x26 M4 Q
  ) (
  P_fettlelaw6_ActsBack_4 x1 x2 x7 x8 x9 t11 x24 x25 x26 M2 Q
  )
theorem T_fettlelaw6_ActsBack_2 {x1 x2 x7 x8 x9 x24 x25 x26 : Value} {M : Store} {Q : Value → Store → Prop} (h : S_fettlelaw6_ActsBack_2 x1 x2 x7 x8 x9 x24 x25 x26 M Q) : P_fettlelaw6_ActsBack_2 x1 x2 x7 x8 x9 x24 x25 x26 M Q := by
  intro f h1 h2 h7 h8 h9 h24 h25 h26; subst h1; subst h2; subst h7; subst h8; subst h9; subst h24; subst h25; subst h26
  unfold At
  exact rule (B := 1000) (N := 136) (ct := (.two (.two (.two .no (.two .no (.here 1000))) .no) (.here 1001)))
    [⟨1002, fun a M => dfr a.defers (P_fettlelaw6_ActsBack_4 (a.get 1) (a.get 2) (a.get 7) (a.get 8) (a.get 9) (a.get 11) (a.get 24) (a.get 25) (a.get 26) M Q), fun a M => At Tryd.prog Ex none Tryd.f5 [1, 1, 1, 1, 0, 1, 0, 0, 1, 1, 0, 0, 1, 1] a M Q⟩,
    ⟨1003, fun _ _ => False, fun a M => At Tryd.prog Ex none Tryd.f5 [1, 1, 1, 1, 0, 1, 0, 0, 1, 1, 1] a M Q⟩]
    [1000, 1001] [] (by kernel_rfl) (by kernel_rfl) (by kernel_rfl) (by kernel_rfl) (by kernel_rfl)
    ⟨fun a M hn h => by obtain ⟨⟨n, f⟩, ds⟩ := a; have hn : n = 136 := hn; subst hn; obtain ⟨hd, h⟩ := dfr_iff h; have hd : ds = [] := hd; subst hd; exact h f rfl rfl rfl rfl rfl rfl rfl rfl rfl,
    fun _ _ _ h => h.elim,
    trivial⟩
    (cast (by kernel_rfl) h)
def S_fettlelaw6_ActsBack_3 (x1 x2 x7 x8 : Value) (M : Store) (Q : Value → Store → Prop) : Prop :=
  R F.acts_Parse #[x8] M fun t71 M1 =>
  OP (tup t71 0) fun t72 =>
  OP (tup t71 1) fun t73 =>
  OP (binI .and x1 (.int .i64 255)) fun t75 =>
  OP (lenV x8) fun t77 =>
  OP (binI .add t77 (.int .i64 1)) fun t78 =>
  OP (binI .rem t75 t78) fun t79 =>
  OP (bldL (.string ⟨#[]⟩) 1 6 [(0, (.string ⟨#[97, 108, 108]⟩)), (1, (.string ⟨#[114, 101, 118]⟩)), (2, (.string ⟨#[55]⟩)), (3, (.string ⟨#[113]⟩)), (4, (.string ⟨#[59]⟩)), (5, (.string ⟨#[102, 97, 105, 108]⟩))]) fun c =>
  LT (.slice (some ⟨M1.n, 0, none⟩) 6 6) (M1.push (some (.inl (c, Ty.string, true)))) fun t80 M2 =>
  OP (binI .and x2 (.int .i64 255)) fun t82 =>
  OP (binI .rem t82 (.int .i64 6)) fun t83 =>
  OP (ixA 1 t80 t83) fun t84 =>
  OP (ld 1 false t84 M2) fun t85 =>
  OP (binI .shr x2 (.int .u64 8)) fun t87 =>
  OP (binI .and t87 (.int .i64 3)) fun t88 =>
  OP (binI .eql t88 (.int .i64 0)) fun t89 =>
  OP (bldS #[(.string ⟨#[]⟩), (.int .i64 0), (.int .i64 0), (.bool false)] [(0, 1), (1, 1), (2, 1), (3, 1)] [(0, t85), (3, t89)]) fun t90 =>
  LT (.pointer (some ⟨M2.n, 0, none⟩)) (M2.push (some (.inl ([(.string ⟨#[]⟩), (.int .i64 0), (.int .i64 0), (.bool false)], Ty.api_Word, true)))) fun t15 M3 =>
  OP (st 4 t15 t90 M3) fun M4 =>
  OP (bldL (.agg #[(.string ⟨#[]⟩), (.int .i64 0), (.int .i64 0), (.bool false)]) 4 0 []) fun c_1 =>
  LT (.slice (some ⟨M4.n, 0, none⟩) 0 0) (M4.push (some (.inl (c_1, Ty.api_Word, true)))) fun t91 M5 =>
  OP (slV 4 Ty.api_Word x8 none (some t79) M5) fun t94 =>
  OP2 (appV 4 Ty.api_Word t91 t94 M5) fun t95 M6 =>
  TDj [0, 1, 2, 3] [M4.n, M5.n, M5.n, M5.n, M5.n] M5 M6 ∧
  OP (ld 4 true t15 M6) fun t96 =>
  OP (bldL (.agg #[(.string ⟨#[]⟩), (.int .i64 0), (.int .i64 0), (.bool false)]) 4 1 [(0, t96)]) fun c_2 =>
  LT (.slice (some ⟨M6.n, 0, none⟩) 1 1) (M6.push (some (.inl (c_2, Ty.api_Word, true)))) fun t97 M7 =>
  OP2 (appV 4 Ty.api_Word t95 t97 M7) fun t98 M8 =>
  TDj [0, 1, 2, 3, 4, 5, 6] [M4.n, M5.n, M5.n, M5.n, M5.n, M6.n, M6.n, M7.n] M7 M8 ∧
  OP (slV 4 Ty.api_Word x8 (some t79) none M8) fun t101 =>
  OP2 (appV 4 Ty.api_Word t98 t101 M8) fun t102 M9 =>
  TDx [0, 0, 0, 6, 15, 0, 32, 127, 0, 0, 768, 2047, 4095] [M4.n, M5.n, M5.n, M5.n, M5.n, M6.n, M6.n, M7.n, M8.n, M8.n, M8.n, M8.n] 11 M8 M9 ∧
  R F.acts_Parse #[t102] M9 fun t105 M10 =>
  OP (tup t105 0) fun t106 =>
  OP (tup t105 1) fun t107 =>
  R F.fettleref4_ParseAct #[t102] M10 fun t110 M11 =>
  OP (tup t110 0) fun t111 =>
  OP (tup t110 1) fun t112 =>
  BR t73 (
  R F.fettleref4_SameAct #[x7, t72] M11 fun t117 M12 =>
  BR t117 (
  R F.acts_Ok #[x7] M12 fun t121 M13 =>
  BR t121 (
  OP (abin Tryd.prog false .eql Ty.bool t107 t112) fun t126 =>
  BR t126 (
  R F.fettleref4_SameAct #[t106, t111] M13 fun t131 M14 =>
  BR t131 (
  R F.fettlelaw6_awake #[] M14 fun t134 M15 =>
  NTs [t134] ∧ Q t134 M15
  ) (
  NTs [(.bool false)] ∧ Q (.bool false) M14
  )
  ) (
  NTs [(.bool false)] ∧ Q (.bool false) M13
  )
  ) (
  NTs [(.bool false)] ∧ Q (.bool false) M13
  )
  ) (
  NTs [(.bool false)] ∧ Q (.bool false) M12
  )
  ) (
  NTs [(.bool false)] ∧ Q (.bool false) M11
  )
theorem T_fettlelaw6_ActsBack_3 {x1 x2 x7 x8 : Value} {M : Store} {Q : Value → Store → Prop} (h : S_fettlelaw6_ActsBack_3 x1 x2 x7 x8 M Q) : P_fettlelaw6_ActsBack_3 x1 x2 x7 x8 M Q := by
  intro f h1 h2 h7 h8; subst h1; subst h2; subst h7; subst h8
  unfold At
  exact rule (B := 1000) (N := 136) (ct := .no)
    [⟨1, fun a M => kfin Tryd.prog Tryd.f5.results.toList Q 1 a M, fun a M => kfin Tryd.prog Tryd.f5.results.toList Q 1 a M⟩]
    [] [1] (by kernel_rfl) (by kernel_rfl) (by kernel_rfl) (by kernel_rfl) (by kernel_rfl)
    ⟨fun _ _ _ h => h,
    trivial⟩
    (cast (by kernel_rfl) h)
def S_fettlelaw6_ActsBack_4 (x1 x2 x7 x8 x9 x11 x24 x25 x26 : Value) (M : Store) (Q : Value → Store → Prop) : Prop :=
  OP (fad 0 x11) fun t39 =>
  OP (ld 1 false t39 M) fun t40 =>
  OP (ixA 1 x9 t40) fun t41 =>
  OP (ld 1 false t41 M) fun t42 =>
  OP (bldS #[(.string ⟨#[]⟩), (.int .i64 0), (.int .i64 0), (.bool false)] [(0, 1), (1, 1), (2, 1), (3, 1)] [(0, t42)]) fun t43 =>
  OP (bldL (.agg #[(.string ⟨#[]⟩), (.int .i64 0), (.int .i64 0), (.bool false)]) 4 1 [(0, t43)]) fun c =>
  LT (.slice (some ⟨M.n, 0, none⟩) 1 1) (M.push (some (.inl (c, Ty.api_Word, true)))) fun t44 M1 =>
  OP2 (appV 4 Ty.api_Word x8 t44 M1) fun t45 M2 =>
  OP (fad 0 x11) fun t46 =>
  OP (ld 1 false t46 M2) fun t47 =>
  OP (binI .eql t47 (.int .i64 1)) fun t49 =>
  BR t49 (
  P_fettlelaw6_ActsBack_5 x1 x2 x7 t45 x9 x11 x24 x25 x26 t47 t49 M2 Q
  ) (
  OP (binI .eql t47 (.int .i64 10)) fun t50 =>
  P_fettlelaw6_ActsBack_5 x1 x2 x7 t45 x9 x11 x24 x25 x26 t47 t50 M2 Q
  )
theorem T_fettlelaw6_ActsBack_4 {x1 x2 x7 x8 x9 x11 x24 x25 x26 : Value} {M : Store} {Q : Value → Store → Prop} (h : S_fettlelaw6_ActsBack_4 x1 x2 x7 x8 x9 x11 x24 x25 x26 M Q) : P_fettlelaw6_ActsBack_4 x1 x2 x7 x8 x9 x11 x24 x25 x26 M Q := by
  intro f h1 h2 h7 h8 h9 h11 h24 h25 h26; subst h1; subst h2; subst h7; subst h8; subst h9; subst h11; subst h24; subst h25; subst h26
  unfold At
  exact rule (B := 1000) (N := 136) (ct := (.two .no (.two .no (.two (.two .no (.here 1000)) .no))))
    [⟨1002, fun a M => dfr a.defers (P_fettlelaw6_ActsBack_5 (a.get 1) (a.get 2) (a.get 7) (a.get 8) (a.get 9) (a.get 11) (a.get 24) (a.get 25) (a.get 26) (a.get 47) (a.get 48) M Q), fun a M => At Tryd.prog Ex none Tryd.f5 [1, 1, 1, 1, 0, 1, 0, 0, 1, 1, 0, 0, 1, 1, 1, 1, 0, 1] a M Q⟩]
    [1000] [] (by kernel_rfl) (by kernel_rfl) (by kernel_rfl) (by kernel_rfl) (by kernel_rfl)
    ⟨fun a M hn h => by obtain ⟨⟨n, f⟩, ds⟩ := a; have hn : n = 136 := hn; subst hn; obtain ⟨hd, h⟩ := dfr_iff h; have hd : ds = [] := hd; subst hd; exact h f rfl rfl rfl rfl rfl rfl rfl rfl rfl rfl rfl,
    trivial⟩
    (cast (by kernel_rfl) h)
def S_fettlelaw6_ActsBack_5 (x1 x2 x7 x8 x9 x11 x24 x25 x26 x47 x48 : Value) (M : Store) (Q : Value → Store → Prop) : Prop :=
  BR x48 (
  OP (fad 2 x11) fun t52 =>
  OP (ld 1 false t52 M) fun t53 =>
  OP (bldS #[(.string ⟨#[]⟩), (.int .i64 0), (.int .i64 0), (.bool false)] [(0, 1), (1, 1), (2, 1), (3, 1)] [(0, t53), (3, (.bool true))]) fun t54 =>
  OP (bldL (.agg #[(.string ⟨#[]⟩), (.int .i64 0), (.int .i64 0), (.bool false)]) 4 1 [(0, t54)]) fun c =>
  LT (.slice (some ⟨M.n, 0, none⟩) 1 1) (M.push (some (.inl (c, Ty.api_Word, true)))) fun t55 M1 =>
  OP2 (appV 4 Ty.api_Word x8 t55 M1) fun t56 M2 =>
  P_fettlelaw6_ActsBack_6 x1 x2 x7 t56 x9 x24 x25 x26 M2 Q
  ) (
  OP (binI .eql x47 (.int .i64 2)) fun t58 =>
  BR t58 (
  P_fettlelaw6_ActsBack_7 x1 x2 x7 x8 x9 x11 x24 x25 x26 t58 M Q
  ) (
  OP (binI .eql x47 (.int .i64 7)) fun t59 =>
  BR t59 (
  P_fettlelaw6_ActsBack_7 x1 x2 x7 x8 x9 x11 x24 x25 x26 t59 M Q
  ) (
  OP (binI .eql x47 (.int .i64 8)) fun t60 =>
  P_fettlelaw6_ActsBack_7 x1 x2 x7 x8 x9 x11 x24 x25 x26 t60 M Q
  )
  )
  )
theorem T_fettlelaw6_ActsBack_5 {x1 x2 x7 x8 x9 x11 x24 x25 x26 x47 x48 : Value} {M : Store} {Q : Value → Store → Prop} (h : S_fettlelaw6_ActsBack_5 x1 x2 x7 x8 x9 x11 x24 x25 x26 x47 x48 M Q) : P_fettlelaw6_ActsBack_5 x1 x2 x7 x8 x9 x11 x24 x25 x26 x47 x48 M Q := by
  intro f h1 h2 h7 h8 h9 h11 h24 h25 h26 h47 h48; subst h1; subst h2; subst h7; subst h8; subst h9; subst h11; subst h24; subst h25; subst h26; subst h47; subst h48
  unfold At
  exact rule (B := 1000) (N := 136) (ct := (.two .no (.two .no (.here 1000))))
    [⟨1002, fun a M => dfr a.defers (P_fettlelaw6_ActsBack_7 (a.get 1) (a.get 2) (a.get 7) (a.get 8) (a.get 9) (a.get 11) (a.get 24) (a.get 25) (a.get 26) (a.get 57) M Q), fun a M => At Tryd.prog Ex none Tryd.f5 [1, 1, 1, 1, 0, 1, 0, 0, 1, 1, 0, 0, 1, 1, 1, 1, 0, 1, 1, 1] a M Q⟩,
    ⟨0, fun a M => dfr a.defers (P_fettlelaw6_ActsBack_6 (a.get 1) (a.get 2) (a.get 7) (a.get 8) (a.get 9) (a.get 24) (a.get 25) (a.get 26) M Q), fun a M => At Tryd.prog Ex none Tryd.f5 [1, 1, 1, 1, 0, 1, 0, 0, 1, 1, 1] a M Q⟩]
    [1000] [0] (by kernel_rfl) (by kernel_rfl) (by kernel_rfl) (by kernel_rfl) (by kernel_rfl)
    ⟨fun a M hn h => by obtain ⟨⟨n, f⟩, ds⟩ := a; have hn : n = 136 := hn; subst hn; obtain ⟨hd, h⟩ := dfr_iff h; have hd : ds = [] := hd; subst hd; exact h f rfl rfl rfl rfl rfl rfl rfl rfl rfl rfl,
    fun a M hn h => by obtain ⟨⟨n, f⟩, ds⟩ := a; have hn : n = 136 := hn; subst hn; obtain ⟨hd, h⟩ := dfr_iff h; have hd : ds = [] := hd; subst hd; exact h f rfl rfl rfl rfl rfl rfl rfl rfl,
    trivial⟩
    (cast (by kernel_rfl) h)
def S_fettlelaw6_ActsBack_6 (x1 x2 x7 x8 x9 x24 x25 x26 : Value) (M : Store) (Q : Value → Store → Prop) : Prop :=
  OP (binI .add x26 (.int .i64 1)) fun t68 =>
  P_fettlelaw6_ActsBack_1 x1 x2 x7 x8 x9 x24 x25 t68 M Q
theorem T_fettlelaw6_ActsBack_6 {x1 x2 x7 x8 x9 x24 x25 x26 : Value} {M : Store} {Q : Value → Store → Prop} (h : S_fettlelaw6_ActsBack_6 x1 x2 x7 x8 x9 x24 x25 x26 M Q) : P_fettlelaw6_ActsBack_6 x1 x2 x7 x8 x9 x24 x25 x26 M Q := by
  intro f h1 h2 h7 h8 h9 h24 h25 h26; subst h1; subst h2; subst h7; subst h8; subst h9; subst h24; subst h25; subst h26
  unfold At
  exact rule (B := 1000) (N := 136) (ct := .no)
    [⟨0, fun a M => dfr a.defers (P_fettlelaw6_ActsBack_1 (a.get 1) (a.get 2) (a.get 7) (a.get 8) (a.get 9) (a.get 24) (a.get 25) (a.get 26) M Q), fun a M => At Tryd.prog Ex none Tryd.f5 [1, 1, 1, 1, 0, 1, 0] a M Q⟩]
    [] [0] (by kernel_rfl) (by kernel_rfl) (by kernel_rfl) (by kernel_rfl) (by kernel_rfl)
    ⟨fun a M hn h => by obtain ⟨⟨n, f⟩, ds⟩ := a; have hn : n = 136 := hn; subst hn; obtain ⟨hd, h⟩ := dfr_iff h; have hd : ds = [] := hd; subst hd; exact h f rfl rfl rfl rfl rfl rfl rfl rfl,
    trivial⟩
    (cast (by kernel_rfl) h)
def S_fettlelaw6_ActsBack_7 (x1 x2 x7 x8 x9 x11 x24 x25 x26 x57 : Value) (M : Store) (Q : Value → Store → Prop) : Prop :=
  BR x57 (
  OP (fad 1 x11) fun t62 =>
  OP (ld 1 false t62 M) fun t63 =>
  R F.fettleref4_Dec #[t63] M fun t64 M1 =>
  OP (bldS #[(.string ⟨#[]⟩), (.int .i64 0), (.int .i64 0), (.bool false)] [(0, 1), (1, 1), (2, 1), (3, 1)] [(0, t64)]) fun t65 =>
  OP (bldL (.agg #[(.string ⟨#[]⟩), (.int .i64 0), (.int .i64 0), (.bool false)]) 4 1 [(0, t65)]) fun c =>
  LT (.slice (some ⟨M1.n, 0, none⟩) 1 1) (M1.push (some (.inl (c, Ty.api_Word, true)))) fun t66 M2 =>
  OP2 (appV 4 Ty.api_Word x8 t66 M2) fun t67 M3 =>
  P_fettlelaw6_ActsBack_6 x1 x2 x7 t67 x9 x24 x25 x26 M3 Q
  ) (
  P_fettlelaw6_ActsBack_6 x1 x2 x7 x8 x9 x24 x25 x26 M Q
  )
theorem T_fettlelaw6_ActsBack_7 {x1 x2 x7 x8 x9 x11 x24 x25 x26 x57 : Value} {M : Store} {Q : Value → Store → Prop} (h : S_fettlelaw6_ActsBack_7 x1 x2 x7 x8 x9 x11 x24 x25 x26 x57 M Q) : P_fettlelaw6_ActsBack_7 x1 x2 x7 x8 x9 x11 x24 x25 x26 x57 M Q := by
  intro f h1 h2 h7 h8 h9 h11 h24 h25 h26 h57; subst h1; subst h2; subst h7; subst h8; subst h9; subst h11; subst h24; subst h25; subst h26; subst h57
  unfold At
  exact rule (B := 1000) (N := 136) (ct := .no)
    [⟨0, fun a M => dfr a.defers (P_fettlelaw6_ActsBack_6 (a.get 1) (a.get 2) (a.get 7) (a.get 8) (a.get 9) (a.get 24) (a.get 25) (a.get 26) M Q), fun a M => At Tryd.prog Ex none Tryd.f5 [1, 1, 1, 1, 0, 1, 0, 0, 1, 1, 1] a M Q⟩]
    [] [0] (by kernel_rfl) (by kernel_rfl) (by kernel_rfl) (by kernel_rfl) (by kernel_rfl)
    ⟨fun a M hn h => by obtain ⟨⟨n, f⟩, ds⟩ := a; have hn : n = 136 := hn; subst hn; obtain ⟨hd, h⟩ := dfr_iff h; have hd : ds = [] := hd; subst hd; exact h f rfl rfl rfl rfl rfl rfl rfl rfl,
    trivial⟩
    (cast (by kernel_rfl) h)
end Go.G
