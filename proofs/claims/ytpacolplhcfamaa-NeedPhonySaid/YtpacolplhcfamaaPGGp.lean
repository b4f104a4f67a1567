/-  -/
import Derived.Test.YtpacolplhcfamaaPGN
open Go.RowKit
namespace Go.G
open Go.Ab Go.Proofs
set_option linter.unusedVariables false
set_option maxRecDepth 100000
def P_fettlelaw16_NeedPhony_1 (x0 x1 x5 x6 x7 : Value) (M : Store) (Q : Value → Store → Prop) : Prop :=
  ∀ f : Nat → Value, f 0 = x0 → f 1 = x1 → f 5 = x5 → f 6 = x6 → f 7 = x7 → At Try.prog Ex none Try.f16 [1, 1, 1, 1, 0, 1, 0] ⟨⟨104, f⟩, []⟩ M Q
def P_fettlelaw16_NeedPhony_2 (x0 x1 x5 x6 x7 : Value) (M : Store) (Q : Value → Store → Prop) : Prop :=
  ∀ f : Nat → Value, f 0 = x0 → f 1 = x1 → f 5 = x5 → f 6 = x6 → f 7 = x7 → At Try.prog Ex none Try.f16 [1, 1, 1, 1, 0, 1, 0, 0, 1] ⟨⟨104, f⟩, []⟩ M Q
def P_fettlelaw16_NeedPhony_3 (x1 x5 x6 : Value) (M : Store) (Q : Value → Store → Prop) : Prop :=
  ∀ f : Nat → Value, f 1 = x1 → f 5 = x5 → f 6 = x6 → At Try.prog Ex none Try.f16 [1, 1, 1, 1, 1] ⟨⟨104, f⟩, []⟩ M Q
def P_fettlelaw16_NeedPhony_4 (x1 x5 x8 x9 : Value) (M : Store) (Q : Value → Store → Prop) : Prop :=
  ∀ f : Nat → Value, f 1 = x1 → f 5 = x5 → f 8 = x8 → f 9 = x9 → At Try.prog Ex none Try.f16 [1, 1, 1, 1, 1, 1, 1, 1] ⟨⟨104, f⟩, []⟩ M Q
def P_fettlelaw16_NeedPhony_5 (x1 x5 x8 x10 x11 x12 : Value) (M : Store) (Q : Value → Store → Prop) : Prop :=
  ∀ f : Nat → Value, f 1 = x1 → f 5 = x5 → f 8 = x8 → f 10 = x10 → f 11 = x11 → f 12 = x12 → At Try.prog Ex none Try.f16 [1, 1, 1, 1, 1, 1, 1, 1, 1, 1, 1, 0, 1, 0] ⟨⟨104, f⟩, []⟩ M Q
def P_fettlelaw16_NeedPhony_6 (x1 x5 x8 x10 x11 : Value) (M : Store) (Q : Value → Store → Prop) : Prop :=
  ∀ f : Nat → Value, f 1 = x1 → f 5 = x5 → f 8 = x8 → f 10 = x10 → f 11 = x11 → At Try.prog Ex none Try.f16 [1, 1, 1, 1, 1, 1, 1, 1, 1, 1, 1, 1] ⟨⟨104, f⟩, []⟩ M Q
def P_fettlelaw16_NeedPhony_7 (x1 x5 x8 x10 x11 x13 : Value) (M : Store) (Q : Value → Store → Prop) : Prop :=
  ∀ f : Nat → Value, f 1 = x1 → f 5 = x5 → f 8 = x8 → f 10 = x10 → f 11 = x11 → f 13 = x13 → At Try.prog Ex none Try.f16 [1, 1, 1, 1, 1, 1, 1, 1, 1, 1, 1, 1, 1, 1] ⟨⟨104, f⟩, []⟩ M Q
def S_fettlelaw16_NeedPhony (x0 x1 : Value) (M : Store) (Q : Value → Store → Prop) : Prop :=
  R F.simf_New #[(.int .i64 1048576)] M fun t14 M1 =>
  OP (abin Try.prog true .eql Ty.p_simf_FS t14 (.pointer none)) fun t16 =>
  BR t16 (
  NTs [(.bool false)] ∧ Q (.bool false) M1
  ) (
  P_fettlelaw16_NeedPhony_1 x0 x1 t14 (.slice none 0 0) (.int .i64 0) M1 Q
  )
theorem T_fettlelaw16_NeedPhony {x0 x1 : Value} {M : Store} {Q : Value → Store → Prop} (h : S_fettlelaw16_NeedPhony x0 x1 M Q) : R F.fettlelaw16_NeedPhony #[x0, x1] M Q := by
  refine runs_of (c := bodyOf Try.f16) Try.func16 rfl (by kernel_rfl) (by kernel_rfl) ?_
  unfold At
  exact rule (B := 1000) (N := 104) (ct := (.two .no (.two .no (.two .no (.two .no (.two (.two .no (.two (.here 1000) .no)) (.here 1001)))))))
    [⟨1002, fun a M => dfr a.defers (P_fettlelaw16_NeedPhony_1 (a.get 0) (a.get 1) (a.get 5) (a.get 6) (a.get 7) M Q), fun a M => At Try.prog Ex none Try.f16 [1, 1, 1, 1, 0, 1, 0] a M Q⟩,
    ⟨1003, fun _ _ => False, fun a M => At Try.prog Ex none Try.f16 [1, 1, 1, 1, 1] a M Q⟩,
    ⟨1, fun a M => kfin Try.prog Try.f16.results.toList Q 1 a M, fun a M => kfin Try.prog Try.f16.results.toList Q 1 a M⟩]
    [1000, 1001] [1] (by kernel_rfl) (by kernel_rfl) (by kernel_rfl) (by kernel_rfl) (by kernel_rfl)
    ⟨fun a M hn h => by obtain ⟨⟨n, f⟩, ds⟩ := a; have hn : n = 104 := hn; subst hn; obtain ⟨hd, h⟩ := dfr_iff h; have hd : ds = [] := hd; subst hd; exact h f rfl rfl rfl rfl rfl,
    fun _ _ _ h => h.elim,
    fun _ _ _ h => h,
    trivial⟩
    (cast (by kernel_rfl) h)
def S_fettlelaw16_NeedPhony_1 (x0 x1 x5 x6 x7 : Value) (M : Store) (Q : Value → Store → Prop) : Prop :=
  OP (lenV x0) fun t19 =>
  OP (binI .lss x7 t19) fun t20 =>
  BR t20 (
  OP (binI .lss x7 (.int .i64 8)) fun t23 =>
  BR t23 (
  P_fettlelaw16_NeedPhony_2 x0 x1 x5 x6 x7 M Q
  ) (
  P_fettlelaw16_NeedPhony_3 x1 x5 x6 M Q
  )
  ) (
  P_fettlelaw16_NeedPhony_3 x1 x5 x6 M Q
  )
theorem T_fettlelaw16_NeedPhony_1 {x0 x1 x5 x6 x7 : Value} {M : Store} {Q : Value → Store → Prop} (h : S_fettlelaw16_NeedPhony_1 x0 x1 x5 x6 x7 M Q) : P_fettlelaw16_NeedPhony_1 x0 x1 x5 x6 x7 M Q := by
  intro f h0 h1 h5 h6 h7; subst h0; subst h1; subst h5; subst h6; subst h7
  unfold At
  refine cast (by kernel_rfl) (CW.loop (P := Try.prog) (E := Ex) (rd := none) (x := sub (bodyOf Try.f16) [1, 1, 1, 1, 0, 1, 0, 0]) (a := ⟨⟨104, f⟩, []⟩) (M := M) (K := kcont Try.prog Ex none (bodyOf Try.f16) [1, 1, 1, 1, 0, 1, 0] (kfin Try.prog Try.f16.results.toList Q)) ?_)
  exact rule (B := 1000) (N := 104) (ct := (.two .no (.here 1000)))
    [⟨1002, fun a M => dfr a.defers (P_fettlelaw16_NeedPhony_2 (a.get 0) (a.get 1) (a.get 5) (a.get 6) (a.get 7) M Q), fun a M => At Try.prog Ex none Try.f16 [1, 1, 1, 1, 0, 1, 0, 0, 1] a M Q⟩,
    ⟨2, fun a M => dfr a.defers (P_fettlelaw16_NeedPhony_3 (a.get 1) (a.get 5) (a.get 6) M Q), fun a M => At Try.prog Ex none Try.f16 [1, 1, 1, 1, 1] a M Q⟩]
    [1000] [2] (by kernel_rfl) (by kernel_rfl) (by kernel_rfl) (by kernel_rfl) (by kernel_rfl)
    ⟨fun a M hn h => by obtain ⟨⟨n, f⟩, ds⟩ := a; have hn : n = 104 := hn; subst hn; obtain ⟨hd, h⟩ := dfr_iff h; have hd : ds = [] := hd; subst hd; exact h f rfl rfl rfl rfl rfl,
    fun a M hn h => by obtain ⟨⟨n, f⟩, ds⟩ := a; have hn : n = 104 := hn; subst hn; obtain ⟨hd, h⟩ := dfr_iff h; have hd : ds = [] := hd; subst hd; exact h f rfl rfl rfl,
    trivial⟩
    (cast (by kernel_rfl) h)
def S_fettlelaw16_NeedPhony_2 (x0 x1 x5 x6 x7 : Value) (M : Store) (Q : Value → Store → Prop) : Prop :=
  OP (bldL (.string ⟨#[]⟩) 1 4 [(0, (.string ⟨#[97]⟩)), (1, (.string ⟨#[98]⟩)), (2, (.string ⟨#[122, 122]⟩)), (3, (.string ⟨#[115]⟩))]) fun c =>
  LT (.slice (some ⟨M.n, 0, none⟩) 4 4) (M.push (some (.inl (c, Ty.string, true)))) fun t28 M1 =>
  OP (ixA 1 x0 x7) fun t31 =>
  OP (ld 1 false t31 M1) fun t32 =>
  OP (binI .and t32 (.int .i64 3)) fun t33 =>
  OP (ixA 1 t28 t33) fun t34 =>
  OP (ld 1 false t34 M1) fun t35 =>
  OP (bldL (.string ⟨#[]⟩) 1 1 [(0, t35)]) fun c_1 =>
  LT (.slice (some ⟨M1.n, 0, none⟩) 1 1) (M1.push (some (.inl (c_1, Ty.string, true)))) fun t36 M2 =>
  OP2 (appV 1 Ty.string x6 t36 M2) fun t37 M3 =>
  OP (binI .add x7 (.int .i64 1)) fun t26 =>
  P_fettlelaw16_NeedPhony_1 x0 x1 x5 t37 t26 M3 Q
theorem T_fettlelaw16_NeedPhony_2 {x0 x1 x5 x6 x7 : Value} {M : Store} {Q : Value → Store → Prop} (h : S_fettlelaw16_NeedPhony_2 x0 x1 x5 x6 x7 M Q) : P_fettlelaw16_NeedPhony_2 x0 x1 x5 x6 x7 M Q := by
  intro f h0 h1 h5 h6 h7; subst h0; subst h1; subst h5; subst h6; subst h7
  unfold At
  exact rule (B := 1000) (N := 104) (ct := .no)
    [⟨0, fun a M => dfr a.defers (P_fettlelaw16_NeedPhony_1 (a.get 0) (a.get 1) (a.get 5) (a.get 6) (a.get 7) M Q), fun a M => At Try.prog Ex none Try.f16 [1, 1, 1, 1, 0, 1, 0] a M Q⟩]
    [] [0] (by kernel_rfl) (by kernel_rfl) (by kernel_rfl) (by kernel_rfl) (by kernel_rfl)
    ⟨fun a M hn h => by obtain ⟨⟨n, f⟩, ds⟩ := a; have hn : n = 104 := hn; subst hn; obtain ⟨hd, h⟩ := dfr_iff h; have hd : ds = [] := hd; subst hd; exact h f rfl rfl rfl rfl rfl,
    trivial⟩
    (cast (by kernel_rfl) h)
def S_fettlelaw16_NeedPhony_3 (x1 x5 x6 : Value) (M : Store) (Q : Value → Store → Prop) : Prop :=
  OP (bldL (.string ⟨#[]⟩) 1 1 [(0, (.string ⟨#[112]⟩))]) fun c =>
  LT (.slice (some ⟨M.n, 0, none⟩) 1 1) (M.push (some (.inl (c, Ty.string, true)))) fun t38 M1 =>
  OP (bldS #[(.slice none 0 0), (.slice none 0 0), (.slice none 0 0), (.slice none 0 0), (.bool false)] [(0, 1), (1, 1), (2, 1), (3, 1), (4, 1)] [(0, t38), (1, x6), (4, (.bool true))]) fun t40 =>
  R F.need_New #[t40, (.func (.func F.fettlelaw16_made) #[] #[])] M1 fun t41 M2 =>
  OP (bldL (.string ⟨#[]⟩) 1 1 [(0, (.string ⟨#[99]⟩))]) fun c_1 =>
  LT (.slice (some ⟨M2.n, 0, none⟩) 1 1) (M2.push (some (.inl (c_1, Ty.string, true)))) fun t42 M3 =>
  OP (bldS #[(.int .i64 0), (.int .i64 0), (.string ⟨#[]⟩)] [(0, 1), (1, 1), (2, 1)] [(0, (.int .i64 1)), (2, (.string ⟨#[116]⟩))]) fun t43 =>
  OP (bldL (.agg #[(.int .i64 0), (.int .i64 0), (.string ⟨#[]⟩)]) 3 1 [(0, t43)]) fun c_2 =>
  LT (.slice (some ⟨M3.n, 0, none⟩) 1 1) (M3.push (some (.inl (c_2, Ty.api_Do, true)))) fun t44 M4 =>
  OP (bldL (.slice none 0 0) 1 1 [(0, t44)]) fun c_3 =>
  LT (.slice (some ⟨M4.n, 0, none⟩) 1 1) (M4.push (some (.inl (c_3, Ty.sl_api_Do, true)))) fun t45 M5 =>
  OP (bldS #[(.slice none 0 0), (.slice none 0 0), (.slice none 0 0), (.slice none 0 0), (.bool false)] [(0, 1), (1, 1), (2, 1), (3, 1), (4, 1)] [(0, t42), (3, t45)]) fun t46 =>
  LT (.pointer (some ⟨M5.n, 0, none⟩)) (M5.push (some (.inl ([(.slice none 0 0), (.slice none 0 0), (.slice none 0 0), (.slice none 0 0), (.bool false)], Ty.api_Rule, true)))) fun t9 M6 =>
  OP (st 5 t9 t46 M6) fun M7 =>
  BR x1 (
  OP (fad 3 t9) fun t49 =>
  OP (ld 1 false t49 M7) fun t50 =>
  OP (ixA 1 t50 (.int .i64 0)) fun t51 =>
  OP (ld 1 false t51 M7) fun t52 =>
  R F.fettleref10_Print #[t52, (.slice none 0 0)] M7 fun t53 M8 =>
  OP (bldL (.int .u8 0) 1 1 [(0, (.int .u8 116))]) fun c_4 =>
  LT (.slice (some ⟨M8.n, 0, none⟩) 1 1) (M8.push (some (.inl (c_4, Ty.uint8, true)))) fun t54 M9 =>
  OP2 (cvId t54 M9) fun t55 M10 =>
  R F.fettleref10_Make #[t53, t55] M10 fun t56 M11 =>
  R F.simf_FS_Put #[x5, (.string ⟨#[99]⟩), t56] M11 fun t57 M12 =>
  P_fettlelaw16_NeedPhony_4 x1 x5 t41 t9 M12 Q
  ) (
  P_fettlelaw16_NeedPhony_4 x1 x5 t41 t9 M7 Q
  )
theorem T_fettlelaw16_NeedPhony_3 {x1 x5 x6 : Value} {M : Store} {Q : Value → Store → Prop} (h : S_fettlelaw16_NeedPhony_3 x1 x5 x6 M Q) : P_fettlelaw16_NeedPhony_3 x1 x5 x6 M Q := by
  intro f h1 h5 h6; subst h1; subst h5; subst h6
  unfold At
  exact rule (B := 1000) (N := 104) (ct := (.two .no (.two .no (.two .no (.here 1000)))))
    [⟨1002, fun a M => dfr a.defers (P_fettlelaw16_NeedPhony_4 (a.get 1) (a.get 5) (a.get 8) (a.get 9) M Q), fun a M => At Try.prog Ex none Try.f16 [1, 1, 1, 1, 1, 1, 1, 1] a M Q⟩]
    [1000] [] (by kernel_rfl) (by kernel_rfl) (by kernel_rfl) (by kernel_rfl) (by kernel_rfl)
    ⟨fun a M hn h => by obtain ⟨⟨n, f⟩, ds⟩ := a; have hn : n = 104 := hn; subst hn; obtain ⟨hd, h⟩ := dfr_iff h; have hd : ds = [] := hd; subst hd; exact h f rfl rfl rfl rfl,
    trivial⟩
    (cast (by kernel_rfl) h)
def S_fettlelaw16_NeedPhony_4 (x1 x5 x8 x9 : Value) (M : Store) (Q : Value → Store → Prop) : Prop :=
  OP (ld 5 true x9 M) fun t58 =>
  R F.need_New #[t58, (.func (.func F.fettlelaw16_made) #[] #[])] M fun t59 M1 =>
  OP (abin Try.prog true .eql Ty.p_need_Ask x8 (.pointer none)) fun t61 =>
  BR t61 (
  NTs [(.bool false)] ∧ Q (.bool false) M1
  ) (
  OP (abin Try.prog true .eql Ty.p_need_Ask t59 (.pointer none)) fun t64 =>
  BR t64 (
  NTs [(.bool false)] ∧ Q (.bool false) M1
  ) (
  P_fettlelaw16_NeedPhony_5 x1 x5 x8 t59 (.int .i64 0) (.int .i64 0) M1 Q
  )
  )
theorem T_fettlelaw16_NeedPhony_4 {x1 x5 x8 x9 : Value} {M : Store} {Q : Value → Store → Prop} (h : S_fettlelaw16_NeedPhony_4 x1 x5 x8 x9 M Q) : P_fettlelaw16_NeedPhony_4 x1 x5 x8 x9 M Q := by
  intro f h1 h5 h8 h9; subst h1; subst h5; subst h8; subst h9
  unfold At
  exact rule (B := 1000) (N := 104) (ct := (.two .no (.two .no (.two .no (.two (.two .no (.two (.here 1000) .no)) (.here 1001))))))
    [⟨1002, fun a M => dfr a.defers (P_fettlelaw16_NeedPhony_5 (a.get 1) (a.get 5) (a.get 8) (a.get 10) (a.get 11) (a.get 12) M Q), fun a M => At Try.prog Ex none Try.f16 [1, 1, 1, 1, 1, 1, 1, 1, 1, 1, 1, 0, 1, 0] a M Q⟩,
    ⟨1003, fun _ _ => False, fun a M => At Try.prog Ex none Try.f16 [1, 1, 1, 1, 1, 1, 1, 1, 1, 1, 1, 1] a M Q⟩,
    ⟨1, fun a M => kfin Try.prog Try.f16.results.toList Q 1 a M, fun a M => kfin Try.prog Try.f16.results.toList Q 1 a M⟩]
    [1000, 1001] [1] (by kernel_rfl) (by kernel_rfl) (by kernel_rfl) (by kernel_rfl) (by kernel_rfl)
    ⟨fun a M hn h => by obtain ⟨⟨n, f⟩, ds⟩ := a; have hn : n = 104 := hn; subst hn; obtain ⟨hd, h⟩ := dfr_iff h; have hd : ds = [] := hd; subst hd; exact h f rfl rfl rfl rfl rfl rfl,
    fun _ _ _ h => h.elim,
    fun _ _ _ h => h,
    trivial⟩
    (cast (by kernel_rfl) h)
def S_fettlelaw16_NeedPhony_5 (x1 x5 x8 x10 x11 x12 : Value) (M : Store) (Q : Value → Store → Prop) : Prop :=
  OP (binI .lss x12 (.int .i64 9)) fun t67 =>
  BR t67 (
  OP (binI .eql x11 (.int .i64 0)) fun t70 =>
  BR t70 (
  R F.need_Ask_Step #[x10, x5] M fun t76 M1 =>
  OP (binI .add x12 (.int .i64 1)) fun t73 =>
  P_fettlelaw16_NeedPhony_5 x1 x5 x8 x10 t76 t73 M1 Q
  ) (
  P_fettlelaw16_NeedPhony_6 x1 x5 x8 x10 x11 M Q
  )
  ) (
  P_fettlelaw16_NeedPhony_6 x1 x5 x8 x10 x11 M Q
  )
theorem T_fettlelaw16_NeedPhony_5 {x1 x5 x8 x10 x11 x12 : Value} {M : Store} {Q : Value → Store → Prop} (h : S_fettlelaw16_NeedPhony_5 x1 x5 x8 x10 x11 x12 M Q) : P_fettlelaw16_NeedPhony_5 x1 x5 x8 x10 x11 x12 M Q := by
  intro f h1 h5 h8 h10 h11 h12; subst h1; subst h5; subst h8; subst h10; subst h11; subst h12
  unfold At
  refine cast (by kernel_rfl) (CW.loop (P := Try.prog) (E := Ex) (rd := none) (x := sub (bodyOf Try.f16) [1, 1, 1, 1, 1, 1, 1, 1, 1, 1, 1, 0, 1, 0, 0]) (a := ⟨⟨104, f⟩, []⟩) (M := M) (K := kcont Try.prog Ex none (bodyOf Try.f16) [1, 1, 1, 1, 1, 1, 1, 1, 1, 1, 1, 0, 1, 0] (kfin Try.prog Try.f16.results.toList Q)) ?_)
  exact rule (B := 1000) (N := 104) (ct := .no)
    [⟨0, fun a M => dfr a.defers (P_fettlelaw16_NeedPhony_5 (a.get 1) (a.get 5) (a.get 8) (a.get 10) (a.get 11) (a.get 12) M Q), fun a M => At Try.prog Ex none Try.f16 [1, 1, 1, 1, 1, 1, 1, 1, 1, 1, 1, 0, 1, 0] a M Q⟩,
    ⟨4, fun a M => dfr a.defers (P_fettlelaw16_NeedPhony_6 (a.get 1) (a.get 5) (a.get 8) (a.get 10) (a.get 11) M Q), fun a M => At Try.prog Ex none Try.f16 [1, 1, 1, 1, 1, 1, 1, 1, 1, 1, 1, 1] a M Q⟩]
    [] [0, 4] (by kernel_rfl) (by kernel_rfl) (by kernel_rfl) (by kernel_rfl) (by kernel_rfl)
    ⟨fun a M hn h => by obtain ⟨⟨n, f⟩, ds⟩ := a; have hn : n = 104 := hn; subst hn; obtain ⟨hd, h⟩ := dfr_iff h; have hd : ds = [] := hd; subst hd; exact h f rfl rfl rfl rfl rfl rfl,
    fun a M hn h => by obtain ⟨⟨n, f⟩, ds⟩ := a; have hn : n = 104 := hn; subst hn; obtain ⟨hd, h⟩ := dfr_iff h; have hd : ds = [] := hd; subst hd; exact h f rfl rfl rfl rfl rfl,
    trivial⟩
    (cast (by kernel_rfl) h)
def S_fettlelaw16_NeedPhony_6 (x1 x5 x8 x10 x11 : Value) (M : Store) (Q : Value → Store → Prop) : Prop :=
  BR x1 (
  P_fettlelaw16_NeedPhony_7 x1 x5 x8 x10 x11 (.int .i64 1) M Q
  ) (
  P_fettlelaw16_NeedPhony_7 x1 x5 x8 x10 x11 (.int .i64 2) M Q
  )
theorem T_fettlelaw16_NeedPhony_6 {x1 x5 x8 x10 x11 : Value} {M : Store} {Q : Value → Store → Prop} (h : S_fettlelaw16_NeedPhony_6 x1 x5 x8 x10 x11 M Q) : P_fettlelaw16_NeedPhony_6 x1 x5 x8 x10 x11 M Q := by
  intro f h1 h5 h8 h10 h11; subst h1; subst h5; subst h8; subst h10; subst h11
  unfold At
  exact rule (B := 1000) (N := 104) (ct := (.two .no (.two .no (.here 1000))))
    [⟨1002, fun a M => dfr a.defers (P_fettlelaw16_NeedPhony_7 (a.get 1) (a.get 5) (a.get 8) (a.get 10) (a.get 11) (a.get 13) M Q), fun a M => At Try.prog Ex none Try.f16 [1, 1, 1, 1, 1, 1, 1, 1, 1, 1, 1, 1, 1, 1] a M Q⟩]
    [1000] [] (by kernel_rfl) (by kernel_rfl) (by kernel_rfl) (by kernel_rfl) (by kernel_rfl)
    ⟨fun a M hn h => by obtain ⟨⟨n, f⟩, ds⟩ := a; have hn : n = 104 := hn; subst hn; obtain ⟨hd, h⟩ := dfr_iff h; have hd : ds = [] := hd; subst hd; exact h f rfl rfl rfl rfl rfl rfl,
    trivial⟩
    (cast (by kernel_rfl) h)
def S_fettlelaw16_NeedPhony_7 (x1 x5 x8 x10 x11 x13 : Value) (M : Store) (Q : Value → Store → Prop) : Prop :=
  R F.need_Ask_Step #[x8, x5] M fun t80 M1 =>
  OP (binI .eql t80 (.int .i64 1)) fun t81 =>
  BR t81 (
  OP (binI .eql x11 x13) fun t85 =>
  BR t85 (
  R F.need_Ask_Old #[x10] M1 fun t89 M2 =>
  OP (lenV t89) fun t90 =>
  OP (binI .eql t90 (.int .i64 1)) fun t91 =>
  BR t91 (
  R F.need_Ask_Old #[x10] M2 fun t95 M3 =>
  OP (ixA 1 t95 (.int .i64 0)) fun t96 =>
  OP (ld 1 false t96 M3) fun t97 =>
  OP (abin Try.prog false .neq Ty.bool t97 x1) fun t99 =>
  BR t99 (
  R F.fettlelaw16_awake #[] M3 fun t102 M4 =>
  NTs [t102] ∧ Q t102 M4
  ) (
  NTs [(.bool false)] ∧ Q (.bool false) M3
  )
  ) (
  NTs [(.bool false)] ∧ Q (.bool false) M2
  )
  ) (
  NTs [(.bool false)] ∧ Q (.bool false) M1
  )
  ) (
  NTs [(.bool false)] ∧ Q (.bool false) M1
  )
theorem T_fettlelaw16_NeedPhony_7 {x1 x5 x8 x10 x11 x13 : Value} {M : Store} {Q : Value → Store → Prop} (h : S_fettlelaw16_NeedPhony_7 x1 x5 x8 x10 x11 x13 M Q) : P_fettlelaw16_NeedPhony_7 x1 x5 x8 x10 x11 x13 M Q := by
  intro f h1 h5 h8 h10 h11 h13; subst h1; subst h5; subst h8; subst h10; subst h11; subst h13
  unfold At
  exact rule (B := 1000) (N := 104) (ct := .no)
    [⟨1, fun a M => kfin Try.prog Try.f16.results.toList Q 1 a M, fun a M => kfin Try.prog Try.f16.results.toList Q 1 a M⟩]
    [] [1] (by kernel_rfl) (by kernel_rfl) (by kernel_rfl) (by kernel_rfl) (by kernel_rfl)
    ⟨fun _ _ _ h => h,
    trivial⟩
    (cast (by kernel_rfl) h)
end Go.G
