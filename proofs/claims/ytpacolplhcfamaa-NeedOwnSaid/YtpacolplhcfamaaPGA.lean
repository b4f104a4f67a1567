/-  -/
import Derived.Test.YtpacolplhcfamaaPGN
open Go.RowKit
namespace Go.G
open Go.Ab Go.Proofs
set_option linter.unusedVariables false
set_option maxRecDepth 100000
def P_fettleref1_SameRows_1 (x0 x1 x5 : Value) (M : Store) (Q : Value → Store → Prop) : Prop :=
  ∀ f : Nat → Value, f 0 = x0 → f 1 = x1 → f 5 = x5 → At Try.prog Ex none Try.f21 [1, 1, 0, 1, 0] ⟨⟨28, f⟩, []⟩ M Q
def P_fettleref1_SameRows_2 (x0 x1 x5 : Value) (M : Store) (Q : Value → Store → Prop) : Prop :=
  ∀ f : Nat → Value, f 0 = x0 → f 1 = x1 → f 5 = x5 → At Try.prog Ex none Try.f21 [1, 1, 0, 1, 0, 0, 1] ⟨⟨28, f⟩, []⟩ M Q
def P_fettleref1_SameRows_3 (M : Store) (Q : Value → Store → Prop) : Prop :=
  ∀ f : Nat → Value, At Try.prog Ex none Try.f21 [1, 1, 1] ⟨⟨28, f⟩, []⟩ M Q
def S_fettleref1_SameRows (x0 x1 : Value) (M : Store) (Q : Value → Store → Prop) : Prop :=
  OP (lenV x0) fun t7 =>
  OP (lenV x1) fun t9 =>
  OP (binI .neq t7 t9) fun t10 =>
  BR t10 (
  NTs [(.bool false)] ∧ Q (.bool false) M
  ) (
  P_fettleref1_SameRows_1 x0 x1 (.int .i64 0) M Q
  )
theorem T_fettleref1_SameRows {x0 x1 : Value} {M : Store} {Q : Value → Store → Prop} (h : S_fettleref1_SameRows x0 x1 M Q) : R F.fettleref1_SameRows #[x0, x1] M Q := by
  refine runs_of (c := bodyOf Try.f21) Try.func21 rfl (by kernel_rfl) (by kernel_rfl) ?_
  unfold At
  exact rule (B := 1000) (N := 28) (ct := (.two .no (.two .no (.two (.two .no (.two (.here 1000) .no)) (.here 1001)))))
    [⟨1002, fun a M => dfr a.defers (P_fettleref1_SameRows_1 (a.get 0) (a.get 1) (a.get 5) M Q), fun a M => At Try.prog Ex none Try.f21 [1, 1, 0, 1, 0] a M Q⟩,
    ⟨1003, fun _ _ => False, fun a M => At Try.prog Ex none Try.f21 [1, 1, 1] a M Q⟩,
    ⟨1, fun a M => kfin Try.prog Try.f21.results.toList Q 1 a M, fun a M => kfin Try.prog Try.f21.results.toList Q 1 a M⟩]
    [1000, 1001] [1] (by kernel_rfl) (by kernel_rfl) (by kernel_rfl) (by kernel_rfl) (by kernel_rfl)
    ⟨fun a M hn h => by obtain ⟨⟨n, f⟩, ds⟩ := a; have hn : n = 28 := hn; subst hn; obtain ⟨hd, h⟩ := dfr_iff h; have hd : ds = [] := hd; subst hd; exact h f rfl rfl rfl,
    fun _ _ _ h => h.elim,
    fun _ _ _ h => h,
    trivial⟩
    (cast (by kernel_rfl) h)
def S_fettleref1_SameRows_1 (x0 x1 x5 : Value) (M : Store) (Q : Value → Store → Prop) : Prop :=
  OP (lenV x0) fun t13 =>
  OP (binI .lss x5 t13) fun t14 =>
  BR t14 (
  P_fettleref1_SameRows_2 x0 x1 x5 M Q
  ) (
  P_fettleref1_SameRows_3 M Q
  )
theorem T_fettleref1_SameRows_1 {x0 x1 x5 : Value} {M : Store} {Q : Value → Store → Prop} (h : S_fettleref1_SameRows_1 x0 x1 x5 M Q) : P_fettleref1_SameRows_1 x0 x1 x5 M Q := by
  intro f h0 h1 h5; subst h0; subst h1; subst h5
  unfold At
  refine cast (by kernel_rfl) (CW.loop (P := Try.prog) (E := Ex) (rd := none) (x := sub (bodyOf Try.f21) [1, 1, 0, 1, 0, 0]) (a := ⟨⟨28, f⟩, []⟩) (M := M) (K := kcont Try.prog Ex none (bodyOf Try.f21) [1, 1, 0, 1, 0] (kfin Try.prog Try.f21.results.toList Q)) ?_)
  exact rule (B := 1000) (N := 28) (ct := (.two .no (.here 1000)))
    [⟨1002, fun a M => dfr a.defers (P_fettleref1_SameRows_2 (a.get 0) (a.get 1) (a.get 5) M Q), fun a M => At Try.prog Ex none Try.f21 [1, 1, 0, 1, 0, 0, 1] a M Q⟩,
    ⟨2, fun a M => dfr a.defers (P_fettleref1_SameRows_3 M Q), fun a M => At Try.prog Ex none Try.f21 [1, 1, 1] a M Q⟩]
    [1000] [2] (by kernel_rfl) (by kernel_rfl) (by kernel_rfl) (by kernel_rfl) (by kernel_rfl)
    ⟨fun a M hn h => by obtain ⟨⟨n, f⟩, ds⟩ := a; have hn : n = 28 := hn; subst hn; obtain ⟨hd, h⟩ := dfr_iff h; have hd : ds = [] := hd; subst hd; exact h f rfl rfl rfl,
    fun a M hn h => by obtain ⟨⟨n, f⟩, ds⟩ := a; have hn : n = 28 := hn; subst hn; obtain ⟨hd, h⟩ := dfr_iff h; have hd : ds = [] := hd; subst hd; exact h f,
    trivial⟩
    (cast (by kernel_rfl) h)
def S_fettleref1_SameRows_2 (x0 x1 x5 : Value) (M : Store) (Q : Value → Store → Prop) : Prop :=
  OP (ixA 1 x0 x5) fun t19 =>
  OP (ld 1 false t19 M) fun t20 =>
  OP (cvBS t20 M) fun t21 =>
  OP (ixA 1 x1 x5) fun t24 =>
  OP (ld 1 false t24 M) fun t25 =>
  OP (cvBS t25 M) fun t26 =>
  OP (binS .neq t21 t26) fun t27 =>
  BR t27 (
  NTs [(.bool false)] ∧ Q (.bool false) M
  ) (
  OP (binI .add x5 (.int .i64 1)) fun t16 =>
  P_fettleref1_SameRows_1 x0 x1 t16 M Q
  )
theorem T_fettleref1_SameRows_2 {x0 x1 x5 : Value} {M : Store} {Q : Value → Store → Prop} (h : S_fettleref1_SameRows_2 x0 x1 x5 M Q) : P_fettleref1_SameRows_2 x0 x1 x5 M Q := by
  intro f h0 h1 h5; subst h0; subst h1; subst h5
  unfold At
  exact rule (B := 1000) (N := 28) (ct := .no)
    [⟨0, fun a M => dfr a.defers (P_fettleref1_SameRows_1 (a.get 0) (a.get 1) (a.get 5) M Q), fun a M => At Try.prog Ex none Try.f21 [1, 1, 0, 1, 0] a M Q⟩,
    ⟨1, fun a M => kfin Try.prog Try.f21.results.toList Q 1 a M, fun a M => kfin Try.prog Try.f21.results.toList Q 1 a M⟩]
    [] [0, 1] (by kernel_rfl) (by kernel_rfl) (by kernel_rfl) (by kernel_rfl) (by kernel_rfl)
    ⟨fun a M hn h => by obtain ⟨⟨n, f⟩, ds⟩ := a; have hn : n = 28 := hn; subst hn; obtain ⟨hd, h⟩ := dfr_iff h; have hd : ds = [] := hd; subst hd; exact h f rfl rfl rfl,
    fun _ _ _ h => h,
    trivial⟩
    (cast (by kernel_rfl) h)
def S_fettleref1_SameRows_3 (M : Store) (Q : Value → Store → Prop) : Prop :=
  NTs [(.bool true)] ∧ Q (.bool true) M
theorem T_fettleref1_SameRows_3 {M : Store} {Q : Value → Store → Prop} (h : S_fettleref1_SameRows_3 M Q) : P_fettleref1_SameRows_3 M Q := by
  intro f 
  unfold At
  exact rule (B := 1000) (N := 28) (ct := .no)
    [⟨1, fun a M => kfin Try.prog Try.f21.results.toList Q 1 a M, fun a M => kfin Try.prog Try.f21.results.toList Q 1 a M⟩]
    [] [1] (by kernel_rfl) (by kernel_rfl) (by kernel_rfl) (by kernel_rfl) (by kernel_rfl)
    ⟨fun _ _ _ h => h,
    trivial⟩
    (cast (by kernel_rfl) h)
def P_code_Num_1 (x1 x5 x6 : Value) (M : Store) (Q : Value → Store → Prop) : Prop :=
  ∀ f : Nat → Value, f 1 = x1 → f 5 = x5 → f 6 = x6 → At Try.prog Ex none Try.f60 [1, 1, 1, 0, 1, 0] ⟨⟨26, f⟩, []⟩ M Q
def P_code_Num_2 (x5 : Value) (M : Store) (Q : Value → Store → Prop) : Prop :=
  ∀ f : Nat → Value, f 5 = x5 → At Try.prog Ex none Try.f60 [1, 1, 1, 1] ⟨⟨26, f⟩, []⟩ M Q
def S_code_Num (x0 x1 : Value) (M : Store) (Q : Value → Store → Prop) : Prop :=
  OP (amax2 x1 (.int .i64 0)) fun t8 =>
  OP (amin2 t8 (.int .i64 1099511627776)) fun t9 =>
  R F.slices_Clone_sl_byte_byte #[x0] M fun t11 M1 =>
  R F.slices_Clip_sl_byte_byte #[t11] M1 fun t12 M2 =>
  P_code_Num_1 t9 t12 (.int .i64 5) M2 Q
theorem T_code_Num {x0 x1 : Value} {M : Store} {Q : Value → Store → Prop} (h : S_code_Num x0 x1 M Q) : R F.code_Num #[x0, x1] M Q := by
  refine runs_of (c := bodyOf Try.f60) Try.func60 rfl (by kernel_rfl) (by kernel_rfl) ?_
  unfold At
  exact rule (B := 1000) (N := 26) (ct := (.two .no (.two .no (.two .no (.two (.two .no (.two (.here 1000) .no)) (.here 1001))))))
    [⟨1002, fun a M => dfr a.defers (P_code_Num_1 (a.get 1) (a.get 5) (a.get 6) M Q), fun a M => At Try.prog Ex none Try.f60 [1, 1, 1, 0, 1, 0] a M Q⟩,
    ⟨1003, fun _ _ => False, fun a M => At Try.prog Ex none Try.f60 [1, 1, 1, 1] a M Q⟩]
    [1000, 1001] [] (by kernel_rfl) (by kernel_rfl) (by kernel_rfl) (by kernel_rfl) (by kernel_rfl)
    ⟨fun a M hn h => by obtain ⟨⟨n, f⟩, ds⟩ := a; have hn : n = 26 := hn; subst hn; obtain ⟨hd, h⟩ := dfr_iff h; have hd : ds = [] := hd; subst hd; exact h f rfl rfl rfl,
    fun _ _ _ h => h.elim,
    trivial⟩
    (cast (by kernel_rfl) h)
def S_code_Num_1 (x1 x5 x6 : Value) (M : Store) (Q : Value → Store → Prop) : Prop :=
  OP (binI .geq x6 (.int .i64 0)) fun t14 =>
  BR t14 (
  OP (binI .mul (.int .i64 8) x6) fun t20 =>
  OP (binI .shr x1 t20) fun t21 =>
  OP (cvI .u8 t21) fun t22 =>
  OP (bldL (.int .u8 0) 1 1 [(0, t22)]) fun c =>
  LT (.slice (some ⟨M.n, 0, none⟩) 1 1) (M.push (some (.inl (c, Ty.uint8, true)))) fun t23 M1 =>
  OP2 (appV 1 Ty.uint8 x5 t23 M1) fun t24 M2 =>
  OP (binI .sub x6 (.int .i64 1)) fun t16 =>
  P_code_Num_1 x1 t24 t16 M2 Q
  ) (
  P_code_Num_2 x5 M Q
  )
theorem T_code_Num_1 {x1 x5 x6 : Value} {M : Store} {Q : Value → Store → Prop} (h : S_code_Num_1 x1 x5 x6 M Q) : P_code_Num_1 x1 x5 x6 M Q := by
  intro f h1 h5 h6; subst h1; subst h5; subst h6
  unfold At
  refine cast (by kernel_rfl) (CW.loop (P := Try.prog) (E := Ex) (rd := none) (x := sub (bodyOf Try.f60) [1, 1, 1, 0, 1, 0, 0]) (a := ⟨⟨26, f⟩, []⟩) (M := M) (K := kcont Try.prog Ex none (bodyOf Try.f60) [1, 1, 1, 0, 1, 0] (kfin Try.prog Try.f60.results.toList Q)) ?_)
  exact rule (B := 1000) (N := 26) (ct := .no)
    [⟨0, fun a M => dfr a.defers (P_code_Num_1 (a.get 1) (a.get 5) (a.get 6) M Q), fun a M => At Try.prog Ex none Try.f60 [1, 1, 1, 0, 1, 0] a M Q⟩,
    ⟨2, fun a M => dfr a.defers (P_code_Num_2 (a.get 5) M Q), fun a M => At Try.prog Ex none Try.f60 [1, 1, 1, 1] a M Q⟩]
    [] [0, 2] (by kernel_rfl) (by kernel_rfl) (by kernel_rfl) (by kernel_rfl) (by kernel_rfl)
    ⟨fun a M hn h => by obtain ⟨⟨n, f⟩, ds⟩ := a; have hn : n = 26 := hn; subst hn; obtain ⟨hd, h⟩ := dfr_iff h; have hd : ds = [] := hd; subst hd; exact h f rfl rfl rfl,
    fun a M hn h => by obtain ⟨⟨n, f⟩, ds⟩ := a; have hn : n = 26 := hn; subst hn; obtain ⟨hd, h⟩ := dfr_iff h; have hd : ds = [] := hd; subst hd; exact h f rfl,
    trivial⟩
    (cast (by kernel_rfl) h)
def S_code_Num_2 (x5 : Value) (M : Store) (Q : Value → Store → Prop) : Prop :=
  NTs [x5] ∧ Q x5 M
theorem T_code_Num_2 {x5 : Value} {M : Store} {Q : Value → Store → Prop} (h : S_code_Num_2 x5 M Q) : P_code_Num_2 x5 M Q := by
  intro f h5; subst h5
  unfold At
  exact rule (B := 1000) (N := 26) (ct := .no)
    [⟨1, fun a M => kfin Try.prog Try.f60.results.toList Q 1 a M, fun a M => kfin Try.prog Try.f60.results.toList Q 1 a M⟩]
    [] [1] (by kernel_rfl) (by kernel_rfl) (by kernel_rfl) (by kernel_rfl) (by kernel_rfl)
    ⟨fun _ _ _ h => h,
    trivial⟩
    (cast (by kernel_rfl) h)
def S_code_Bytes (x0 x1 : Value) (M : Store) (Q : Value → Store → Prop) : Prop :=
  OP (lenV x1) fun t7 =>
  R F.code_Num #[x0, t7] M fun t8 M1 =>
  OP2 (appV 1 Ty.uint8 t8 x1 M1) fun t10 M2 =>
  NTs [t10] ∧ Q t10 M2
theorem T_code_Bytes {x0 x1 : Value} {M : Store} {Q : Value → Store → Prop} (h : S_code_Bytes x0 x1 M Q) : R F.code_Bytes #[x0, x1] M Q := by
  refine runs_of (c := bodyOf Try.f61) Try.func61 rfl (by kernel_rfl) (by kernel_rfl) ?_
  unfold At
  exact rule (B := 1000) (N := 11) (ct := .no)
    [⟨1, fun a M => kfin Try.prog Try.f61.results.toList Q 1 a M, fun a M => kfin Try.prog Try.f61.results.toList Q 1 a M⟩]
    [] [1] (by kernel_rfl) (by kernel_rfl) (by kernel_rfl) (by kernel_rfl) (by kernel_rfl)
    ⟨fun _ _ _ h => h,
    trivial⟩
    (cast (by kernel_rfl) h)
def S_code_Read (x0 : Value) (M : Store) (Q : Value → Store → Prop) : Prop :=
  R F.slices_Clone_sl_byte_byte #[x0] M fun t4 M1 =>
  OP (bldS #[(.slice none 0 0), (.bool false)] [(0, 1), (1, 1)] [(0, t4)]) fun t5 =>
  OP (boxv t5) fun c =>
  LT (.pointer (some ⟨M1.n, 0, none⟩)) (M1.push (some (.inl (c, Ty.code_Reader, true)))) fun t6 M2 =>
  NTs [t6] ∧ Q t6 M2
theorem T_code_Read {x0 : Value} {M : Store} {Q : Value → Store → Prop} (h : S_code_Read x0 M Q) : R F.code_Read #[x0] M Q := by
  refine runs_of (c := bodyOf Try.f63) Try.func63 rfl (by kernel_rfl) (by kernel_rfl) ?_
  unfold At
  exact rule (B := 1000) (N := 7) (ct := .no)
    [⟨1, fun a M => kfin Try.prog Try.f63.results.toList Q 1 a M, fun a M => kfin Try.prog Try.f63.results.toList Q 1 a M⟩]
    [] [1] (by kernel_rfl) (by kernel_rfl) (by kernel_rfl) (by kernel_rfl) (by kernel_rfl)
    ⟨fun _ _ _ h => h,
    trivial⟩
    (cast (by kernel_rfl) h)
def S_code_Reader_Bytes (x0 x1 : Value) (M : Store) (Q : Value → Store → Prop) : Prop :=
  R F.code_Reader_Num #[x0, x1] M fun t9 M1 =>
  OP (nilc x0) fun t12 =>
  OP (fad 0 t12) fun t13 =>
  OP (ld 1 false t13 M1) fun t14 =>
  OP (lenV t14) fun t15 =>
  OP (binI .gtr t9 t15) fun t16 =>
  BR t16 (
  R F.code_Reader_fail #[x0] M1 fun t18 M2 =>
  NTs [(.slice none 0 0)] ∧ Q (.slice none 0 0) M2
  ) (
  OP (nilc x0) fun t20 =>
  OP (fad 0 t20) fun t21 =>
  OP (ld 1 false t21 M1) fun t22 =>
  OP (slV 1 Ty.uint8 t22 none (some t9) M1) fun t24 =>
  R F.slices_Clone_sl_byte_byte #[t24] M1 fun t25 M3 =>
  OP (nilc x0) fun t28 =>
  OP (fad 0 t28) fun t29 =>
  OP (ld 1 false t29 M3) fun t30 =>
  OP (slV 1 Ty.uint8 t30 (some t9) none M3) fun t32 =>
  OP (nilc x0) fun t33 =>
  OP (fad 0 t33) fun t34 =>
  OP (st 1 t34 t32 M3) fun M4 =>
  NTs [t25] ∧ Q t25 M4
  )
theorem T_code_Reader_Bytes {x0 x1 : Value} {M : Store} {Q : Value → Store → Prop} (h : S_code_Reader_Bytes x0 x1 M Q) : R F.code_Reader_Bytes #[x0, x1] M Q := by
  refine runs_of (c := bodyOf Try.f65) Try.func65 rfl (by kernel_rfl) (by kernel_rfl) ?_
  unfold At
  exact rule (B := 1000) (N := 36) (ct := .no)
    [⟨1, fun a M => kfin Try.prog Try.f65.results.toList Q 1 a M, fun a M => kfin Try.prog Try.f65.results.toList Q 1 a M⟩]
    [] [1] (by kernel_rfl) (by kernel_rfl) (by kernel_rfl) (by kernel_rfl) (by kernel_rfl)
    ⟨fun _ _ _ h => h,
    trivial⟩
    (cast (by kernel_rfl) h)
def P_code_Reader_Num_1 (x0 x1 x5 x26 x27 x28 : Value) (M : Store) (Q : Value → Store → Prop) : Prop :=
  ∀ f : Nat → Value, f 0 = x0 → f 1 = x1 → f 5 = x5 → f 26 = x26 → f 27 = x27 → f 28 = x28 → At Try.prog Ex none Try.f66 [1, 1, 1, 0, 1, 0] ⟨⟨52, f⟩, []⟩ M Q
def P_code_Reader_Num_2 (x0 x1 x5 : Value) (M : Store) (Q : Value → Store → Prop) : Prop :=
  ∀ f : Nat → Value, f 0 = x0 → f 1 = x1 → f 5 = x5 → At Try.prog Ex none Try.f66 [1, 1, 1, 1] ⟨⟨52, f⟩, []⟩ M Q
def S_code_Reader_Num (x0 x1 : Value) (M : Store) (Q : Value → Store → Prop) : Prop :=
  OP (nilc x0) fun t9 =>
  OP (fad 1 t9) fun t10 =>
  OP (ld 1 false t10 M) fun t11 =>
  BR t11 (
  R F.code_Reader_fail #[x0] M fun t21 M1 =>
  NTs [(.int .i64 0)] ∧ Q (.int .i64 0) M1
  ) (
  OP (nilc x0) fun t14 =>
  OP (fad 0 t14) fun t15 =>
  OP (ld 1 false t15 M) fun t16 =>
  OP (lenV t16) fun t17 =>
  OP (binI .lss t17 (.int .i64 6)) fun t18 =>
  BR t18 (
  R F.code_Reader_fail #[x0] M fun t21_1 M2 =>
  NTs [(.int .i64 0)] ∧ Q (.int .i64 0) M2
  ) (
  OP (nilc x0) fun t23 =>
  OP (fad 0 t23) fun t24 =>
  OP (ld 1 false t24 M) fun t25 =>
  OP (slV 1 Ty.uint8 t25 none (some (.int .i64 6)) M) fun t26 =>
  OP (lenV t26) fun t27 =>
  P_code_Reader_Num_1 x0 x1 (.int .i64 0) t26 t27 (.int .i64 0) M Q
  )
  )
theorem T_code_Reader_Num {x0 x1 : Value} {M : Store} {Q : Value → Store → Prop} (h : S_code_Reader_Num x0 x1 M Q) : R F.code_Reader_Num #[x0, x1] M Q := by
  refine runs_of (c := bodyOf Try.f66) Try.func66 rfl (by kernel_rfl) (by kernel_rfl) ?_
  unfold At
  exact rule (B := 1000) (N := 52) (ct := (.two .no (.two .no (.two .no (.two (.two .no (.two (.here 1000) .no)) (.here 1001))))))
    [⟨1002, fun a M => dfr a.defers (P_code_Reader_Num_1 (a.get 0) (a.get 1) (a.get 5) (a.get 26) (a.get 27) (a.get 28) M Q), fun a M => At Try.prog Ex none Try.f66 [1, 1, 1, 0, 1, 0] a M Q⟩,
    ⟨1003, fun _ _ => False, fun a M => At Try.prog Ex none Try.f66 [1, 1, 1, 1] a M Q⟩,
    ⟨1, fun a M => kfin Try.prog Try.f66.results.toList Q 1 a M, fun a M => kfin Try.prog Try.f66.results.toList Q 1 a M⟩]
    [1000, 1001] [1] (by kernel_rfl) (by kernel_rfl) (by kernel_rfl) (by kernel_rfl) (by kernel_rfl)
    ⟨fun a M hn h => by obtain ⟨⟨n, f⟩, ds⟩ := a; have hn : n = 52 := hn; subst hn; obtain ⟨hd, h⟩ := dfr_iff h; have hd : ds = [] := hd; subst hd; exact h f rfl rfl rfl rfl rfl rfl,
    fun _ _ _ h => h.elim,
    fun _ _ _ h => h,
    trivial⟩
    (cast (by kernel_rfl) h)
def S_code_Reader_Num_1 (x0 x1 x5 x26 x27 x28 : Value) (M : Store) (Q : Value → Store → Prop) : Prop :=
  OP (binI .lss x28 x27) fun t29 =>
  BR t29 (
  OP (ixA 1 x26 x28) fun t30 =>
  OP (ld 1 false t30 M) fun t31 =>
  OP (binI .shl x5 (.int .u64 8)) fun t33 =>
  OP (cvI .i64 t31) fun t35 =>
  OP (binI .or t33 t35) fun t36 =>
  OP (binI .add x28 (.int .i64 1)) fun t37 =>
  P_code_Reader_Num_1 x0 x1 t36 x26 x27 t37 M Q
  ) (
  P_code_Reader_Num_2 x0 x1 x5 M Q
  )
theorem T_code_Reader_Num_1 {x0 x1 x5 x26 x27 x28 : Value} {M : Store} {Q : Value → Store → Prop} (h : S_code_Reader_Num_1 x0 x1 x5 x26 x27 x28 M Q) : P_code_Reader_Num_1 x0 x1 x5 x26 x27 x28 M Q := by
  intro f h0 h1 h5 h26 h27 h28; subst h0; subst h1; subst h5; subst h26; subst h27; subst h28
  unfold At
  refine cast (by kernel_rfl) (CW.loop (P := Try.prog) (E := Ex) (rd := none) (x := sub (bodyOf Try.f66) [1, 1, 1, 0, 1, 0, 0]) (a := ⟨⟨52, f⟩, []⟩) (M := M) (K := kcont Try.prog Ex none (bodyOf Try.f66) [1, 1, 1, 0, 1, 0] (kfin Try.prog Try.f66.results.toList Q)) ?_)
  exact rule (B := 1000) (N := 52) (ct := .no)
    [⟨0, fun a M => dfr a.defers (P_code_Reader_Num_1 (a.get 0) (a.get 1) (a.get 5) (a.get 26) (a.get 27) (a.get 28) M Q), fun a M => At Try.prog Ex none Try.f66 [1, 1, 1, 0, 1, 0] a M Q⟩,
    ⟨2, fun a M => dfr a.defers (P_code_Reader_Num_2 (a.get 0) (a.get 1) (a.get 5) M Q), fun a M => At Try.prog Ex none Try.f66 [1, 1, 1, 1] a M Q⟩]
    [] [0, 2] (by kernel_rfl) (by kernel_rfl) (by kernel_rfl) (by kernel_rfl) (by kernel_rfl)
    ⟨fun a M hn h => by obtain ⟨⟨n, f⟩, ds⟩ := a; have hn : n = 52 := hn; subst hn; obtain ⟨hd, h⟩ := dfr_iff h; have hd : ds = [] := hd; subst hd; exact h f rfl rfl rfl rfl rfl rfl,
    fun a M hn h => by obtain ⟨⟨n, f⟩, ds⟩ := a; have hn : n = 52 := hn; subst hn; obtain ⟨hd, h⟩ := dfr_iff h; have hd : ds = [] := hd; subst hd; exact h f rfl rfl rfl,
    trivial⟩
    (cast (by kernel_rfl) h)
def S_code_Reader_Num_2 (x0 x1 x5 : Value) (M : Store) (Q : Value → Store → Prop) : Prop :=
  OP (binI .gtr x5 x1) fun t40 =>
  BR t40 (
  R F.code_Reader_fail #[x0] M fun t42 M1 =>
  NTs [(.int .i64 0)] ∧ Q (.int .i64 0) M1
  ) (
  OP (nilc x0) fun t45 =>
  OP (fad 0 t45) fun t46 =>
  OP (ld 1 false t46 M) fun t47 =>
  OP (slV 1 Ty.uint8 t47 (some (.int .i64 6)) none M) fun t48 =>
  OP (nilc x0) fun t49 =>
  OP (fad 0 t49) fun t50 =>
  OP (st 1 t50 t48 M) fun M2 =>
  NTs [x5] ∧ Q x5 M2
  )
theorem T_code_Reader_Num_2 {x0 x1 x5 : Value} {M : Store} {Q : Value → Store → Prop} (h : S_code_Reader_Num_2 x0 x1 x5 M Q) : P_code_Reader_Num_2 x0 x1 x5 M Q := by
  intro f h0 h1 h5; subst h0; subst h1; subst h5
  unfold At
  exact rule (B := 1000) (N := 52) (ct := .no)
    [⟨1, fun a M => kfin Try.prog Try.f66.results.toList Q 1 a M, fun a M => kfin Try.prog Try.f66.results.toList Q 1 a M⟩]
    [] [1] (by kernel_rfl) (by kernel_rfl) (by kernel_rfl) (by kernel_rfl) (by kernel_rfl)
    ⟨fun _ _ _ h => h,
    trivial⟩
    (cast (by kernel_rfl) h)
def S_code_Reader_End (x0 : Value) (M : Store) (Q : Value → Store → Prop) : Prop :=
  OP (nilc x0) fun t4 =>
  OP (fad 1 t4) fun t5 =>
  OP (ld 1 false t5 M) fun t6 =>
  OP (aun .not t6) fun t7 =>
  BR t7 (
  OP (nilc x0) fun t10 =>
  OP (fad 0 t10) fun t11 =>
  OP (ld 1 false t11 M) fun t12 =>
  OP (lenV t12) fun t13 =>
  OP (binI .eql t13 (.int .i64 0)) fun t14 =>
  NTs [t14] ∧ Q t14 M
  ) (
  NTs [(.bool false)] ∧ Q (.bool false) M
  )
theorem T_code_Reader_End {x0 : Value} {M : Store} {Q : Value → Store → Prop} (h : S_code_Reader_End x0 M Q) : R F.code_Reader_End #[x0] M Q := by
  refine runs_of (c := bodyOf Try.f67) Try.func67 rfl (by kernel_rfl) (by kernel_rfl) ?_
  unfold At
  exact rule (B := 1000) (N := 16) (ct := .no)
    [⟨1, fun a M => kfin Try.prog Try.f67.results.toList Q 1 a M, fun a M => kfin Try.prog Try.f67.results.toList Q 1 a M⟩]
    [] [1] (by kernel_rfl) (by kernel_rfl) (by kernel_rfl) (by kernel_rfl) (by kernel_rfl)
    ⟨fun _ _ _ h => h,
    trivial⟩
    (cast (by kernel_rfl) h)
def P_fettleref1_Num_1 (x1 x5 x6 : Value) (M : Store) (Q : Value → Store → Prop) : Prop :=
  ∀ f : Nat → Value, f 1 = x1 → f 5 = x5 → f 6 = x6 → At Try.prog Ex none Try.f70 [1, 1, 1, 0, 1, 0] ⟨⟨27, f⟩, []⟩ M Q
def P_fettleref1_Num_2 (x1 x5 x6 : Value) (M : Store) (Q : Value → Store → Prop) : Prop :=
  ∀ f : Nat → Value, f 1 = x1 → f 5 = x5 → f 6 = x6 → At Try.prog Ex none Try.f70 [1, 1, 1, 0, 1, 0, 0, 1] ⟨⟨27, f⟩, []⟩ M Q
def P_fettleref1_Num_3 (x5 : Value) (M : Store) (Q : Value → Store → Prop) : Prop :=
  ∀ f : Nat → Value, f 5 = x5 → At Try.prog Ex none Try.f70 [1, 1, 1, 1] ⟨⟨27, f⟩, []⟩ M Q
def S_fettleref1_Num (x0 x1 : Value) (M : Store) (Q : Value → Store → Prop) : Prop :=
  OP (bldL (.int .u8 0) 1 0 []) fun c =>
  LT (.slice (some ⟨M.n, 0, none⟩) 0 0) (M.push (some (.inl (c, Ty.uint8, true)))) fun t7 M1 =>
  OP2 (appV 1 Ty.uint8 t7 x0 M1) fun t9 M2 =>
  OP (amax2 x1 (.int .i64 0)) fun t11 =>
  OP (amin2 t11 (.int .i64 1099511627776)) fun t12 =>
  P_fettleref1_Num_1 t12 t9 (.int .i64 5) M2 Q
theorem T_fettleref1_Num {x0 x1 : Value} {M : Store} {Q : Value → Store → Prop} (h : S_fettleref1_Num x0 x1 M Q) : R F.fettleref1_Num #[x0, x1] M Q := by
  refine runs_of (c := bodyOf Try.f70) Try.func70 rfl (by kernel_rfl) (by kernel_rfl) ?_
  unfold At
  exact rule (B := 1000) (N := 27) (ct := (.two .no (.two .no (.two .no (.two (.two .no (.two (.here 1000) .no)) (.here 1001))))))
    [⟨1002, fun a M => dfr a.defers (P_fettleref1_Num_1 (a.get 1) (a.get 5) (a.get 6) M Q), fun a M => At Try.prog Ex none Try.f70 [1, 1, 1, 0, 1, 0] a M Q⟩,
    ⟨1003, fun _ _ => False, fun a M => At Try.prog Ex none Try.f70 [1, 1, 1, 1] a M Q⟩]
    [1000, 1001] [] (by kernel_rfl) (by kernel_rfl) (by kernel_rfl) (by kernel_rfl) (by kernel_rfl)
    ⟨fun a M hn h => by obtain ⟨⟨n, f⟩, ds⟩ := a; have hn : n = 27 := hn; subst hn; obtain ⟨hd, h⟩ := dfr_iff h; have hd : ds = [] := hd; subst hd; exact h f rfl rfl rfl,
    fun _ _ _ h => h.elim,
    trivial⟩
    (cast (by kernel_rfl) h)
def S_fettleref1_Num_1 (x1 x5 x6 : Value) (M : Store) (Q : Value → Store → Prop) : Prop :=
  OP (binI .geq x6 (.int .i64 0)) fun t14 =>
  BR t14 (
  P_fettleref1_Num_2 x1 x5 x6 M Q
  ) (
  P_fettleref1_Num_3 x5 M Q
  )
theorem T_fettleref1_Num_1 {x1 x5 x6 : Value} {M : Store} {Q : Value → Store → Prop} (h : S_fettleref1_Num_1 x1 x5 x6 M Q) : P_fettleref1_Num_1 x1 x5 x6 M Q := by
  intro f h1 h5 h6; subst h1; subst h5; subst h6
  unfold At
  refine cast (by kernel_rfl) (CW.loop (P := Try.prog) (E := Ex) (rd := none) (x := sub (bodyOf Try.f70) [1, 1, 1, 0, 1, 0, 0]) (a := ⟨⟨27, f⟩, []⟩) (M := M) (K := kcont Try.prog Ex none (bodyOf Try.f70) [1, 1, 1, 0, 1, 0] (kfin Try.prog Try.f70.results.toList Q)) ?_)
  exact rule (B := 1000) (N := 27) (ct := (.two .no (.here 1000)))
    [⟨1002, fun a M => dfr a.defers (P_fettleref1_Num_2 (a.get 1) (a.get 5) (a.get 6) M Q), fun a M => At Try.prog Ex none Try.f70 [1, 1, 1, 0, 1, 0, 0, 1] a M Q⟩,
    ⟨2, fun a M => dfr a.defers (P_fettleref1_Num_3 (a.get 5) M Q), fun a M => At Try.prog Ex none Try.f70 [1, 1, 1, 1] a M Q⟩]
    [1000] [2] (by kernel_rfl) (by kernel_rfl) (by kernel_rfl) (by kernel_rfl) (by kernel_rfl)
    ⟨fun a M hn h => by obtain ⟨⟨n, f⟩, ds⟩ := a; have hn : n = 27 := hn; subst hn; obtain ⟨hd, h⟩ := dfr_iff h; have hd : ds = [] := hd; subst hd; exact h f rfl rfl rfl,
    fun a M hn h => by obtain ⟨⟨n, f⟩, ds⟩ := a; have hn : n = 27 := hn; subst hn; obtain ⟨hd, h⟩ := dfr_iff h; have hd : ds = [] := hd; subst hd; exact h f rfl,
    trivial⟩
    (cast (by kernel_rfl) h)
def S_fettleref1_Num_2 (x1 x5 x6 : Value) (M : Store) (Q : Value → Store → Prop) : Prop :=
  OP (binI .mul (.int .i64 8) x6) fun t20 =>
  OP (cvI .u64 t20) fun t21 =>
  OP (binI .shr x1 t21) fun t22 =>
  OP (cvI .u8 t22) fun t23 =>
  OP (bldL (.int .u8 0) 1 1 [(0, t23)]) fun c =>
  LT (.slice (some ⟨M.n, 0, none⟩) 1 1) (M.push (some (.inl (c, Ty.uint8, true)))) fun t24 M1 =>
  OP2 (appV 1 Ty.uint8 x5 t24 M1) fun t25 M2 =>
  OP (binI .sub x6 (.int .i64 1)) fun t16 =>
  P_fettleref1_Num_1 x1 t25 t16 M2 Q
theorem T_fettleref1_Num_2 {x1 x5 x6 : Value} {M : Store} {Q : Value → Store → Prop} (h : S_fettleref1_Num_2 x1 x5 x6 M Q) : P_fettleref1_Num_2 x1 x5 x6 M Q := by
  intro f h1 h5 h6; subst h1; subst h5; subst h6
  unfold At
  exact rule (B := 1000) (N := 27) (ct := .no)
    [⟨0, fun a M => dfr a.defers (P_fettleref1_Num_1 (a.get 1) (a.get 5) (a.get 6) M Q), fun a M => At Try.prog Ex none Try.f70 [1, 1, 1, 0, 1, 0] a M Q⟩]
    [] [0] (by kernel_rfl) (by kernel_rfl) (by kernel_rfl) (by kernel_rfl) (by kernel_rfl)
    ⟨fun a M hn h => by obtain ⟨⟨n, f⟩, ds⟩ := a; have hn : n = 27 := hn; subst hn; obtain ⟨hd, h⟩ := dfr_iff h; have hd : ds = [] := hd; subst hd; exact h f rfl rfl rfl,
    trivial⟩
    (cast (by kernel_rfl) h)
def S_fettleref1_Num_3 (x5 : Value) (M : Store) (Q : Value → Store → Prop) : Prop :=
  NTs [x5] ∧ Q x5 M
theorem T_fettleref1_Num_3 {x5 : Value} {M : Store} {Q : Value → Store → Prop} (h : S_fettleref1_Num_3 x5 M Q) : P_fettleref1_Num_3 x5 M Q := by
  intro f h5; subst h5
  unfold At
  exact rule (B := 1000) (N := 27) (ct := .no)
    [⟨1, fun a M => kfin Try.prog Try.f70.results.toList Q 1 a M, fun a M => kfin Try.prog Try.f70.results.toList Q 1 a M⟩]
    [] [1] (by kernel_rfl) (by kernel_rfl) (by kernel_rfl) (by kernel_rfl) (by kernel_rfl)
    ⟨fun _ _ _ h => h,
    trivial⟩
    (cast (by kernel_rfl) h)
def S_fettleref1_Bytes (x0 x1 : Value) (M : Store) (Q : Value → Store → Prop) : Prop :=
  OP (lenV x1) fun t7 =>
  R F.fettleref1_Num #[x0, t7] M fun t8 M1 =>
  OP2 (appV 1 Ty.uint8 t8 x1 M1) fun t10 M2 =>
  NTs [t10] ∧ Q t10 M2
theorem T_fettleref1_Bytes {x0 x1 : Value} {M : Store} {Q : Value → Store → Prop} (h : S_fettleref1_Bytes x0 x1 M Q) : R F.fettleref1_Bytes #[x0, x1] M Q := by
  refine runs_of (c := bodyOf Try.f71) Try.func71 rfl (by kernel_rfl) (by kernel_rfl) ?_
  unfold At
  exact rule (B := 1000) (N := 11) (ct := .no)
    [⟨1, fun a M => kfin Try.prog Try.f71.results.toList Q 1 a M, fun a M => kfin Try.prog Try.f71.results.toList Q 1 a M⟩]
    [] [1] (by kernel_rfl) (by kernel_rfl) (by kernel_rfl) (by kernel_rfl) (by kernel_rfl)
    ⟨fun _ _ _ h => h,
    trivial⟩
    (cast (by kernel_rfl) h)
def S_fettleref1_Reader_Bytes (x0 x1 : Value) (M : Store) (Q : Value → Store → Prop) : Prop :=
  R F.fettleref1_Reader_Num #[x0, x1] M fun t9 M1 =>
  OP (nilc x0) fun t11 =>
  OP (fad 1 t11) fun t12 =>
  OP (ld 1 false t12 M1) fun t13 =>
  BR t13 (
  OP (nilc x0) fun t24 =>
  OP (fad 1 t24) fun t25 =>
  OP (st 1 t25 (.bool true) M1) fun M2 =>
  NTs [(.slice none 0 0)] ∧ Q (.slice none 0 0) M2
  ) (
  OP (nilc x0) fun t17 =>
  OP (fad 0 t17) fun t18 =>
  OP (ld 1 false t18 M1) fun t19 =>
  OP (lenV t19) fun t20 =>
  OP (binI .gtr t9 t20) fun t21 =>
  BR t21 (
  OP (nilc x0) fun t24_1 =>
  OP (fad 1 t24_1) fun t25_1 =>
  OP (st 1 t25_1 (.bool true) M1) fun M3 =>
  NTs [(.slice none 0 0)] ∧ Q (.slice none 0 0) M3
  ) (
  OP (bldL (.int .u8 0) 1 0 []) fun c =>
  LT (.slice (some ⟨M1.n, 0, none⟩) 0 0) (M1.push (some (.inl (c, Ty.uint8, true)))) fun t26 M4 =>
  OP (nilc x0) fun t28 =>
  OP (fad 0 t28) fun t29 =>
  OP (ld 1 false t29 M4) fun t30 =>
  OP (slV 1 Ty.uint8 t30 none (some t9) M4) fun t32 =>
  OP2 (appV 1 Ty.uint8 t26 t32 M4) fun t33 M5 =>
  OP (nilc x0) fun t36 =>
  OP (fad 0 t36) fun t37 =>
  OP (ld 1 false t37 M5) fun t38 =>
  OP (slV 1 Ty.uint8 t38 (some t9) none M5) fun t40 =>
  OP (nilc x0) fun t41 =>
  OP (fad 0 t41) fun t42 =>
  OP (st 1 t42 t40 M5) fun M6 =>
  NTs [t33] ∧ Q t33 M6
  )
  )
theorem T_fettleref1_Reader_Bytes {x0 x1 : Value} {M : Store} {Q : Value → Store → Prop} (h : S_fettleref1_Reader_Bytes x0 x1 M Q) : R F.fettleref1_Reader_Bytes #[x0, x1] M Q := by
  refine runs_of (c := bodyOf Try.f74) Try.func74 rfl (by kernel_rfl) (by kernel_rfl) ?_
  unfold At
  exact rule (B := 1000) (N := 44) (ct := .no)
    [⟨1, fun a M => kfin Try.prog Try.f74.results.toList Q 1 a M, fun a M => kfin Try.prog Try.f74.results.toList Q 1 a M⟩]
    [] [1] (by kernel_rfl) (by kernel_rfl) (by kernel_rfl) (by kernel_rfl) (by kernel_rfl)
    ⟨fun _ _ _ h => h,
    trivial⟩
    (cast (by kernel_rfl) h)
def P_fettleref1_Reader_Num_1 (x0 x1 x5 x6 : Value) (M : Store) (Q : Value → Store → Prop) : Prop :=
  ∀ f : Nat → Value, f 0 = x0 → f 1 = x1 → f 5 = x5 → f 6 = x6 → At Try.prog Ex none Try.f75 [1, 1, 1, 0, 1, 0] ⟨⟨52, f⟩, []⟩ M Q
def P_fettleref1_Reader_Num_2 (x0 x1 x5 x6 : Value) (M : Store) (Q : Value → Store → Prop) : Prop :=
  ∀ f : Nat → Value, f 0 = x0 → f 1 = x1 → f 5 = x5 → f 6 = x6 → At Try.prog Ex none Try.f75 [1, 1, 1, 0, 1, 0, 0, 1] ⟨⟨52, f⟩, []⟩ M Q
def P_fettleref1_Reader_Num_3 (x0 x1 x5 : Value) (M : Store) (Q : Value → Store → Prop) : Prop :=
  ∀ f : Nat → Value, f 0 = x0 → f 1 = x1 → f 5 = x5 → At Try.prog Ex none Try.f75 [1, 1, 1, 1] ⟨⟨52, f⟩, []⟩ M Q
def S_fettleref1_Reader_Num (x0 x1 : Value) (M : Store) (Q : Value → Store → Prop) : Prop :=
  OP (nilc x0) fun t8 =>
  OP (fad 1 t8) fun t9 =>
  OP (ld 1 false t9 M) fun t10 =>
  BR t10 (
  OP (nilc x0) fun t20 =>
  OP (fad 1 t20) fun t21 =>
  OP (st 1 t21 (.bool true) M) fun M1 =>
  NTs [(.int .i64 0)] ∧ Q (.int .i64 0) M1
  ) (
  OP (nilc x0) fun t13 =>
  OP (fad 0 t13) fun t14 =>
  OP (ld 1 false t14 M) fun t15 =>
  OP (lenV t15) fun t16 =>
  OP (binI .lss t16 (.int .i64 6)) fun t17 =>
  BR t17 (
  OP (nilc x0) fun t20_1 =>
  OP (fad 1 t20_1) fun t21_1 =>
  OP (st 1 t21_1 (.bool true) M) fun M2 =>
  NTs [(.int .i64 0)] ∧ Q (.int .i64 0) M2
  ) (
  P_fettleref1_Reader_Num_1 x0 x1 (.int .i64 0) (.int .i64 0) M Q
  )
  )
theorem T_fettleref1_Reader_Num {x0 x1 : Value} {M : Store} {Q : Value → Store → Prop} (h : S_fettleref1_Reader_Num x0 x1 M Q) : R F.fettleref1_Reader_Num #[x0, x1] M Q := by
  refine runs_of (c := bodyOf Try.f75) Try.func75 rfl (by kernel_rfl) (by kernel_rfl) ?_
  unfold At
  exact rule (B := 1000) (N := 52) (ct := (.two .no (.two .no (.two .no (.two (.two .no (.two (.here 1000) .no)) (.here 1001))))))
    [⟨1002, fun a M => dfr a.defers (P_fettleref1_Reader_Num_1 (a.get 0) (a.get 1) (a.get 5) (a.get 6) M Q), fun a M => At Try.prog Ex none Try.f75 [1, 1, 1, 0, 1, 0] a M Q⟩,
    ⟨1003, fun _ _ => False, fun a M => At Try.prog Ex none Try.f75 [1, 1, 1, 1] a M Q⟩,
    ⟨1, fun a M => kfin Try.prog Try.f75.results.toList Q 1 a M, fun a M => kfin Try.prog Try.f75.results.toList Q 1 a M⟩]
    [1000, 1001] [1] (by kernel_rfl) (by kernel_rfl) (by kernel_rfl) (by kernel_rfl) (by kernel_rfl)
    ⟨fun a M hn h => by obtain ⟨⟨n, f⟩, ds⟩ := a; have hn : n = 52 := hn; subst hn; obtain ⟨hd, h⟩ := dfr_iff h; have hd : ds = [] := hd; subst hd; exact h f rfl rfl rfl rfl,
    fun _ _ _ h => h.elim,
    fun _ _ _ h => h,
    trivial⟩
    (cast (by kernel_rfl) h)
def S_fettleref1_Reader_Num_1 (x0 x1 x5 x6 : Value) (M : Store) (Q : Value → Store → Prop) : Prop :=
  OP (binI .lss x6 (.int .i64 6)) fun t23 =>
  BR t23 (
  P_fettleref1_Reader_Num_2 x0 x1 x5 x6 M Q
  ) (
  P_fettleref1_Reader_Num_3 x0 x1 x5 M Q
  )
theorem T_fettleref1_Reader_Num_1 {x0 x1 x5 x6 : Value} {M : Store} {Q : Value → Store → Prop} (h : S_fettleref1_Reader_Num_1 x0 x1 x5 x6 M Q) : P_fettleref1_Reader_Num_1 x0 x1 x5 x6 M Q := by
  intro f h0 h1 h5 h6; subst h0; subst h1; subst h5; subst h6
  unfold At
  refine cast (by kernel_rfl) (CW.loop (P := Try.prog) (E := Ex) (rd := none) (x := sub (bodyOf Try.f75) [1, 1, 1, 0, 1, 0, 0]) (a := ⟨⟨52, f⟩, []⟩) (M := M) (K := kcont Try.prog Ex none (bodyOf Try.f75) [1, 1, 1, 0, 1, 0] (kfin Try.prog Try.f75.results.toList Q)) ?_)
  exact rule (B := 1000) (N := 52) (ct := (.two .no (.here 1000)))
    [⟨1002, fun a M => dfr a.defers (P_fettleref1_Reader_Num_2 (a.get 0) (a.get 1) (a.get 5) (a.get 6) M Q), fun a M => At Try.prog Ex none Try.f75 [1, 1, 1, 0, 1, 0, 0, 1] a M Q⟩,
    ⟨2, fun a M => dfr a.defers (P_fettleref1_Reader_Num_3 (a.get 0) (a.get 1) (a.get 5) M Q), fun a M => At Try.prog Ex none Try.f75 [1, 1, 1, 1] a M Q⟩]
    [1000] [2] (by kernel_rfl) (by kernel_rfl) (by kernel_rfl) (by kernel_rfl) (by kernel_rfl)
    ⟨fun a M hn h => by obtain ⟨⟨n, f⟩, ds⟩ := a; have hn : n = 52 := hn; subst hn; obtain ⟨hd, h⟩ := dfr_iff h; have hd : ds = [] := hd; subst hd; exact h f rfl rfl rfl rfl,
    fun a M hn h => by obtain ⟨⟨n, f⟩, ds⟩ := a; have hn : n = 52 := hn; subst hn; obtain ⟨hd, h⟩ := dfr_iff h; have hd : ds = [] := hd; subst hd; exact h f rfl rfl rfl,
    trivial⟩
    (cast (by kernel_rfl) h)
def S_fettleref1_Reader_Num_2 (x0 x1 x5 x6 : Value) (M : Store) (Q : Value → Store → Prop) : Prop :=
  OP (binI .shl x5 (.int .u64 8)) fun t27 =>
  OP (nilc x0) fun t29 =>
  OP (fad 0 t29) fun t30 =>
  OP (ld 1 false t30 M) fun t31 =>
  OP (ixA 1 t31 x6) fun t33 =>
  OP (ld 1 false t33 M) fun t34 =>
  OP (cvI .i64 t34) fun t35 =>
  OP (binI .or t27 t35) fun t36 =>
  OP (binI .add x6 (.int .i64 1)) fun t25 =>
  P_fettleref1_Reader_Num_1 x0 x1 t36 t25 M Q
theorem T_fettleref1_Reader_Num_2 {x0 x1 x5 x6 : Value} {M : Store} {Q : Value → Store → Prop} (h : S_fettleref1_Reader_Num_2 x0 x1 x5 x6 M Q) : P_fettleref1_Reader_Num_2 x0 x1 x5 x6 M Q := by
  intro f h0 h1 h5 h6; subst h0; subst h1; subst h5; subst h6
  unfold At
  exact rule (B := 1000) (N := 52) (ct := .no)
    [⟨0, fun a M => dfr a.defers (P_fettleref1_Reader_Num_1 (a.get 0) (a.get 1) (a.get 5) (a.get 6) M Q), fun a M => At Try.prog Ex none Try.f75 [1, 1, 1, 0, 1, 0] a M Q⟩]
    [] [0] (by kernel_rfl) (by kernel_rfl) (by kernel_rfl) (by kernel_rfl) (by kernel_rfl)
    ⟨fun a M hn h => by obtain ⟨⟨n, f⟩, ds⟩ := a; have hn : n = 52 := hn; subst hn; obtain ⟨hd, h⟩ := dfr_iff h; have hd : ds = [] := hd; subst hd; exact h f rfl rfl rfl rfl,
    trivial⟩
    (cast (by kernel_rfl) h)
def S_fettleref1_Reader_Num_3 (x0 x1 x5 : Value) (M : Store) (Q : Value → Store → Prop) : Prop :=
  OP (binI .gtr x5 x1) fun t39 =>
  BR t39 (
  OP (nilc x0) fun t41 =>
  OP (fad 1 t41) fun t42 =>
  OP (st 1 t42 (.bool true) M) fun M1 =>
  NTs [(.int .i64 0)] ∧ Q (.int .i64 0) M1
  ) (
  OP (nilc x0) fun t45 =>
  OP (fad 0 t45) fun t46 =>
  OP (ld 1 false t46 M) fun t47 =>
  OP (slV 1 Ty.uint8 t47 (some (.int .i64 6)) none M) fun t48 =>
  OP (nilc x0) fun t49 =>
  OP (fad 0 t49) fun t50 =>
  OP (st 1 t50 t48 M) fun M2 =>
  NTs [x5] ∧ Q x5 M2
  )
theorem T_fettleref1_Reader_Num_3 {x0 x1 x5 : Value} {M : Store} {Q : Value → Store → Prop} (h : S_fettleref1_Reader_Num_3 x0 x1 x5 M Q) : P_fettleref1_Reader_Num_3 x0 x1 x5 M Q := by
  intro f h0 h1 h5; subst h0; subst h1; subst h5
  unfold At
  exact rule (B := 1000) (N := 52) (ct := .no)
    [⟨1, fun a M => kfin Try.prog Try.f75.results.toList Q 1 a M, fun a M => kfin Try.prog Try.f75.results.toList Q 1 a M⟩]
    [] [1] (by kernel_rfl) (by kernel_rfl) (by kernel_rfl) (by kernel_rfl) (by kernel_rfl)
    ⟨fun _ _ _ h => h,
    trivial⟩
    (cast (by kernel_rfl) h)
def S_fettleref1_Reader_End (x0 : Value) (M : Store) (Q : Value → Store → Prop) : Prop :=
  OP (nilc x0) fun t4 =>
  OP (fad 1 t4) fun t5 =>
  OP (ld 1 false t5 M) fun t6 =>
  OP (aun .not t6) fun t7 =>
  BR t7 (
  OP (nilc x0) fun t10 =>
  OP (fad 0 t10) fun t11 =>
  OP (ld 1 false t11 M) fun t12 =>
  OP (lenV t12) fun t13 =>
  OP (binI .eql t13 (.int .i64 0)) fun t14 =>
  NTs [t14] ∧ Q t14 M
  ) (
  NTs [(.bool false)] ∧ Q (.bool false) M
  )
theorem T_fettleref1_Reader_End {x0 : Value} {M : Store} {Q : Value → Store → Prop} (h : S_fettleref1_Reader_End x0 M Q) : R F.fettleref1_Reader_End #[x0] M Q := by
  refine runs_of (c := bodyOf Try.f76) Try.func76 rfl (by kernel_rfl) (by kernel_rfl) ?_
  unfold At
  exact rule (B := 1000) (N := 16) (ct := .no)
    [⟨1, fun a M => kfin Try.prog Try.f76.results.toList Q 1 a M, fun a M => kfin Try.prog Try.f76.results.toList Q 1 a M⟩]
    [] [1] (by kernel_rfl) (by kernel_rfl) (by kernel_rfl) (by kernel_rfl) (by kernel_rfl)
    ⟨fun _ _ _ h => h,
    trivial⟩
    (cast (by kernel_rfl) h)
def S_slices_Clone_sl_byte_byte (x0 : Value) (M : Store) (Q : Value → Store → Prop) : Prop :=
  OP (abin Try.prog true .eql Ty.sl_uint8 x0 (.slice none 0 0)) fun t4 =>
  BR t4 (
  NTs [(.slice none 0 0)] ∧ Q (.slice none 0 0) M
  ) (
  OP (bldL (.int .u8 0) 1 0 []) fun c =>
  LT (.slice (some ⟨M.n, 0, none⟩) 0 0) (M.push (some (.inl (c, Ty.uint8, true)))) fun t5 M1 =>
  OP2 (appV 1 Ty.uint8 t5 x0 M1) fun t7 M2 =>
  NTs [t7] ∧ Q t7 M2
  )
theorem T_slices_Clone_sl_byte_byte {x0 : Value} {M : Store} {Q : Value → Store → Prop} (h : S_slices_Clone_sl_byte_byte x0 M Q) : R F.slices_Clone_sl_byte_byte #[x0] M Q := by
  refine runs_of (c := bodyOf Try.f83) Try.func83 rfl (by kernel_rfl) (by kernel_rfl) ?_
  unfold At
  exact rule (B := 1000) (N := 8) (ct := .no)
    [⟨1, fun a M => kfin Try.prog Try.f83.results.toList Q 1 a M, fun a M => kfin Try.prog Try.f83.results.toList Q 1 a M⟩]
    [] [1] (by kernel_rfl) (by kernel_rfl) (by kernel_rfl) (by kernel_rfl) (by kernel_rfl)
    ⟨fun _ _ _ h => h,
    trivial⟩
    (cast (by kernel_rfl) h)
def S_slices_Clip_sl_sl_byte_sl_byte (x0 : Value) (M : Store) (Q : Value → Store → Prop) : Prop :=
  OP (lenV x0) fun t5 =>
  OP (lenV x0) fun t7 =>
  OP (slM 1 Ty.sl_uint8 x0 none t5 t7 M) fun t8 =>
  NTs [t8] ∧ Q t8 M
theorem T_slices_Clip_sl_sl_byte_sl_byte {x0 : Value} {M : Store} {Q : Value → Store → Prop} (h : S_slices_Clip_sl_sl_byte_sl_byte x0 M Q) : R F.slices_Clip_sl_sl_byte_sl_byte #[x0] M Q := by
  refine runs_of (c := bodyOf Try.f89) Try.func89 rfl (by kernel_rfl) (by kernel_rfl) ?_
  unfold At
  exact rule (B := 1000) (N := 9) (ct := .no)
    [⟨1, fun a M => kfin Try.prog Try.f89.results.toList Q 1 a M, fun a M => kfin Try.prog Try.f89.results.toList Q 1 a M⟩]
    [] [1] (by kernel_rfl) (by kernel_rfl) (by kernel_rfl) (by kernel_rfl) (by kernel_rfl)
    ⟨fun _ _ _ h => h,
    trivial⟩
    (cast (by kernel_rfl) h)
def S_fettleref1_Put (x0 x1 : Value) (M : Store) (Q : Value → Store → Prop) : Prop :=
  R F.fettleref1_Bytes #[(.slice none 0 0), x1] M fun t8 M1 =>
  R F.fettleref1_Sum #[t8] M1 fun t10 M2 =>
  OP (bldL (.int .u8 0) 1 0 []) fun c =>
  LT (.slice (some ⟨M2.n, 0, none⟩) 0 0) (M2.push (some (.inl (c, Ty.uint8, true)))) fun t11 M3 =>
  OP2 (appV 1 Ty.uint8 t11 x0 M3) fun t13 M4 =>
  OP2 (appV 1 Ty.uint8 t13 t8 M4) fun t15 M5 =>
  OP (binI .shr t10 (.int .u64 24)) fun t17 =>
  OP (cvI .u8 t17) fun t18 =>
  OP (binI .shr t10 (.int .u64 16)) fun t20 =>
  OP (cvI .u8 t20) fun t21 =>
  OP (binI .shr t10 (.int .u64 8)) fun t23 =>
  OP (cvI .u8 t23) fun t24 =>
  OP (cvI .u8 t10) fun t26 =>
  OP (bldL (.int .u8 0) 1 4 [(0, t18), (1, t21), (2, t24), (3, t26)]) fun c_1 =>
  LT (.slice (some ⟨M5.n, 0, none⟩) 4 4) (M5.push (some (.inl (c_1, Ty.uint8, true)))) fun t27 M6 =>
  OP2 (appV 1 Ty.uint8 t15 t27 M6) fun t28 M7 =>
  NTs [t28] ∧ Q t28 M7
theorem T_fettleref1_Put {x0 x1 : Value} {M : Store} {Q : Value → Store → Prop} (h : S_fettleref1_Put x0 x1 M Q) : R F.fettleref1_Put #[x0, x1] M Q := by
  refine runs_of (c := bodyOf Try.f92) Try.func92 rfl (by kernel_rfl) (by kernel_rfl) ?_
  unfold At
  exact rule (B := 1000) (N := 29) (ct := .no)
    [⟨1, fun a M => kfin Try.prog Try.f92.results.toList Q 1 a M, fun a M => kfin Try.prog Try.f92.results.toList Q 1 a M⟩]
    [] [1] (by kernel_rfl) (by kernel_rfl) (by kernel_rfl) (by kernel_rfl) (by kernel_rfl)
    ⟨fun _ _ _ h => h,
    trivial⟩
    (cast (by kernel_rfl) h)
def S_slices_Clip_sl_byte_byte (x0 : Value) (M : Store) (Q : Value → Store → Prop) : Prop :=
  OP (lenV x0) fun t5 =>
  OP (lenV x0) fun t7 =>
  OP (slM 1 Ty.uint8 x0 none t5 t7 M) fun t8 =>
  NTs [t8] ∧ Q t8 M
theorem T_slices_Clip_sl_byte_byte {x0 : Value} {M : Store} {Q : Value → Store → Prop} (h : S_slices_Clip_sl_byte_byte x0 M Q) : R F.slices_Clip_sl_byte_byte #[x0] M Q := by
  refine runs_of (c := bodyOf Try.f103) Try.func103 rfl (by kernel_rfl) (by kernel_rfl) ?_
  unfold At
  exact rule (B := 1000) (N := 9) (ct := .no)
    [⟨1, fun a M => kfin Try.prog Try.f103.results.toList Q 1 a M, fun a M => kfin Try.prog Try.f103.results.toList Q 1 a M⟩]
    [] [1] (by kernel_rfl) (by kernel_rfl) (by kernel_rfl) (by kernel_rfl) (by kernel_rfl)
    ⟨fun _ _ _ h => h,
    trivial⟩
    (cast (by kernel_rfl) h)
def S_code_Reader_fail (x0 : Value) (M : Store) (Q : Value → Store → Prop) : Prop :=
  OP (nilc x0) fun t4 =>
  OP (fad 0 t4) fun t5 =>
  OP (st 1 t5 (.slice none 0 0) M) fun M1 =>
  OP (nilc x0) fun t6 =>
  OP (fad 1 t6) fun t7 =>
  OP (st 1 t7 (.bool true) M1) fun M2 =>
  NTs [] ∧ Q (.tuple #[]) M2
theorem T_code_Reader_fail {x0 : Value} {M : Store} {Q : Value → Store → Prop} (h : S_code_Reader_fail x0 M Q) : R F.code_Reader_fail #[x0] M Q := by
  refine runs_of (c := bodyOf Try.f105) Try.func105 rfl (by kernel_rfl) (by kernel_rfl) ?_
  unfold At
  exact rule (B := 1000) (N := 8) (ct := .no)
    [⟨0, fun a M => kfin Try.prog Try.f105.results.toList Q 0 a M, fun a M => kfin Try.prog Try.f105.results.toList Q 0 a M⟩]
    [] [0] (by kernel_rfl) (by kernel_rfl) (by kernel_rfl) (by kernel_rfl) (by kernel_rfl)
    ⟨fun _ _ _ h => h,
    trivial⟩
    (cast (by kernel_rfl) h)
def P_fettleref1_Sum_1 (x0 x3 x4 : Value) (M : Store) (Q : Value → Store → Prop) : Prop :=
  ∀ f : Nat → Value, f 0 = x0 → f 3 = x3 → f 4 = x4 → At Try.prog Ex none Try.f111 [1, 1, 0, 1, 0] ⟨⟨34, f⟩, []⟩ M Q
def P_fettleref1_Sum_2 (x0 x3 x4 x5 : Value) (M : Store) (Q : Value → Store → Prop) : Prop :=
  ∀ f : Nat → Value, f 0 = x0 → f 3 = x3 → f 4 = x4 → f 5 = x5 → At Try.prog Ex none Try.f111 [1, 1, 0, 1, 0, 0, 1, 0, 0, 1, 1, 0] ⟨⟨34, f⟩, []⟩ M Q
def P_fettleref1_Sum_3 (x3 : Value) (M : Store) (Q : Value → Store → Prop) : Prop :=
  ∀ f : Nat → Value, f 3 = x3 → At Try.prog Ex none Try.f111 [1, 1, 1] ⟨⟨34, f⟩, []⟩ M Q
def P_fettleref1_Sum_4 (x0 x3 x4 : Value) (M : Store) (Q : Value → Store → Prop) : Prop :=
  ∀ f : Nat → Value, f 0 = x0 → f 3 = x3 → f 4 = x4 → At Try.prog Ex none Try.f111 [1, 1, 0, 1, 0, 0, 1, 1] ⟨⟨34, f⟩, []⟩ M Q
def S_fettleref1_Sum (x0 : Value) (M : Store) (Q : Value → Store → Prop) : Prop :=
  P_fettleref1_Sum_1 x0 (.int .u32 4294967295) (.int .i64 0) M Q
theorem T_fettleref1_Sum {x0 : Value} {M : Store} {Q : Value → Store → Prop} (h : S_fettleref1_Sum x0 M Q) : R F.fettleref1_Sum #[x0] M Q := by
  refine runs_of (c := bodyOf Try.f111) Try.func111 rfl (by kernel_rfl) (by kernel_rfl) ?_
  unfold At
  exact rule (B := 1000) (N := 34) (ct := (.two .no (.two .no (.two (.two .no (.two (.here 1000) .no)) (.here 1001)))))
    [⟨1002, fun a M => dfr a.defers (P_fettleref1_Sum_1 (a.get 0) (a.get 3) (a.get 4) M Q), fun a M => At Try.prog Ex none Try.f111 [1, 1, 0, 1, 0] a M Q⟩,
    ⟨1003, fun _ _ => False, fun a M => At Try.prog Ex none Try.f111 [1, 1, 1] a M Q⟩]
    [1000, 1001] [] (by kernel_rfl) (by kernel_rfl) (by kernel_rfl) (by kernel_rfl) (by kernel_rfl)
    ⟨fun a M hn h => by obtain ⟨⟨n, f⟩, ds⟩ := a; have hn : n = 34 := hn; subst hn; obtain ⟨hd, h⟩ := dfr_iff h; have hd : ds = [] := hd; subst hd; exact h f rfl rfl rfl,
    fun _ _ _ h => h.elim,
    trivial⟩
    (cast (by kernel_rfl) h)
def S_fettleref1_Sum_1 (x0 x3 x4 : Value) (M : Store) (Q : Value → Store → Prop) : Prop :=
  OP (lenV x0) fun t9 =>
  OP (binI .lss x4 t9) fun t10 =>
  BR t10 (
  OP (ixA 1 x0 x4) fun t16 =>
  OP (ld 1 false t16 M) fun t17 =>
  OP (cvI .u32 t17) fun t18 =>
  OP (binI .xor x3 t18) fun t19 =>
  P_fettleref1_Sum_2 x0 t19 x4 (.int .i64 0) M Q
  ) (
  P_fettleref1_Sum_3 x3 M Q
  )
theorem T_fettleref1_Sum_1 {x0 x3 x4 : Value} {M : Store} {Q : Value → Store → Prop} (h : S_fettleref1_Sum_1 x0 x3 x4 M Q) : P_fettleref1_Sum_1 x0 x3 x4 M Q := by
  intro f h0 h3 h4; subst h0; subst h3; subst h4
  unfold At
  refine cast (by kernel_rfl) (CW.loop (P := Try.prog) (E := Ex) (rd := none) (x := sub (bodyOf Try.f111) [1, 1, 0, 1, 0, 0]) (a := ⟨⟨34, f⟩, []⟩) (M := M) (K := kcont Try.prog Ex none (bodyOf Try.f111) [1, 1, 0, 1, 0] (kfin Try.prog Try.f111.results.toList Q)) ?_)
  exact rule (B := 1000) (N := 34) (ct := (.two .no (.two (.two (.two .no (.two .no (.two (.here 1000) .no))) .no) (.here 1001))))
    [⟨1002, fun a M => dfr a.defers (P_fettleref1_Sum_2 (a.get 0) (a.get 3) (a.get 4) (a.get 5) M Q), fun a M => At Try.prog Ex none Try.f111 [1, 1, 0, 1, 0, 0, 1, 0, 0, 1, 1, 0] a M Q⟩,
    ⟨1003, fun _ _ => False, fun a M => At Try.prog Ex none Try.f111 [1, 1, 0, 1, 0, 0, 1, 1] a M Q⟩,
    ⟨2, fun a M => dfr a.defers (P_fettleref1_Sum_3 (a.get 3) M Q), fun a M => At Try.prog Ex none Try.f111 [1, 1, 1] a M Q⟩]
    [1000, 1001] [2] (by kernel_rfl) (by kernel_rfl) (by kernel_rfl) (by kernel_rfl) (by kernel_rfl)
    ⟨fun a M hn h => by obtain ⟨⟨n, f⟩, ds⟩ := a; have hn : n = 34 := hn; subst hn; obtain ⟨hd, h⟩ := dfr_iff h; have hd : ds = [] := hd; subst hd; exact h f rfl rfl rfl rfl,
    fun _ _ _ h => h.elim,
    fun a M hn h => by obtain ⟨⟨n, f⟩, ds⟩ := a; have hn : n = 34 := hn; subst hn; obtain ⟨hd, h⟩ := dfr_iff h; have hd : ds = [] := hd; subst hd; exact h f rfl,
    trivial⟩
    (cast (by kernel_rfl) h)
def S_fettleref1_Sum_2 (x0 x3 x4 x5 : Value) (M : Store) (Q : Value → Store → Prop) : Prop :=
  OP (binI .lss x5 (.int .i64 8)) fun t21 =>
  BR t21 (
  OP (binI .and x3 (.int .u32 1)) fun t25 =>
  OP (binI .shr x3 (.int .u64 1)) fun t27 =>
  OP (binI .eql t25 (.int .u32 1)) fun t29 =>
  BR t29 (
  OP (binI .xor t27 (.int .u32 3988292384)) fun t31 =>
  OP (binI .add x5 (.int .i64 1)) fun t23 =>
  P_fettleref1_Sum_2 x0 t31 x4 t23 M Q
  ) (
  OP (binI .add x5 (.int .i64 1)) fun t23_1 =>
  P_fettleref1_Sum_2 x0 t27 x4 t23_1 M Q
  )
  ) (
  P_fettleref1_Sum_4 x0 x3 x4 M Q
  )
theorem T_fettleref1_Sum_2 {x0 x3 x4 x5 : Value} {M : Store} {Q : Value → Store → Prop} (h : S_fettleref1_Sum_2 x0 x3 x4 x5 M Q) : P_fettleref1_Sum_2 x0 x3 x4 x5 M Q := by
  intro f h0 h3 h4 h5; subst h0; subst h3; subst h4; subst h5
  unfold At
  refine cast (by kernel_rfl) (CW.loop (P := Try.prog) (E := Ex) (rd := none) (x := sub (bodyOf Try.f111) [1, 1, 0, 1, 0, 0, 1, 0, 0, 1, 1, 0, 0]) (a := ⟨⟨34, f⟩, []⟩) (M := M) (K := kcont Try.prog Ex none (bodyOf Try.f111) [1, 1, 0, 1, 0, 0, 1, 0, 0, 1, 1, 0] (kfin Try.prog Try.f111.results.toList Q)) ?_)
  exact rule (B := 1000) (N := 34) (ct := .no)
    [⟨0, fun a M => dfr a.defers (P_fettleref1_Sum_2 (a.get 0) (a.get 3) (a.get 4) (a.get 5) M Q), fun a M => At Try.prog Ex none Try.f111 [1, 1, 0, 1, 0, 0, 1, 0, 0, 1, 1, 0] a M Q⟩,
    ⟨4, fun a M => dfr a.defers (P_fettleref1_Sum_4 (a.get 0) (a.get 3) (a.get 4) M Q), fun a M => At Try.prog Ex none Try.f111 [1, 1, 0, 1, 0, 0, 1, 1] a M Q⟩]
    [] [0, 4] (by kernel_rfl) (by kernel_rfl) (by kernel_rfl) (by kernel_rfl) (by kernel_rfl)
    ⟨fun a M hn h => by obtain ⟨⟨n, f⟩, ds⟩ := a; have hn : n = 34 := hn; subst hn; obtain ⟨hd, h⟩ := dfr_iff h; have hd : ds = [] := hd; subst hd; exact h f rfl rfl rfl rfl,
    fun a M hn h => by obtain ⟨⟨n, f⟩, ds⟩ := a; have hn : n = 34 := hn; subst hn; obtain ⟨hd, h⟩ := dfr_iff h; have hd : ds = [] := hd; subst hd; exact h f rfl rfl rfl,
    trivial⟩
    (cast (by kernel_rfl) h)
def S_fettleref1_Sum_3 (x3 : Value) (M : Store) (Q : Value → Store → Prop) : Prop :=
  OP (binI .xor x3 (.int .u32 4294967295)) fun t33 =>
  NTs [t33] ∧ Q t33 M
theorem T_fettleref1_Sum_3 {x3 : Value} {M : Store} {Q : Value → Store → Prop} (h : S_fettleref1_Sum_3 x3 M Q) : P_fettleref1_Sum_3 x3 M Q := by
  intro f h3; subst h3
  unfold At
  exact rule (B := 1000) (N := 34) (ct := .no)
    [⟨1, fun a M => kfin Try.prog Try.f111.results.toList Q 1 a M, fun a M => kfin Try.prog Try.f111.results.toList Q 1 a M⟩]
    [] [1] (by kernel_rfl) (by kernel_rfl) (by kernel_rfl) (by kernel_rfl) (by kernel_rfl)
    ⟨fun _ _ _ h => h,
    trivial⟩
    (cast (by kernel_rfl) h)
def S_fettleref1_Sum_4 (x0 x3 x4 : Value) (M : Store) (Q : Value → Store → Prop) : Prop :=
  OP (binI .add x4 (.int .i64 1)) fun t12 =>
  P_fettleref1_Sum_1 x0 x3 t12 M Q
theorem T_fettleref1_Sum_4 {x0 x3 x4 : Value} {M : Store} {Q : Value → Store → Prop} (h : S_fettleref1_Sum_4 x0 x3 x4 M Q) : P_fettleref1_Sum_4 x0 x3 x4 M Q := by
  intro f h0 h3 h4; subst h0; subst h3; subst h4
  unfold At
  exact rule (B := 1000) (N := 34) (ct := .no)
    [⟨0, fun a M => dfr a.defers (P_fettleref1_Sum_1 (a.get 0) (a.get 3) (a.get 4) M Q), fun a M => At Try.prog Ex none Try.f111 [1, 1, 0, 1, 0] a M Q⟩]
    [] [0] (by kernel_rfl) (by kernel_rfl) (by kernel_rfl) (by kernel_rfl) (by kernel_rfl)
    ⟨fun a M hn h => by obtain ⟨⟨n, f⟩, ds⟩ := a; have hn : n = 34 := hn; subst hn; obtain ⟨hd, h⟩ := dfr_iff h; have hd : ds = [] := hd; subst hd; exact h f rfl rfl rfl,
    trivial⟩
    (cast (by kernel_rfl) h)
def P_fram_Scan_1 (ds : List Deferred) (x4 x5 x9 : Value) (M : Store) (Q : Value → Store → Prop) : Prop :=
  ∀ f : Nat → Value, f 4 = x4 → f 5 = x5 → f 9 = x9 → At Try.prog Ex none Try.f112 [1, 1, 1, 0, 1, 0] ⟨⟨25, f⟩, ds⟩ M Q
def P_fram_Scan_2 (l : Nat) (x4 x5 x6 x7 : Value) (M : Store) (Q : Value → Store → Prop) : Prop :=
  ∀ f : Nat → Value, f 4 = x4 → f 5 = x5 → f 6 = x6 → f 7 = x7 → AtY Try.prog Ex l Try.f112 [1, 1, 1, 0, 1, 0, 1] [] ⟨⟨25, f⟩, []⟩ M Q
def P_fram_Scan_3 (ds : List Deferred) (x4 x5 : Value) (M : Store) (Q : Value → Store → Prop) : Prop :=
  ∀ f : Nat → Value, f 4 = x4 → f 5 = x5 → At Try.prog Ex none Try.f112 [1, 1, 1, 1] ⟨⟨25, f⟩, ds⟩ M Q
def S_fram_Scan (x0 : Value) (M : Store) (Q : Value → Store → Prop) : Prop :=
  LT (.pointer (some ⟨M.n, 0, none⟩)) (M.push (some (.inl ([(.slice none 0 0)], Ty.sl_sl_uint8, true)))) fun t4 M1 =>
  LT (.pointer (some ⟨M1.n, 0, none⟩)) (M1.push (some (.inl ([(.int .i64 0)], Ty.int, true)))) fun t5 M2 =>
  OP (st 1 t5 (.int .i64 0) M2) fun M3 =>
  R F.fram_All #[x0] M3 fun t9 M4 =>
  P_fram_Scan_1 [] t4 t5 t9 M4 Q
theorem T_fram_Scan {x0 : Value} {M : Store} {Q : Value → Store → Prop} (h : S_fram_Scan x0 M Q) : R F.fram_Scan #[x0] M Q := by
  refine runs_of (c := bodyOf Try.f112) Try.func112 rfl (by kernel_rfl) (by kernel_rfl) ?_
  unfold At
  exact rule (B := 1000) (N := 25) (ct := (.two .no (.two .no (.two .no (.two (.two .no (.two (.here 1000) .no)) (.here 1001))))))
    [⟨1002, fun a M => P_fram_Scan_1 a.defers (a.get 4) (a.get 5) (a.get 9) M Q, fun a M => At Try.prog Ex none Try.f112 [1, 1, 1, 0, 1, 0] a M Q⟩,
    ⟨1003, fun _ _ => False, fun a M => At Try.prog Ex none Try.f112 [1, 1, 1, 1] a M Q⟩]
    [1000, 1001] [] (by kernel_rfl) (by kernel_rfl) (by kernel_rfl) (by kernel_rfl) (by kernel_rfl)
    ⟨fun a M hn h => by obtain ⟨⟨n, f⟩, ds⟩ := a; have hn : n = 25 := hn; subst hn; exact h f rfl rfl rfl,
    fun _ _ _ h => h.elim,
    trivial⟩
    (cast (by kernel_rfl) h)
/-- The record of the range, and a round. -/
def RC_fram_Scan_1 (x4 x5 : Value) (st : LoopState) (pe : Nat) (rc : LRec) : Prop := ∃ f : Nat → Value, f 4 = x4 ∧ f 5 = x5 ∧ rc = ⟨st, pe, ⟨25, f⟩, #[10, 11], (sub (bodyOf Try.f112) [1, 1, 1, 0, 1, 0, 0]), (sub (bodyOf Try.f112) [1, 1, 1, 0, 1, 0, 1])⟩
def SY_fram_Scan_1 (l : Nat) (x4 x5 : Value) (y10 y11 : Value) (M : Store) (Q : Value → Store → Prop) : Prop :=
  OP (recOf M l) fun r => r.st = .ready ∧
  P_fram_Scan_2 l x4 x5 y10 y11 (putRec M l { r with st := .busy }) Q
theorem Y_fram_Scan_1 {l pe : Nat} {x4 x5 : Value} {y10 y11 : Value} {M : Store} {Q : Value → Store → Prop} {rc : LRec} (hr : recOf M l = some rc) (hc : RC_fram_Scan_1 x4 x5 .ready pe rc) (h : SY_fram_Scan_1 l x4 x5 y10 y11 M Q) : RunsY Try.prog Ex l #[y10, y11] M Q := by
  obtain ⟨f, h4, h5, hc⟩ := hc; subst h4; subst h5; subst hc
  refine runsY_of (args := [y10, y11]) hr (by kernel_rfl) ?_
  exact rule (B := 1000) (N := 25) (ct := .no)
    [⟨0, fun a M => OP (recOf M l) fun r => r.st = .ready ∧ dfr a.defers (P_fram_Scan_2 l (a.get 4) (a.get 5) (a.get 6) (a.get 7) (putRec M l { r with st := .busy }) Q), fun a M => kmid Try.prog Ex l (sub (bodyOf Try.f112) [1, 1, 1, 0, 1, 0, 1]) Q 0 a M⟩]
    [] [0] (by kernel_rfl) (by kernel_rfl) (by kernel_rfl) (by kernel_rfl) (by kernel_rfl)
    ⟨fun a M hn h => by obtain ⟨⟨n, f⟩, ds⟩ := a; have hn : n = 25 := hn; subst hn; obtain ⟨r, hr, hs, h⟩ := OP_iff.1 h; obtain ⟨hd, h⟩ := dfr_iff h; have hd : ds = [] := hd; subst hd; exact OP_iff.2 ⟨r, hr, hs, cast (by kernel_rfl) (h f rfl rfl rfl rfl)⟩, trivial⟩
    (cast (by kernel_rfl) h)
def S_fram_Scan_1 (ds : List Deferred) (x4 x5 x9 : Value) (M : Store) (Q : Value → Store → Prop) : Prop :=
  ∀ rc : LRec, RC_fram_Scan_1 x4 x5 .ready 0 rc →
  rfc Try.prog Ex x9 (M.n + 1) ((M.push (some (.inr (.inr none)))).push (some (.inr (.inr (some rc))))) fun _ M1 =>
  OP (recOf M1 (M.n + 1)) fun r => r.st ≠ .busy ∧
  bif Nat.beq 0 r.pe then (
  P_fram_Scan_3 ({ target := .collected M.n, args := #[] } :: ds) x4 x5 (putRec M1 (M.n + 1) { r with st := .exhausted }) Q
  ) else
  False
theorem T_fram_Scan_1 {ds : List Deferred} {x4 x5 x9 : Value} {M : Store} {Q : Value → Store → Prop} (h : S_fram_Scan_1 ds x4 x5 x9 M Q) : P_fram_Scan_1 ds x4 x5 x9 M Q := by
  intro f h4 h5 h9; subst h4; subst h5; subst h9
  unfold At
  refine cast (by kernel_rfl) (CW.rf (P := Try.prog) (E := Ex) (g := .tmp 9) (ps := #[10, 11]) (x := (sub (bodyOf Try.f112) [1, 1, 1, 0, 1, 0, 0])) (y := (sub (bodyOf Try.f112) [1, 1, 1, 0, 1, 0, 1])) (a := ⟨⟨25, f⟩, ds⟩) (M := M) (K := kcont Try.prog Ex none (bodyOf Try.f112) [1, 1, 1, 0, 1, 0] (kfin Try.prog Try.f112.results.toList Q)) ?_)
  refine cast (by kernel_rfl) (rfc_mono (k' := fun _ M' => OP (recOf M' (M.n + 1)) fun r => r.st ≠ .busy ∧ kcont Try.prog Ex none (bodyOf Try.f112) [1, 1, 1, 0, 1, 0] (kfin Try.prog Try.f112.results.toList Q) r.pe ⟨⟨25, f⟩, { target := .collected M.n, args := #[] } :: ds⟩ (putRec M' (M.n + 1) { r with st := .exhausted })) (h ⟨.ready, 0, ⟨25, f⟩, #[10, 11], (sub (bodyOf Try.f112) [1, 1, 1, 0, 1, 0, 0]), (sub (bodyOf Try.f112) [1, 1, 1, 0, 1, 0, 1])⟩ ⟨f, rfl, rfl, rfl⟩) ?_)
  intro _ M1 h
  obtain ⟨r, hr, hs, h⟩ := OP_iff.1 h
  refine OP_iff.2 ⟨r, hr, hs, ?_⟩
  exact disp_K (N := 25) (L := [⟨0, fun a M => P_fram_Scan_3 a.defers (a.get 4) (a.get 5) M Q, fun a M => At Try.prog Ex none Try.f112 [1, 1, 1, 1] a M Q⟩])
    [0] (by kernel_rfl) (by kernel_rfl)
    ⟨fun a M hn h => by obtain ⟨⟨n, f⟩, ds⟩ := a; have hn : n = 25 := hn; subst hn; exact h f rfl rfl,
    trivial⟩
    rfl (cast (by kernel_rfl) h)
def S_fram_Scan_2 (l : Nat) (x4 x5 x6 x7 : Value) (M : Store) (Q : Value → Store → Prop) : Prop :=
  OP (ld 1 false x4 M) fun t12 =>
  OP (bldL (.slice none 0 0) 1 1 [(0, x7)]) fun c =>
  LT (.slice (some ⟨M.n, 0, none⟩) 1 1) (M.push (some (.inl (c, Ty.sl_uint8, true)))) fun t14 M1 =>
  OP2 (appV 1 Ty.sl_uint8 t12 t14 M1) fun t15 M2 =>
  OP (st 1 x4 t15 M2) fun M3 =>
  OP (binI .add x6 (.int .i64 6)) fun t17 =>
  OP (lenV x7) fun t19 =>
  OP (binI .add t17 t19) fun t20 =>
  OP (binI .add t20 (.int .i64 4)) fun t21 =>
  OP (st 1 x5 t21 M3) fun M4 =>
  YE l 0 M4 Q
theorem T_fram_Scan_2 {l : Nat} {x4 x5 x6 x7 : Value} {M : Store} {Q : Value → Store → Prop} (h : S_fram_Scan_2 l x4 x5 x6 x7 M Q) : P_fram_Scan_2 l x4 x5 x6 x7 M Q := by
  intro f h4 h5 h6 h7; subst h4; subst h5; subst h6; subst h7
  unfold AtY
  exact rule (B := 1000) (N := 25) (ct := .no)
    [⟨0, fun a M => kfinY l Q 0 a M, fun a M => kfinY l Q 0 a M⟩]
    [] [0] (by kernel_rfl) (by kernel_rfl) (by kernel_rfl) (by kernel_rfl) (by kernel_rfl)
    ⟨fun _ _ _ h => h,
    trivial⟩
    (cast (by kernel_rfl) h)
def S_fram_Scan_3 (ds : List Deferred) (x4 x5 : Value) (M : Store) (Q : Value → Store → Prop) : Prop :=
  OP (ld 1 false x4 M) fun t22 =>
  R F.slices_Clip_sl_sl_byte_sl_byte #[t22] M fun t23 M1 =>
  TDj [0] [M.n, M.n] M M1 ∧
  OP (ld 1 false x5 M1) fun t24 =>
  OP (atake ds M1) fun M2 =>
  NTs [t23, t24] ∧ Q (.tuple #[t23, t24]) M2
theorem T_fram_Scan_3 {ds : List Deferred} {x4 x5 : Value} {M : Store} {Q : Value → Store → Prop} (h : S_fram_Scan_3 ds x4 x5 M Q) : P_fram_Scan_3 ds x4 x5 M Q := by
  intro f h4 h5; subst h4; subst h5
  unfold At
  exact rule (B := 1000) (N := 25) (ct := .no)
    [⟨1, fun a M => kfin Try.prog Try.f112.results.toList Q 1 a M, fun a M => kfin Try.prog Try.f112.results.toList Q 1 a M⟩]
    [] [1] (by kernel_rfl) (by kernel_rfl) (by kernel_rfl) (by kernel_rfl) (by kernel_rfl)
    ⟨fun _ _ _ h => h,
    trivial⟩
    (cast (by kernel_rfl) h)
def P_fettleref1_Scan_1 (x0 x4 x5 : Value) (M : Store) (Q : Value → Store → Prop) : Prop :=
  ∀ f : Nat → Value, f 0 = x0 → f 4 = x4 → f 5 = x5 → At Try.prog Ex none Try.f113 [1, 1, 1, 0] ⟨⟨25, f⟩, []⟩ M Q
def S_fettleref1_Scan (x0 : Value) (M : Store) (Q : Value → Store → Prop) : Prop :=
  P_fettleref1_Scan_1 x0 (.slice none 0 0) (.int .i64 0) M Q
theorem T_fettleref1_Scan {x0 : Value} {M : Store} {Q : Value → Store → Prop} (h : S_fettleref1_Scan x0 M Q) : R F.fettleref1_Scan #[x0] M Q := by
  refine runs_of (c := bodyOf Try.f113) Try.func113 rfl (by kernel_rfl) (by kernel_rfl) ?_
  unfold At
  exact rule (B := 1000) (N := 25) (ct := (.two .no (.two .no (.two .no (.two (.here 1000) .no)))))
    [⟨1002, fun a M => dfr a.defers (P_fettleref1_Scan_1 (a.get 0) (a.get 4) (a.get 5) M Q), fun a M => At Try.prog Ex none Try.f113 [1, 1, 1, 0] a M Q⟩]
    [1000] [] (by kernel_rfl) (by kernel_rfl) (by kernel_rfl) (by kernel_rfl) (by kernel_rfl)
    ⟨fun a M hn h => by obtain ⟨⟨n, f⟩, ds⟩ := a; have hn : n = 25 := hn; subst hn; obtain ⟨hd, h⟩ := dfr_iff h; have hd : ds = [] := hd; subst hd; exact h f rfl rfl rfl,
    trivial⟩
    (cast (by kernel_rfl) h)
def S_fettleref1_Scan_1 (x0 x4 x5 : Value) (M : Store) (Q : Value → Store → Prop) : Prop :=
  R F.fettleref1_frame #[x0, x5] M fun t12 M1 =>
  OP (tup t12 0) fun t13 =>
  OP (tup t12 1) fun t14 =>
  OP (tup t12 2) fun t15 =>
  OP (aun .not t15) fun t17 =>
  BR t17 (
  NTs [x4, x5] ∧ Q (.tuple #[x4, x5]) M1
  ) (
  OP (bldL (.slice none 0 0) 1 1 [(0, t13)]) fun c =>
  LT (.slice (some ⟨M1.n, 0, none⟩) 1 1) (M1.push (some (.inl (c, Ty.sl_uint8, true)))) fun t22 M2 =>
  OP2 (appV 1 Ty.sl_uint8 x4 t22 M2) fun t23 M3 =>
  P_fettleref1_Scan_1 x0 t23 t14 M3 Q
  )
theorem T_fettleref1_Scan_1 {x0 x4 x5 : Value} {M : Store} {Q : Value → Store → Prop} (h : S_fettleref1_Scan_1 x0 x4 x5 M Q) : P_fettleref1_Scan_1 x0 x4 x5 M Q := by
  intro f h0 h4 h5; subst h0; subst h4; subst h5
  unfold At
  refine cast (by kernel_rfl) (CW.loop (P := Try.prog) (E := Ex) (rd := none) (x := sub (bodyOf Try.f113) [1, 1, 1, 0, 0]) (a := ⟨⟨25, f⟩, []⟩) (M := M) (K := kcont Try.prog Ex none (bodyOf Try.f113) [1, 1, 1, 0] (kfin Try.prog Try.f113.results.toList Q)) ?_)
  exact rule (B := 1000) (N := 25) (ct := .no)
    [⟨0, fun a M => dfr a.defers (P_fettleref1_Scan_1 (a.get 0) (a.get 4) (a.get 5) M Q), fun a M => At Try.prog Ex none Try.f113 [1, 1, 1, 0] a M Q⟩,
    ⟨1, fun a M => kfin Try.prog Try.f113.results.toList Q 1 a M, fun a M => kfin Try.prog Try.f113.results.toList Q 1 a M⟩]
    [] [0, 1] (by kernel_rfl) (by kernel_rfl) (by kernel_rfl) (by kernel_rfl) (by kernel_rfl)
    ⟨fun a M hn h => by obtain ⟨⟨n, f⟩, ds⟩ := a; have hn : n = 25 := hn; subst hn; obtain ⟨hd, h⟩ := dfr_iff h; have hd : ds = [] := hd; subst hd; exact h f rfl rfl rfl,
    fun _ _ _ h => h,
    trivial⟩
    (cast (by kernel_rfl) h)
def P_slices_Concat_sl_byte_byte_1 (x0 x3 x9 x10 x11 : Value) (M : Store) (Q : Value → Store → Prop) : Prop :=
  ∀ f : Nat → Value, f 0 = x0 → f 3 = x3 → f 9 = x9 → f 10 = x10 → f 11 = x11 → At Try.prog Ex none Try.f121 [1, 1, 0, 1, 0] ⟨⟨36, f⟩, []⟩ M Q
def P_slices_Concat_sl_byte_byte_2 (x0 x3 x9 x10 x11 : Value) (M : Store) (Q : Value → Store → Prop) : Prop :=
  ∀ f : Nat → Value, f 0 = x0 → f 3 = x3 → f 9 = x9 → f 10 = x10 → f 11 = x11 → At Try.prog Ex none Try.f121 [1, 1, 0, 1, 0, 0, 1, 1] ⟨⟨36, f⟩, []⟩ M Q
def P_slices_Concat_sl_byte_byte_3 (x0 x3 : Value) (M : Store) (Q : Value → Store → Prop) : Prop :=
  ∀ f : Nat → Value, f 0 = x0 → f 3 = x3 → At Try.prog Ex none Try.f121 [1, 1, 1] ⟨⟨36, f⟩, []⟩ M Q
def P_slices_Concat_sl_byte_byte_4 (x6 x25 x26 x27 : Value) (M : Store) (Q : Value → Store → Prop) : Prop :=
  ∀ f : Nat → Value, f 6 = x6 → f 25 = x25 → f 26 = x26 → f 27 = x27 → At Try.prog Ex none Try.f121 [1, 1, 1, 1, 0, 1, 0] ⟨⟨36, f⟩, []⟩ M Q
def P_slices_Concat_sl_byte_byte_5 (x6 : Value) (M : Store) (Q : Value → Store → Prop) : Prop :=
  ∀ f : Nat → Value, f 6 = x6 → At Try.prog Ex none Try.f121 [1, 1, 1, 1, 1] ⟨⟨36, f⟩, []⟩ M Q
def S_slices_Concat_sl_byte_byte (x0 : Value) (M : Store) (Q : Value → Store → Prop) : Prop :=
  OP (lenV x0) fun t10 =>
  P_slices_Concat_sl_byte_byte_1 x0 (.int .i64 0) x0 t10 (.int .i64 0) M Q
theorem T_slices_Concat_sl_byte_byte {x0 : Value} {M : Store} {Q : Value → Store → Prop} (h : S_slices_Concat_sl_byte_byte x0 M Q) : R F.slices_Concat_sl_byte_byte #[x0] M Q := by
  refine runs_of (c := bodyOf Try.f121) Try.func121 rfl (by kernel_rfl) (by kernel_rfl) ?_
  unfold At
  exact rule (B := 1000) (N := 36) (ct := (.two .no (.two .no (.two (.two .no (.two (.here 1000) .no)) (.here 1001)))))
    [⟨1002, fun a M => dfr a.defers (P_slices_Concat_sl_byte_byte_1 (a.get 0) (a.get 3) (a.get 9) (a.get 10) (a.get 11) M Q), fun a M => At Try.prog Ex none Try.f121 [1, 1, 0, 1, 0] a M Q⟩,
    ⟨1003, fun _ _ => False, fun a M => At Try.prog Ex none Try.f121 [1, 1, 1] a M Q⟩]
    [1000, 1001] [] (by kernel_rfl) (by kernel_rfl) (by kernel_rfl) (by kernel_rfl) (by kernel_rfl)
    ⟨fun a M hn h => by obtain ⟨⟨n, f⟩, ds⟩ := a; have hn : n = 36 := hn; subst hn; obtain ⟨hd, h⟩ := dfr_iff h; have hd : ds = [] := hd; subst hd; exact h f rfl rfl rfl rfl rfl,
    fun _ _ _ h => h.elim,
    trivial⟩
    (cast (by kernel_rfl) h)
def S_slices_Concat_sl_byte_byte_1 (x0 x3 x9 x10 x11 : Value) (M : Store) (Q : Value → Store → Prop) : Prop :=
  OP (binI .lss x11 x10) fun t12 =>
  BR t12 (
  P_slices_Concat_sl_byte_byte_2 x0 x3 x9 x10 x11 M Q
  ) (
  P_slices_Concat_sl_byte_byte_3 x0 x3 M Q
  )
theorem T_slices_Concat_sl_byte_byte_1 {x0 x3 x9 x10 x11 : Value} {M : Store} {Q : Value → Store → Prop} (h : S_slices_Concat_sl_byte_byte_1 x0 x3 x9 x10 x11 M Q) : P_slices_Concat_sl_byte_byte_1 x0 x3 x9 x10 x11 M Q := by
  intro f h0 h3 h9 h10 h11; subst h0; subst h3; subst h9; subst h10; subst h11
  unfold At
  refine cast (by kernel_rfl) (CW.loop (P := Try.prog) (E := Ex) (rd := none) (x := sub (bodyOf Try.f121) [1, 1, 0, 1, 0, 0]) (a := ⟨⟨36, f⟩, []⟩) (M := M) (K := kcont Try.prog Ex none (bodyOf Try.f121) [1, 1, 0, 1, 0] (kfin Try.prog Try.f121.results.toList Q)) ?_)
  exact rule (B := 1000) (N := 36) (ct := (.two .no (.two .no (.here 1000))))
    [⟨1002, fun a M => dfr a.defers (P_slices_Concat_sl_byte_byte_2 (a.get 0) (a.get 3) (a.get 9) (a.get 10) (a.get 11) M Q), fun a M => At Try.prog Ex none Try.f121 [1, 1, 0, 1, 0, 0, 1, 1] a M Q⟩,
    ⟨2, fun a M => dfr a.defers (P_slices_Concat_sl_byte_byte_3 (a.get 0) (a.get 3) M Q), fun a M => At Try.prog Ex none Try.f121 [1, 1, 1] a M Q⟩]
    [1000] [2] (by kernel_rfl) (by kernel_rfl) (by kernel_rfl) (by kernel_rfl) (by kernel_rfl)
    ⟨fun a M hn h => by obtain ⟨⟨n, f⟩, ds⟩ := a; have hn : n = 36 := hn; subst hn; obtain ⟨hd, h⟩ := dfr_iff h; have hd : ds = [] := hd; subst hd; exact h f rfl rfl rfl rfl rfl,
    fun a M hn h => by obtain ⟨⟨n, f⟩, ds⟩ := a; have hn : n = 36 := hn; subst hn; obtain ⟨hd, h⟩ := dfr_iff h; have hd : ds = [] := hd; subst hd; exact h f rfl rfl,
    trivial⟩
    (cast (by kernel_rfl) h)
def S_slices_Concat_sl_byte_byte_2 (x0 x3 x9 x10 x11 : Value) (M : Store) (Q : Value → Store → Prop) : Prop :=
  OP (ixA 1 x9 x11) fun t13 =>
  OP (ld 1 false t13 M) fun t14 =>
  OP (lenV t14) fun t17 =>
  OP (binI .add x3 t17) fun t18 =>
  OP (binI .lss t18 (.int .i64 0)) fun t20 =>
  BR t20 (
  OP (mkI Ty.string (.string ⟨#[108, 101, 110, 32, 111, 117, 116, 32, 111, 102, 32, 114, 97, 110, 103, 101]⟩)) fun t21 =>
  False
  ) (
  OP (binI .add x11 (.int .i64 1)) fun t22 =>
  P_slices_Concat_sl_byte_byte_1 x0 t18 x9 x10 t22 M Q
  )
theorem T_slices_Concat_sl_byte_byte_2 {x0 x3 x9 x10 x11 : Value} {M : Store} {Q : Value → Store → Prop} (h : S_slices_Concat_sl_byte_byte_2 x0 x3 x9 x10 x11 M Q) : P_slices_Concat_sl_byte_byte_2 x0 x3 x9 x10 x11 M Q := by
  intro f h0 h3 h9 h10 h11; subst h0; subst h3; subst h9; subst h10; subst h11
  unfold At
  exact rule (B := 1000) (N := 36) (ct := .no)
    [⟨0, fun a M => dfr a.defers (P_slices_Concat_sl_byte_byte_1 (a.get 0) (a.get 3) (a.get 9) (a.get 10) (a.get 11) M Q), fun a M => At Try.prog Ex none Try.f121 [1, 1, 0, 1, 0] a M Q⟩]
    [] [0] (by kernel_rfl) (by kernel_rfl) (by kernel_rfl) (by kernel_rfl) (by kernel_rfl)
    ⟨fun a M hn h => by obtain ⟨⟨n, f⟩, ds⟩ := a; have hn : n = 36 := hn; subst hn; obtain ⟨hd, h⟩ := dfr_iff h; have hd : ds = [] := hd; subst hd; exact h f rfl rfl rfl rfl rfl,
    trivial⟩
    (cast (by kernel_rfl) h)
def S_slices_Concat_sl_byte_byte_3 (x0 x3 : Value) (M : Store) (Q : Value → Store → Prop) : Prop :=
  R F.slices_Grow_sl_byte_byte #[(.slice none 0 0), x3] M fun t24 M1 =>
  OP (lenV x0) fun t26 =>
  P_slices_Concat_sl_byte_byte_4 t24 x0 t26 (.int .i64 0) M1 Q
theorem T_slices_Concat_sl_byte_byte_3 {x0 x3 : Value} {M : Store} {Q : Value → Store → Prop} (h : S_slices_Concat_sl_byte_byte_3 x0 x3 M Q) : P_slices_Concat_sl_byte_byte_3 x0 x3 M Q := by
  intro f h0 h3; subst h0; subst h3
  unfold At
  exact rule (B := 1000) (N := 36) (ct := (.two .no (.two (.two .no (.two (.here 1000) .no)) (.here 1001))))
    [⟨1002, fun a M => dfr a.defers (P_slices_Concat_sl_byte_byte_4 (a.get 6) (a.get 25) (a.get 26) (a.get 27) M Q), fun a M => At Try.prog Ex none Try.f121 [1, 1, 1, 1, 0, 1, 0] a M Q⟩,
    ⟨1003, fun _ _ => False, fun a M => At Try.prog Ex none Try.f121 [1, 1, 1, 1, 1] a M Q⟩]
    [1000, 1001] [] (by kernel_rfl) (by kernel_rfl) (by kernel_rfl) (by kernel_rfl) (by kernel_rfl)
    ⟨fun a M hn h => by obtain ⟨⟨n, f⟩, ds⟩ := a; have hn : n = 36 := hn; subst hn; obtain ⟨hd, h⟩ := dfr_iff h; have hd : ds = [] := hd; subst hd; exact h f rfl rfl rfl rfl,
    fun _ _ _ h => h.elim,
    trivial⟩
    (cast (by kernel_rfl) h)
def S_slices_Concat_sl_byte_byte_4 (x6 x25 x26 x27 : Value) (M : Store) (Q : Value → Store → Prop) : Prop :=
  OP (binI .lss x27 x26) fun t28 =>
  BR t28 (
  OP (ixA 1 x25 x27) fun t29 =>
  OP (ld 1 false t29 M) fun t30 =>
  OP2 (appV 1 Ty.uint8 x6 t30 M) fun t33 M1 =>
  OP (binI .add x27 (.int .i64 1)) fun t34 =>
  P_slices_Concat_sl_byte_byte_4 t33 x25 x26 t34 M1 Q
  ) (
  P_slices_Concat_sl_byte_byte_5 x6 M Q
  )
theorem T_slices_Concat_sl_byte_byte_4 {x6 x25 x26 x27 : Value} {M : Store} {Q : Value → Store → Prop} (h : S_slices_Concat_sl_byte_byte_4 x6 x25 x26 x27 M Q) : P_slices_Concat_sl_byte_byte_4 x6 x25 x26 x27 M Q := by
  intro f h6 h25 h26 h27; subst h6; subst h25; subst h26; subst h27
  unfold At
  refine cast (by kernel_rfl) (CW.loop (P := Try.prog) (E := Ex) (rd := none) (x := sub (bodyOf Try.f121) [1, 1, 1, 1, 0, 1, 0, 0]) (a := ⟨⟨36, f⟩, []⟩) (M := M) (K := kcont Try.prog Ex none (bodyOf Try.f121) [1, 1, 1, 1, 0, 1, 0] (kfin Try.prog Try.f121.results.toList Q)) ?_)
  exact rule (B := 1000) (N := 36) (ct := .no)
    [⟨0, fun a M => dfr a.defers (P_slices_Concat_sl_byte_byte_4 (a.get 6) (a.get 25) (a.get 26) (a.get 27) M Q), fun a M => At Try.prog Ex none Try.f121 [1, 1, 1, 1, 0, 1, 0] a M Q⟩,
    ⟨4, fun a M => dfr a.defers (P_slices_Concat_sl_byte_byte_5 (a.get 6) M Q), fun a M => At Try.prog Ex none Try.f121 [1, 1, 1, 1, 1] a M Q⟩]
    [] [0, 4] (by kernel_rfl) (by kernel_rfl) (by kernel_rfl) (by kernel_rfl) (by kernel_rfl)
    ⟨fun a M hn h => by obtain ⟨⟨n, f⟩, ds⟩ := a; have hn : n = 36 := hn; subst hn; obtain ⟨hd, h⟩ := dfr_iff h; have hd : ds = [] := hd; subst hd; exact h f rfl rfl rfl rfl,
    fun a M hn h => by obtain ⟨⟨n, f⟩, ds⟩ := a; have hn : n = 36 := hn; subst hn; obtain ⟨hd, h⟩ := dfr_iff h; have hd : ds = [] := hd; subst hd; exact h f rfl,
    trivial⟩
    (cast (by kernel_rfl) h)
def S_slices_Concat_sl_byte_byte_5 (x6 : Value) (M : Store) (Q : Value → Store → Prop) : Prop :=
  NTs [x6] ∧ Q x6 M
theorem T_slices_Concat_sl_byte_byte_5 {x6 : Value} {M : Store} {Q : Value → Store → Prop} (h : S_slices_Concat_sl_byte_byte_5 x6 M Q) : P_slices_Concat_sl_byte_byte_5 x6 M Q := by
  intro f h6; subst h6
  unfold At
  exact rule (B := 1000) (N := 36) (ct := .no)
    [⟨1, fun a M => kfin Try.prog Try.f121.results.toList Q 1 a M, fun a M => kfin Try.prog Try.f121.results.toList Q 1 a M⟩]
    [] [1] (by kernel_rfl) (by kernel_rfl) (by kernel_rfl) (by kernel_rfl) (by kernel_rfl)
    ⟨fun _ _ _ h => h,
    trivial⟩
    (cast (by kernel_rfl) h)
def S_fram_All (x0 : Value) (M : Store) (Q : Value → Store → Prop) : Prop :=
  OP (boxv x0) fun c =>
  LT (.pointer (some ⟨M.n, 0, none⟩)) (M.push (some (.inl (c, Ty.sl_uint8, true)))) fun t1 M1 =>
  OP (ld 1 false t1 M1) fun t3 =>
  R F.slices_Clone_sl_byte_byte #[t3] M1 fun t4 M2 =>
  OP (st 1 t1 t4 M2) fun M3 =>
  OP (mkF (.func F.fram_All_c1) [] [t1]) fun t5 =>
  NTs [t5] ∧ Q t5 M3
theorem T_fram_All {x0 : Value} {M : Store} {Q : Value → Store → Prop} (h : S_fram_All x0 M Q) : R F.fram_All #[x0] M Q := by
  refine runs_of (c := bodyOf Try.f125) Try.func125 rfl (by kernel_rfl) (by kernel_rfl) ?_
  unfold At
  exact rule (B := 1000) (N := 6) (ct := .no)
    [⟨1, fun a M => kfin Try.prog Try.f125.results.toList Q 1 a M, fun a M => kfin Try.prog Try.f125.results.toList Q 1 a M⟩]
    [] [1] (by kernel_rfl) (by kernel_rfl) (by kernel_rfl) (by kernel_rfl) (by kernel_rfl)
    ⟨fun _ _ _ h => h,
    trivial⟩
    (cast (by kernel_rfl) h)
def S_fettleref1_frame (x0 x1 : Value) (M : Store) (Q : Value → Store → Prop) : Prop :=
  OP (slV 1 Ty.uint8 x0 (some x1) none M) fun t13 =>
  OP (bldS #[(.slice none 0 0), (.bool false)] [(0, 1), (1, 1)] [(0, t13)]) fun t14 =>
  OP (boxv t14) fun c =>
  LT (.pointer (some ⟨M.n, 0, none⟩)) (M.push (some (.inl (c, Ty.fettleref1_Reader, true)))) fun t15 M1 =>
  R F.fettleref1_Reader_Bytes #[t15, (.int .i64 10000)] M1 fun t17 M2 =>
  OP (nilc t15) fun t19 =>
  OP (fad 1 t19) fun t20 =>
  OP (ld 1 false t20 M2) fun t21 =>
  BR t21 (
  NTs [(.slice none 0 0), x1, (.bool false)] ∧ Q (.tuple #[(.slice none 0 0), x1, (.bool false)]) M2
  ) (
  OP (nilc t15) fun t24 =>
  OP (fad 0 t24) fun t25 =>
  OP (ld 1 false t25 M2) fun t26 =>
  OP (lenV t26) fun t27 =>
  OP (binI .lss t27 (.int .i64 4)) fun t28 =>
  BR t28 (
  NTs [(.slice none 0 0), x1, (.bool false)] ∧ Q (.tuple #[(.slice none 0 0), x1, (.bool false)]) M2
  ) (
  OP (binI .add x1 (.int .i64 6)) fun t32 =>
  OP (lenV t17) fun t34 =>
  OP (binI .add t32 t34) fun t35 =>
  OP (slV 1 Ty.uint8 x0 (some x1) (some t35) M2) fun t39 =>
  R F.fettleref1_Sum #[t39] M2 fun t40 M3 =>
  OP (ixA 1 x0 t35) fun t43 =>
  OP (ld 1 false t43 M3) fun t44 =>
  OP (binI .shr t40 (.int .u64 24)) fun t46 =>
  OP (cvI .u8 t46) fun t47 =>
  OP (binI .neq t44 t47) fun t48 =>
  BR t48 (
  NTs [(.slice none 0 0), x1, (.bool false)] ∧ Q (.tuple #[(.slice none 0 0), x1, (.bool false)]) M3
  ) (
  OP (binI .add t35 (.int .i64 1)) fun t52 =>
  OP (ixA 1 x0 t52) fun t53 =>
  OP (ld 1 false t53 M3) fun t54 =>
  OP (binI .shr t40 (.int .u64 16)) fun t56 =>
  OP (cvI .u8 t56) fun t57 =>
  OP (binI .neq t54 t57) fun t58 =>
  BR t58 (
  NTs [(.slice none 0 0), x1, (.bool false)] ∧ Q (.tuple #[(.slice none 0 0), x1, (.bool false)]) M3
  ) (
  OP (binI .add t35 (.int .i64 2)) fun t63 =>
  OP (ixA 1 x0 t63) fun t64 =>
  OP (ld 1 false t64 M3) fun t65 =>
  OP (binI .shr t40 (.int .u64 8)) fun t67 =>
  OP (cvI .u8 t67) fun t68 =>
  OP (binI .neq t65 t68) fun t69 =>
  BR t69 (
  NTs [(.slice none 0 0), x1, (.bool false)] ∧ Q (.tuple #[(.slice none 0 0), x1, (.bool false)]) M3
  ) (
  OP (binI .add t35 (.int .i64 3)) fun t74 =>
  OP (ixA 1 x0 t74) fun t75 =>
  OP (ld 1 false t75 M3) fun t76 =>
  OP (cvI .u8 t40) fun t78 =>
  OP (binI .neq t76 t78) fun t79 =>
  BR t79 (
  NTs [(.slice none 0 0), x1, (.bool false)] ∧ Q (.tuple #[(.slice none 0 0), x1, (.bool false)]) M3
  ) (
  OP (binI .add t35 (.int .i64 4)) fun t84 =>
  NTs [t17, t84, (.bool true)] ∧ Q (.tuple #[t17, t84, (.bool true)]) M3
  )
  )
  )
  )
  )
  )
theorem T_fettleref1_frame {x0 x1 : Value} {M : Store} {Q : Value → Store → Prop} (h : S_fettleref1_frame x0 x1 M Q) : R F.fettleref1_frame #[x0, x1] M Q := by
  refine runs_of (c := bodyOf Try.f126) Try.func126 rfl (by kernel_rfl) (by kernel_rfl) ?_
  unfold At
  exact rule (B := 1000) (N := 85) (ct := .no)
    [⟨1, fun a M => kfin Try.prog Try.f126.results.toList Q 1 a M, fun a M => kfin Try.prog Try.f126.results.toList Q 1 a M⟩]
    [] [1] (by kernel_rfl) (by kernel_rfl) (by kernel_rfl) (by kernel_rfl) (by kernel_rfl)
    ⟨fun _ _ _ h => h,
    trivial⟩
    (cast (by kernel_rfl) h)
def P_slices_Grow_sl_byte_byte_1 (x0 x1 : Value) (M : Store) (Q : Value → Store → Prop) : Prop :=
  ∀ f : Nat → Value, f 0 = x0 → f 1 = x1 → At Try.prog Ex none Try.f132 [1, 1] ⟨⟨27, f⟩, []⟩ M Q
def S_slices_Grow_sl_byte_byte (x0 x1 : Value) (M : Store) (Q : Value → Store → Prop) : Prop :=
  OP (binI .lss x1 (.int .i64 0)) fun t6 =>
  BR t6 (
  OP (mkI Ty.string (.string ⟨#[99, 97, 110, 110, 111, 116, 32, 98, 101, 32, 110, 101, 103, 97, 116, 105, 118, 101]⟩)) fun t7 =>
  False
  ) (
  P_slices_Grow_sl_byte_byte_1 x0 x1 M Q
  )
theorem T_slices_Grow_sl_byte_byte {x0 x1 : Value} {M : Store} {Q : Value → Store → Prop} (h : S_slices_Grow_sl_byte_byte x0 x1 M Q) : R F.slices_Grow_sl_byte_byte #[x0, x1] M Q := by
  refine runs_of (c := bodyOf Try.f132) Try.func132 rfl (by kernel_rfl) (by kernel_rfl) ?_
  unfold At
  exact rule (B := 1000) (N := 27) (ct := (.two .no (.two .no (.here 1000))))
    [⟨1002, fun a M => dfr a.defers (P_slices_Grow_sl_byte_byte_1 (a.get 0) (a.get 1) M Q), fun a M => At Try.prog Ex none Try.f132 [1, 1] a M Q⟩]
    [1000] [] (by kernel_rfl) (by kernel_rfl) (by kernel_rfl) (by kernel_rfl) (by kernel_rfl)
    ⟨fun a M hn h => by obtain ⟨⟨n, f⟩, ds⟩ := a; have hn : n = 27 := hn; subst hn; obtain ⟨hd, h⟩ := dfr_iff h; have hd : ds = [] := hd; subst hd; exact h f rfl rfl,
    trivial⟩
    (cast (by kernel_rfl) h)
def S_slices_Grow_sl_byte_byte_1 (x0 x1 : Value) (M : Store) (Q : Value → Store → Prop) : Prop :=
  OP (capV x0) fun t10 =>
  OP (lenV x0) fun t12 =>
  OP (binI .sub t10 t12) fun t13 =>
  OP (binI .sub x1 t13) fun t14 =>
  OP (binI .gtr t14 (.int .i64 0)) fun t16 =>
  BR t16 (
  OP (capV x0) fun t19 =>
  OP (slV 1 Ty.uint8 x0 none (some t19) M) fun t20 =>
  OP2 (appZ (.int .u8 0) 1 Ty.uint8 t20 t14 M) fun t22 M1 =>
  OP (lenV x0) fun t24 =>
  OP (slV 1 Ty.uint8 t22 none (some t24) M1) fun t25 =>
  NTs [t25] ∧ Q t25 M1
  ) (
  NTs [x0] ∧ Q x0 M
  )
theorem T_slices_Grow_sl_byte_byte_1 {x0 x1 : Value} {M : Store} {Q : Value → Store → Prop} (h : S_slices_Grow_sl_byte_byte_1 x0 x1 M Q) : P_slices_Grow_sl_byte_byte_1 x0 x1 M Q := by
  intro f h0 h1; subst h0; subst h1
  unfold At
  exact rule (B := 1000) (N := 27) (ct := .no)
    [⟨1, fun a M => kfin Try.prog Try.f132.results.toList Q 1 a M, fun a M => kfin Try.prog Try.f132.results.toList Q 1 a M⟩]
    [] [1] (by kernel_rfl) (by kernel_rfl) (by kernel_rfl) (by kernel_rfl) (by kernel_rfl)
    ⟨fun _ _ _ h => h,
    trivial⟩
    (cast (by kernel_rfl) h)
def P_fram_All_c1_1 (x0 x1 x3 : Value) (M : Store) (Q : Value → Store → Prop) : Prop :=
  ∀ f : Nat → Value, f 0 = x0 → f 1 = x1 → f 3 = x3 → At Try.prog Ex none Try.f134 [1, 0] ⟨⟨27, f⟩, []⟩ M Q
def S_fram_All_c1 (x0 x1 : Value) (M : Store) (Q : Value → Store → Prop) : Prop :=
  P_fram_All_c1_1 x0 x1 (.int .i64 0) M Q
theorem T_fram_All_c1 {x0 x1 : Value} {M : Store} {Q : Value → Store → Prop} (h : S_fram_All_c1 x0 x1 M Q) : R F.fram_All_c1 #[x0, x1] M Q := by
  refine runs_of (c := bodyOf Try.f134) Try.func134 rfl (by kernel_rfl) (by kernel_rfl) ?_
  unfold At
  exact rule (B := 1000) (N := 27) (ct := (.two .no (.two (.here 1000) .no)))
    [⟨1002, fun a M => dfr a.defers (P_fram_All_c1_1 (a.get 0) (a.get 1) (a.get 3) M Q), fun a M => At Try.prog Ex none Try.f134 [1, 0] a M Q⟩]
    [1000] [] (by kernel_rfl) (by kernel_rfl) (by kernel_rfl) (by kernel_rfl) (by kernel_rfl)
    ⟨fun a M hn h => by obtain ⟨⟨n, f⟩, ds⟩ := a; have hn : n = 27 := hn; subst hn; obtain ⟨hd, h⟩ := dfr_iff h; have hd : ds = [] := hd; subst hd; exact h f rfl rfl rfl,
    trivial⟩
    (cast (by kernel_rfl) h)
def S_fram_All_c1_1 (x0 x1 x3 : Value) (M : Store) (Q : Value → Store → Prop) : Prop :=
  OP (ld 1 false x1 M) fun t8 =>
  OP (slV 1 Ty.uint8 t8 (some x3) none M) fun t10 =>
  R F.fram_one #[t10] M fun t11 M1 =>
  OP (tup t11 0) fun t12 =>
  OP (tup t11 1) fun t13 =>
  OP (tup t11 2) fun t14 =>
  OP (aun .not t14) fun t16 =>
  BR t16 (
  NTs [] ∧ Q (.tuple #[]) M1
  ) (
  KC x0 [x3, t12] M1 fun t21 M2 =>
  OP (aun .not t21) fun t22 =>
  BR t22 (
  NTs [] ∧ Q (.tuple #[]) M2
  ) (
  OP (binI .add x3 t13) fun t26 =>
  P_fram_All_c1_1 x0 x1 t26 M2 Q
  )
  )
theorem T_fram_All_c1_1 {x0 x1 x3 : Value} {M : Store} {Q : Value → Store → Prop} (h : S_fram_All_c1_1 x0 x1 x3 M Q) : P_fram_All_c1_1 x0 x1 x3 M Q := by
  intro f h0 h1 h3; subst h0; subst h1; subst h3
  unfold At
  refine cast (by kernel_rfl) (CW.loop (P := Try.prog) (E := Ex) (rd := none) (x := sub (bodyOf Try.f134) [1, 0, 0]) (a := ⟨⟨27, f⟩, []⟩) (M := M) (K := kcont Try.prog Ex none (bodyOf Try.f134) [1, 0] (kfin Try.prog Try.f134.results.toList Q)) ?_)
  exact rule (B := 1000) (N := 27) (ct := .no)
    [⟨0, fun a M => dfr a.defers (P_fram_All_c1_1 (a.get 0) (a.get 1) (a.get 3) M Q), fun a M => At Try.prog Ex none Try.f134 [1, 0] a M Q⟩,
    ⟨1, fun a M => kfin Try.prog Try.f134.results.toList Q 1 a M, fun a M => kfin Try.prog Try.f134.results.toList Q 1 a M⟩]
    [] [0, 1] (by kernel_rfl) (by kernel_rfl) (by kernel_rfl) (by kernel_rfl) (by kernel_rfl)
    ⟨fun a M hn h => by obtain ⟨⟨n, f⟩, ds⟩ := a; have hn : n = 27 := hn; subst hn; obtain ⟨hd, h⟩ := dfr_iff h; have hd : ds = [] := hd; subst hd; exact h f rfl rfl rfl,
    fun _ _ _ h => h,
    trivial⟩
    (cast (by kernel_rfl) h)
def S_fram_one (x0 : Value) (M : Store) (Q : Value → Store → Prop) : Prop :=
  OP (lenV x0) fun t10 =>
  OP (amin2 t10 (.int .i64 10006)) fun t11 =>
  OP (slV 1 Ty.uint8 x0 none (some t11) M) fun t12 =>
  R F.code_Read #[t12] M fun t13 M1 =>
  R F.code_Reader_Bytes #[t13, (.int .i64 10000)] M1 fun t15 M2 =>
  OP (lenV t15) fun t17 =>
  OP (binI .add (.int .i64 6) t17) fun t18 =>
  R F.code_Reader_Ok #[t13] M2 fun t20 M3 =>
  TDx [0, 1, 3, 7, 15, 31, 15, 79, 255, 511, 1023, 2047, 2047, 8191, 16383, 2047, 2047, 2047, 133119, 493567, 1048575, 2097151, 4194303] [M2.n, M2.n] 1 M2 M3 ∧
  OP (aun .not t20) fun t21 =>
  BR t21 (
  NTs [(.slice none 0 0), (.int .i64 0), (.bool false)] ∧ Q (.tuple #[(.slice none 0 0), (.int .i64 0), (.bool false)]) M3
  ) (
  OP (lenV x0) fun t24 =>
  OP (binI .add t18 (.int .i64 4)) fun t26 =>
  OP (binI .lss t24 t26) fun t27 =>
  BR t27 (
  NTs [(.slice none 0 0), (.int .i64 0), (.bool false)] ∧ Q (.tuple #[(.slice none 0 0), (.int .i64 0), (.bool false)]) M3
  ) (
  OP (slV 1 Ty.uint8 x0 none (some t18) M3) fun t32 =>
  R F.fram_sum #[t32] M3 fun t33 M4 =>
  TDj [11, 12, 13] [M2.n, M2.n, M3.n, M3.n, M3.n, M3.n, M3.n, M3.n, M3.n, M3.n, M3.n, M3.n, M3.n, M3.n, M3.n] M3 M4 ∧
  OP (binI .add t18 (.int .i64 4)) fun t37 =>
  OP (slV 1 Ty.uint8 x0 (some t18) (some t37) M4) fun t38 =>
  R F.slices_Equal_sl_byte_byte #[t33, t38] M4 fun t39 M5 =>
  TDx [0, 1, 3, 7, 15, 31, 15, 79, 255, 511, 1023, 2047, 2047, 8191, 16383, 2047, 2047, 2047, 133119, 493567, 1048575, 2097151, 4194303] [M2.n, M2.n, M3.n, M3.n, M3.n, M3.n, M3.n, M3.n, M3.n, M3.n, M3.n, M3.n, M3.n, M3.n, M3.n, M4.n, M4.n, M4.n, M4.n, M4.n, M4.n] 20 M4 M5 ∧
  OP (aun .not t39) fun t40 =>
  BR t40 (
  NTs [(.slice none 0 0), (.int .i64 0), (.bool false)] ∧ Q (.tuple #[(.slice none 0 0), (.int .i64 0), (.bool false)]) M5
  ) (
  OP (binI .add t18 (.int .i64 4)) fun t44 =>
  NTs [t15, t44, (.bool true)] ∧ Q (.tuple #[t15, t44, (.bool true)]) M5
  )
  )
  )
theorem T_fram_one {x0 : Value} {M : Store} {Q : Value → Store → Prop} (h : S_fram_one x0 M Q) : R F.fram_one #[x0] M Q := by
  refine runs_of (c := bodyOf Try.f135) Try.func135 rfl (by kernel_rfl) (by kernel_rfl) ?_
  unfold At
  exact rule (B := 1000) (N := 45) (ct := .no)
    [⟨1, fun a M => kfin Try.prog Try.f135.results.toList Q 1 a M, fun a M => kfin Try.prog Try.f135.results.toList Q 1 a M⟩]
    [] [1] (by kernel_rfl) (by kernel_rfl) (by kernel_rfl) (by kernel_rfl) (by kernel_rfl)
    ⟨fun _ _ _ h => h,
    trivial⟩
    (cast (by kernel_rfl) h)
def S_code_Reader_Ok (x0 : Value) (M : Store) (Q : Value → Store → Prop) : Prop :=
  OP (nilc x0) fun t4 =>
  OP (fad 1 t4) fun t5 =>
  OP (ld 1 false t5 M) fun t6 =>
  OP (aun .not t6) fun t7 =>
  NTs [t7] ∧ Q t7 M
theorem T_code_Reader_Ok {x0 : Value} {M : Store} {Q : Value → Store → Prop} (h : S_code_Reader_Ok x0 M Q) : R F.code_Reader_Ok #[x0] M Q := by
  refine runs_of (c := bodyOf Try.f141) Try.func141 rfl (by kernel_rfl) (by kernel_rfl) ?_
  unfold At
  exact rule (B := 1000) (N := 8) (ct := .no)
    [⟨1, fun a M => kfin Try.prog Try.f141.results.toList Q 1 a M, fun a M => kfin Try.prog Try.f141.results.toList Q 1 a M⟩]
    [] [1] (by kernel_rfl) (by kernel_rfl) (by kernel_rfl) (by kernel_rfl) (by kernel_rfl)
    ⟨fun _ _ _ h => h,
    trivial⟩
    (cast (by kernel_rfl) h)
def P_slices_Equal_sl_byte_byte_1 (x0 x1 x12 x13 : Value) (M : Store) (Q : Value → Store → Prop) : Prop :=
  ∀ f : Nat → Value, f 0 = x0 → f 1 = x1 → f 12 = x12 → f 13 = x13 → At Try.prog Ex none Try.f142 [1, 1, 0, 1, 0] ⟨⟨26, f⟩, []⟩ M Q
def P_slices_Equal_sl_byte_byte_2 (x0 x1 x12 x13 : Value) (M : Store) (Q : Value → Store → Prop) : Prop :=
  ∀ f : Nat → Value, f 0 = x0 → f 1 = x1 → f 12 = x12 → f 13 = x13 → At Try.prog Ex none Try.f142 [1, 1, 0, 1, 0, 0, 1, 1] ⟨⟨26, f⟩, []⟩ M Q
def P_slices_Equal_sl_byte_byte_3 (M : Store) (Q : Value → Store → Prop) : Prop :=
  ∀ f : Nat → Value, At Try.prog Ex none Try.f142 [1, 1, 1] ⟨⟨26, f⟩, []⟩ M Q
def S_slices_Equal_sl_byte_byte (x0 x1 : Value) (M : Store) (Q : Value → Store → Prop) : Prop :=
  OP (lenV x0) fun t7 =>
  OP (lenV x1) fun t9 =>
  OP (binI .neq t7 t9) fun t10 =>
  BR t10 (
  NTs [(.bool false)] ∧ Q (.bool false) M
  ) (
  OP (lenV x0) fun t12 =>
  P_slices_Equal_sl_byte_byte_1 x0 x1 t12 (.int .i64 0) M Q
  )
theorem T_slices_Equal_sl_byte_byte {x0 x1 : Value} {M : Store} {Q : Value → Store → Prop} (h : S_slices_Equal_sl_byte_byte x0 x1 M Q) : R F.slices_Equal_sl_byte_byte #[x0, x1] M Q := by
  refine runs_of (c := bodyOf Try.f142) Try.func142 rfl (by kernel_rfl) (by kernel_rfl) ?_
  unfold At
  exact rule (B := 1000) (N := 26) (ct := (.two .no (.two .no (.two (.two .no (.two (.here 1000) .no)) (.here 1001)))))
    [⟨1002, fun a M => dfr a.defers (P_slices_Equal_sl_byte_byte_1 (a.get 0) (a.get 1) (a.get 12) (a.get 13) M Q), fun a M => At Try.prog Ex none Try.f142 [1, 1, 0, 1, 0] a M Q⟩,
    ⟨1003, fun _ _ => False, fun a M => At Try.prog Ex none Try.f142 [1, 1, 1] a M Q⟩,
    ⟨1, fun a M => kfin Try.prog Try.f142.results.toList Q 1 a M, fun a M => kfin Try.prog Try.f142.results.toList Q 1 a M⟩]
    [1000, 1001] [1] (by kernel_rfl) (by kernel_rfl) (by kernel_rfl) (by kernel_rfl) (by kernel_rfl)
    ⟨fun a M hn h => by obtain ⟨⟨n, f⟩, ds⟩ := a; have hn : n = 26 := hn; subst hn; obtain ⟨hd, h⟩ := dfr_iff h; have hd : ds = [] := hd; subst hd; exact h f rfl rfl rfl rfl,
    fun _ _ _ h => h.elim,
    fun _ _ _ h => h,
    trivial⟩
    (cast (by kernel_rfl) h)
def S_slices_Equal_sl_byte_byte_1 (x0 x1 x12 x13 : Value) (M : Store) (Q : Value → Store → Prop) : Prop :=
  OP (binI .lss x13 x12) fun t14 =>
  BR t14 (
  P_slices_Equal_sl_byte_byte_2 x0 x1 x12 x13 M Q
  ) (
  P_slices_Equal_sl_byte_byte_3 M Q
  )
theorem T_slices_Equal_sl_byte_byte_1 {x0 x1 x12 x13 : Value} {M : Store} {Q : Value → Store → Prop} (h : S_slices_Equal_sl_byte_byte_1 x0 x1 x12 x13 M Q) : P_slices_Equal_sl_byte_byte_1 x0 x1 x12 x13 M Q := by
  intro f h0 h1 h12 h13; subst h0; subst h1; subst h12; subst h13
  unfold At
  refine cast (by kernel_rfl) (CW.loop (P := Try.prog) (E := Ex) (rd := none) (x := sub (bodyOf Try.f142) [1, 1, 0, 1, 0, 0]) (a := ⟨⟨26, f⟩, []⟩) (M := M) (K := kcont Try.prog Ex none (bodyOf Try.f142) [1, 1, 0, 1, 0] (kfin Try.prog Try.f142.results.toList Q)) ?_)
  exact rule (B := 1000) (N := 26) (ct := (.two .no (.two .no (.here 1000))))
    [⟨1002, fun a M => dfr a.defers (P_slices_Equal_sl_byte_byte_2 (a.get 0) (a.get 1) (a.get 12) (a.get 13) M Q), fun a M => At Try.prog Ex none Try.f142 [1, 1, 0, 1, 0, 0, 1, 1] a M Q⟩,
    ⟨2, fun a M => dfr a.defers (P_slices_Equal_sl_byte_byte_3 M Q), fun a M => At Try.prog Ex none Try.f142 [1, 1, 1] a M Q⟩]
    [1000] [2] (by kernel_rfl) (by kernel_rfl) (by kernel_rfl) (by kernel_rfl) (by kernel_rfl)
    ⟨fun a M hn h => by obtain ⟨⟨n, f⟩, ds⟩ := a; have hn : n = 26 := hn; subst hn; obtain ⟨hd, h⟩ := dfr_iff h; have hd : ds = [] := hd; subst hd; exact h f rfl rfl rfl rfl,
    fun a M hn h => by obtain ⟨⟨n, f⟩, ds⟩ := a; have hn : n = 26 := hn; subst hn; obtain ⟨hd, h⟩ := dfr_iff h; have hd : ds = [] := hd; subst hd; exact h f,
    trivial⟩
    (cast (by kernel_rfl) h)
def S_slices_Equal_sl_byte_byte_2 (x0 x1 x12 x13 : Value) (M : Store) (Q : Value → Store → Prop) : Prop :=
  OP (ixA 1 x0 x13) fun t18 =>
  OP (ld 1 false t18 M) fun t19 =>
  OP (ixA 1 x1 x13) fun t22 =>
  OP (ld 1 false t22 M) fun t23 =>
  OP (binI .neq t19 t23) fun t24 =>
  BR t24 (
  NTs [(.bool false)] ∧ Q (.bool false) M
  ) (
  OP (binI .add x13 (.int .i64 1)) fun t25 =>
  P_slices_Equal_sl_byte_byte_1 x0 x1 x12 t25 M Q
  )
theorem T_slices_Equal_sl_byte_byte_2 {x0 x1 x12 x13 : Value} {M : Store} {Q : Value → Store → Prop} (h : S_slices_Equal_sl_byte_byte_2 x0 x1 x12 x13 M Q) : P_slices_Equal_sl_byte_byte_2 x0 x1 x12 x13 M Q := by
  intro f h0 h1 h12 h13; subst h0; subst h1; subst h12; subst h13
  unfold At
  exact rule (B := 1000) (N := 26) (ct := .no)
    [⟨0, fun a M => dfr a.defers (P_slices_Equal_sl_byte_byte_1 (a.get 0) (a.get 1) (a.get 12) (a.get 13) M Q), fun a M => At Try.prog Ex none Try.f142 [1, 1, 0, 1, 0] a M Q⟩,
    ⟨1, fun a M => kfin Try.prog Try.f142.results.toList Q 1 a M, fun a M => kfin Try.prog Try.f142.results.toList Q 1 a M⟩]
    [] [0, 1] (by kernel_rfl) (by kernel_rfl) (by kernel_rfl) (by kernel_rfl) (by kernel_rfl)
    ⟨fun a M hn h => by obtain ⟨⟨n, f⟩, ds⟩ := a; have hn : n = 26 := hn; subst hn; obtain ⟨hd, h⟩ := dfr_iff h; have hd : ds = [] := hd; subst hd; exact h f rfl rfl rfl rfl,
    fun _ _ _ h => h,
    trivial⟩
    (cast (by kernel_rfl) h)
def S_slices_Equal_sl_byte_byte_3 (M : Store) (Q : Value → Store → Prop) : Prop :=
  NTs [(.bool true)] ∧ Q (.bool true) M
theorem T_slices_Equal_sl_byte_byte_3 {M : Store} {Q : Value → Store → Prop} (h : S_slices_Equal_sl_byte_byte_3 M Q) : P_slices_Equal_sl_byte_byte_3 M Q := by
  intro f 
  unfold At
  exact rule (B := 1000) (N := 26) (ct := .no)
    [⟨1, fun a M => kfin Try.prog Try.f142.results.toList Q 1 a M, fun a M => kfin Try.prog Try.f142.results.toList Q 1 a M⟩]
    [] [1] (by kernel_rfl) (by kernel_rfl) (by kernel_rfl) (by kernel_rfl) (by kernel_rfl)
    ⟨fun _ _ _ h => h,
    trivial⟩
    (cast (by kernel_rfl) h)
def S_fram_sum (x0 : Value) (M : Store) (Q : Value → Store → Prop) : Prop :=
  R F.crcs_Sum #[x0] M fun t5 M1 =>
  OP (binI .shr t5 (.int .u64 24)) fun t7 =>
  OP (cvI .u8 t7) fun t8 =>
  OP (binI .shr t5 (.int .u64 16)) fun t10 =>
  OP (cvI .u8 t10) fun t11 =>
  OP (binI .shr t5 (.int .u64 8)) fun t13 =>
  OP (cvI .u8 t13) fun t14 =>
  OP (cvI .u8 t5) fun t16 =>
  OP (bldL (.int .u8 0) 1 4 [(0, t8), (1, t11), (2, t14), (3, t16)]) fun c =>
  LT (.slice (some ⟨M1.n, 0, none⟩) 4 4) (M1.push (some (.inl (c, Ty.uint8, true)))) fun t17 M2 =>
  NTs [t17] ∧ Q t17 M2
theorem T_fram_sum {x0 : Value} {M : Store} {Q : Value → Store → Prop} (h : S_fram_sum x0 M Q) : R F.fram_sum #[x0] M Q := by
  refine runs_of (c := bodyOf Try.f143) Try.func143 rfl (by kernel_rfl) (by kernel_rfl) ?_
  unfold At
  exact rule (B := 1000) (N := 18) (ct := .no)
    [⟨1, fun a M => kfin Try.prog Try.f143.results.toList Q 1 a M, fun a M => kfin Try.prog Try.f143.results.toList Q 1 a M⟩]
    [] [1] (by kernel_rfl) (by kernel_rfl) (by kernel_rfl) (by kernel_rfl) (by kernel_rfl)
    ⟨fun _ _ _ h => h,
    trivial⟩
    (cast (by kernel_rfl) h)
def P_crcs_Sum_1 (x3 x7 x8 x9 : Value) (M : Store) (Q : Value → Store → Prop) : Prop :=
  ∀ f : Nat → Value, f 3 = x3 → f 7 = x7 → f 8 = x8 → f 9 = x9 → At Try.prog Ex none Try.f146 [1, 1, 0, 1, 0] ⟨⟨31, f⟩, []⟩ M Q
def P_crcs_Sum_2 (x3 x7 x8 x9 x17 : Value) (M : Store) (Q : Value → Store → Prop) : Prop :=
  ∀ f : Nat → Value, f 3 = x3 → f 7 = x7 → f 8 = x8 → f 9 = x9 → f 17 = x17 → At Try.prog Ex none Try.f146 [1, 1, 0, 1, 0, 0, 1, 1, 0, 0, 1, 1, 1, 0] ⟨⟨31, f⟩, []⟩ M Q
def P_crcs_Sum_3 (x3 : Value) (M : Store) (Q : Value → Store → Prop) : Prop :=
  ∀ f : Nat → Value, f 3 = x3 → At Try.prog Ex none Try.f146 [1, 1, 1] ⟨⟨31, f⟩, []⟩ M Q
def P_crcs_Sum_4 (x3 x7 x8 x9 : Value) (M : Store) (Q : Value → Store → Prop) : Prop :=
  ∀ f : Nat → Value, f 3 = x3 → f 7 = x7 → f 8 = x8 → f 9 = x9 → At Try.prog Ex none Try.f146 [1, 1, 0, 1, 0, 0, 1, 1, 1] ⟨⟨31, f⟩, []⟩ M Q
def S_crcs_Sum (x0 : Value) (M : Store) (Q : Value → Store → Prop) : Prop :=
  OP (lenV x0) fun t8 =>
  P_crcs_Sum_1 (.int .u32 4294967295) x0 t8 (.int .i64 0) M Q
theorem T_crcs_Sum {x0 : Value} {M : Store} {Q : Value → Store → Prop} (h : S_crcs_Sum x0 M Q) : R F.crcs_Sum #[x0] M Q := by
  refine runs_of (c := bodyOf Try.f146) Try.func146 rfl (by kernel_rfl) (by kernel_rfl) ?_
  unfold At
  exact rule (B := 1000) (N := 31) (ct := (.two .no (.two .no (.two (.two .no (.two (.here 1000) .no)) (.here 1001)))))
    [⟨1002, fun a M => dfr a.defers (P_crcs_Sum_1 (a.get 3) (a.get 7) (a.get 8) (a.get 9) M Q), fun a M => At Try.prog Ex none Try.f146 [1, 1, 0, 1, 0] a M Q⟩,
    ⟨1003, fun _ _ => False, fun a M => At Try.prog Ex none Try.f146 [1, 1, 1] a M Q⟩]
    [1000, 1001] [] (by kernel_rfl) (by kernel_rfl) (by kernel_rfl) (by kernel_rfl) (by kernel_rfl)
    ⟨fun a M hn h => by obtain ⟨⟨n, f⟩, ds⟩ := a; have hn : n = 31 := hn; subst hn; obtain ⟨hd, h⟩ := dfr_iff h; have hd : ds = [] := hd; subst hd; exact h f rfl rfl rfl rfl,
    fun _ _ _ h => h.elim,
    trivial⟩
    (cast (by kernel_rfl) h)
def S_crcs_Sum_1 (x3 x7 x8 x9 : Value) (M : Store) (Q : Value → Store → Prop) : Prop :=
  OP (binI .lss x9 x8) fun t10 =>
  BR t10 (
  OP (ixA 1 x7 x9) fun t11 =>
  OP (ld 1 false t11 M) fun t12 =>
  OP (cvI .u32 t12) fun t15 =>
  OP (binI .xor x3 t15) fun t16 =>
  P_crcs_Sum_2 t16 x7 x8 x9 (.int .i64 0) M Q
  ) (
  P_crcs_Sum_3 x3 M Q
  )
theorem T_crcs_Sum_1 {x3 x7 x8 x9 : Value} {M : Store} {Q : Value → Store → Prop} (h : S_crcs_Sum_1 x3 x7 x8 x9 M Q) : P_crcs_Sum_1 x3 x7 x8 x9 M Q := by
  intro f h3 h7 h8 h9; subst h3; subst h7; subst h8; subst h9
  unfold At
  refine cast (by kernel_rfl) (CW.loop (P := Try.prog) (E := Ex) (rd := none) (x := sub (bodyOf Try.f146) [1, 1, 0, 1, 0, 0]) (a := ⟨⟨31, f⟩, []⟩) (M := M) (K := kcont Try.prog Ex none (bodyOf Try.f146) [1, 1, 0, 1, 0] (kfin Try.prog Try.f146.results.toList Q)) ?_)
  exact rule (B := 1000) (N := 31) (ct := (.two .no (.two .no (.two (.two (.two .no (.two .no (.two .no (.two (.here 1000) .no)))) .no) (.here 1001)))))
    [⟨1002, fun a M => dfr a.defers (P_crcs_Sum_2 (a.get 3) (a.get 7) (a.get 8) (a.get 9) (a.get 17) M Q), fun a M => At Try.prog Ex none Try.f146 [1, 1, 0, 1, 0, 0, 1, 1, 0, 0, 1, 1, 1, 0] a M Q⟩,
    ⟨1003, fun _ _ => False, fun a M => At Try.prog Ex none Try.f146 [1, 1, 0, 1, 0, 0, 1, 1, 1] a M Q⟩,
    ⟨2, fun a M => dfr a.defers (P_crcs_Sum_3 (a.get 3) M Q), fun a M => At Try.prog Ex none Try.f146 [1, 1, 1] a M Q⟩]
    [1000, 1001] [2] (by kernel_rfl) (by kernel_rfl) (by kernel_rfl) (by kernel_rfl) (by kernel_rfl)
    ⟨fun a M hn h => by obtain ⟨⟨n, f⟩, ds⟩ := a; have hn : n = 31 := hn; subst hn; obtain ⟨hd, h⟩ := dfr_iff h; have hd : ds = [] := hd; subst hd; exact h f rfl rfl rfl rfl rfl,
    fun _ _ _ h => h.elim,
    fun a M hn h => by obtain ⟨⟨n, f⟩, ds⟩ := a; have hn : n = 31 := hn; subst hn; obtain ⟨hd, h⟩ := dfr_iff h; have hd : ds = [] := hd; subst hd; exact h f rfl,
    trivial⟩
    (cast (by kernel_rfl) h)
def S_crcs_Sum_2 (x3 x7 x8 x9 x17 : Value) (M : Store) (Q : Value → Store → Prop) : Prop :=
  OP (binI .lss x17 (.int .i64 8)) fun t18 =>
  BR t18 (
  OP (binI .and x3 (.int .u32 1)) fun t20 =>
  OP (binI .shr x3 (.int .u64 1)) fun t22 =>
  OP (binI .eql t20 (.int .u32 1)) fun t24 =>
  BR t24 (
  OP (binI .xor t22 (.int .u32 3988292384)) fun t26 =>
  OP (binI .add x17 (.int .i64 1)) fun t27 =>
  P_crcs_Sum_2 t26 x7 x8 x9 t27 M Q
  ) (
  OP (binI .add x17 (.int .i64 1)) fun t27_1 =>
  P_crcs_Sum_2 t22 x7 x8 x9 t27_1 M Q
  )
  ) (
  P_crcs_Sum_4 x3 x7 x8 x9 M Q
  )
theorem T_crcs_Sum_2 {x3 x7 x8 x9 x17 : Value} {M : Store} {Q : Value → Store → Prop} (h : S_crcs_Sum_2 x3 x7 x8 x9 x17 M Q) : P_crcs_Sum_2 x3 x7 x8 x9 x17 M Q := by
  intro f h3 h7 h8 h9 h17; subst h3; subst h7; subst h8; subst h9; subst h17
  unfold At
  refine cast (by kernel_rfl) (CW.loop (P := Try.prog) (E := Ex) (rd := none) (x := sub (bodyOf Try.f146) [1, 1, 0, 1, 0, 0, 1, 1, 0, 0, 1, 1, 1, 0, 0]) (a := ⟨⟨31, f⟩, []⟩) (M := M) (K := kcont Try.prog Ex none (bodyOf Try.f146) [1, 1, 0, 1, 0, 0, 1, 1, 0, 0, 1, 1, 1, 0] (kfin Try.prog Try.f146.results.toList Q)) ?_)
  exact rule (B := 1000) (N := 31) (ct := .no)
    [⟨0, fun a M => dfr a.defers (P_crcs_Sum_2 (a.get 3) (a.get 7) (a.get 8) (a.get 9) (a.get 17) M Q), fun a M => At Try.prog Ex none Try.f146 [1, 1, 0, 1, 0, 0, 1, 1, 0, 0, 1, 1, 1, 0] a M Q⟩,
    ⟨4, fun a M => dfr a.defers (P_crcs_Sum_4 (a.get 3) (a.get 7) (a.get 8) (a.get 9) M Q), fun a M => At Try.prog Ex none Try.f146 [1, 1, 0, 1, 0, 0, 1, 1, 1] a M Q⟩]
    [] [0, 4] (by kernel_rfl) (by kernel_rfl) (by kernel_rfl) (by kernel_rfl) (by kernel_rfl)
    ⟨fun a M hn h => by obtain ⟨⟨n, f⟩, ds⟩ := a; have hn : n = 31 := hn; subst hn; obtain ⟨hd, h⟩ := dfr_iff h; have hd : ds = [] := hd; subst hd; exact h f rfl rfl rfl rfl rfl,
    fun a M hn h => by obtain ⟨⟨n, f⟩, ds⟩ := a; have hn : n = 31 := hn; subst hn; obtain ⟨hd, h⟩ := dfr_iff h; have hd : ds = [] := hd; subst hd; exact h f rfl rfl rfl rfl,
    trivial⟩
    (cast (by kernel_rfl) h)
def S_crcs_Sum_3 (x3 : Value) (M : Store) (Q : Value → Store → Prop) : Prop :=
  OP (binI .xor x3 (.int .u32 4294967295)) fun t30 =>
  NTs [t30] ∧ Q t30 M
theorem T_crcs_Sum_3 {x3 : Value} {M : Store} {Q : Value → Store → Prop} (h : S_crcs_Sum_3 x3 M Q) : P_crcs_Sum_3 x3 M Q := by
  intro f h3; subst h3
  unfold At
  exact rule (B := 1000) (N := 31) (ct := .no)
    [⟨1, fun a M => kfin Try.prog Try.f146.results.toList Q 1 a M, fun a M => kfin Try.prog Try.f146.results.toList Q 1 a M⟩]
    [] [1] (by kernel_rfl) (by kernel_rfl) (by kernel_rfl) (by kernel_rfl) (by kernel_rfl)
    ⟨fun _ _ _ h => h,
    trivial⟩
    (cast (by kernel_rfl) h)
def S_crcs_Sum_4 (x3 x7 x8 x9 : Value) (M : Store) (Q : Value → Store → Prop) : Prop :=
  OP (binI .add x9 (.int .i64 1)) fun t28 =>
  P_crcs_Sum_1 x3 x7 x8 t28 M Q
theorem T_crcs_Sum_4 {x3 x7 x8 x9 : Value} {M : Store} {Q : Value → Store → Prop} (h : S_crcs_Sum_4 x3 x7 x8 x9 M Q) : P_crcs_Sum_4 x3 x7 x8 x9 M Q := by
  intro f h3 h7 h8 h9; subst h3; subst h7; subst h8; subst h9
  unfold At
  exact rule (B := 1000) (N := 31) (ct := .no)
    [⟨0, fun a M => dfr a.defers (P_crcs_Sum_1 (a.get 3) (a.get 7) (a.get 8) (a.get 9) M Q), fun a M => At Try.prog Ex none Try.f146 [1, 1, 0, 1, 0] a M Q⟩]
    [] [0] (by kernel_rfl) (by kernel_rfl) (by kernel_rfl) (by kernel_rfl) (by kernel_rfl)
    ⟨fun a M hn h => by obtain ⟨⟨n, f⟩, ds⟩ := a; have hn : n = 31 := hn; subst hn; obtain ⟨hd, h⟩ := dfr_iff h; have hd : ds = [] := hd; subst hd; exact h f rfl rfl rfl rfl,
    trivial⟩
    (cast (by kernel_rfl) h)
end Go.G
