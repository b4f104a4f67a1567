/-  -/
import Derived.Test.YtjchjhkhopcalaaDoorPGN
open Go.RowKit
namespace Go.G
open Go.Ab Go.Proofs
set_option linter.unusedVariables false
set_option maxRecDepth 100000
def P_code_Num_1 (x1 x5 x6 : Value) (M : Store) (Q : Value → Store → Prop) : Prop :=
  ∀ f : Nat → Value, f 1 = x1 → f 5 = x5 → f 6 = x6 → At Tryd.prog Ex none Tryd.f26 [1, 1, 1, 0, 1, 0] ⟨⟨26, f⟩, []⟩ M Q
def P_code_Num_2 (x5 : Value) (M : Store) (Q : Value → Store → Prop) : Prop :=
  ∀ f : Nat → Value, f 5 = x5 → At Tryd.prog Ex none Tryd.f26 [1, 1, 1, 1] ⟨⟨26, f⟩, []⟩ M Q
def S_code_Num (x0 x1 : Value) (M : Store) (Q : Value → Store → Prop) : Prop :=
  OP (amax2 x1 (.int .i64 0)) fun t8 =>
  OP (amin2 t8 (.int .i64 1099511627776)) fun t9 =>
  R F.slices_Clone_sl_byte_byte #[x0] M fun t11 M1 =>
  R F.slices_Clip_sl_byte_byte #[t11] M1 fun t12 M2 =>
  P_code_Num_1 t9 t12 (.int .i64 5) M2 Q
theorem T_code_Num {x0 x1 : Value} {M : Store} {Q : Value → Store → Prop} (h : S_code_Num x0 x1 M Q) : R F.code_Num #[x0, x1] M Q := by
  refine runs_of (c := bodyOf Tryd.f26) Tryd.func26 rfl (by kernel_rfl) (by kernel_rfl) ?_
  unfold At
  exact rule (B := 1000) (N := 26) (ct := (.two .no (.two .no (.two .no (.two (.two .no (.two (.here 1000) .no)) (.here 1001))))))
    [⟨1002, fun a M => dfr a.defers (P_code_Num_1 (a.get 1) (a.get 5) (a.get 6) M Q), fun a M => At Tryd.prog Ex none Tryd.f26 [1, 1, 1, 0, 1, 0] a M Q⟩,
    ⟨1003, fun _ _ => False, fun a M => At Tryd.prog Ex none Tryd.f26 [1, 1, 1, 1] a M Q⟩]
    [1000, 1001] [] (by kernel_rfl) (by kernel_rfl) (by kernel_rfl) (by kernel_rfl) (by kernel_rfl)
    ⟨fun a M hn h => by obtain ⟨⟨n, f⟩, ds⟩ := a; have hn : n = 26 := hn; subst hn; obtain ⟨hd, h⟩ := dfr_iff h; have hd : ds = [] := hd; subst hd; exact h f rfl rfl rfl,
    fun _ _ _ h => h.elim,
    trivial⟩
    (cast (by kernel_rfl) h)
def S_code_Num_1 (x1 x5 x6 : Value) (M : Store) (Q : Value → Store → Prop) : Prop :=
  OP (binI .geq x6 (.int .i64 0)) fun t14 =>
  BR t14 (
  OP (binI .mul (.int .i64 8) x6) fun t20 =>
  OP (binI .shr x1 t20) fun t21 =>
  OP (cvI .u8 t21) fun t22 =>
  OP (bldL (.int .u8 0) 1 1 [(0, t22)]) fun c =>
  LT (.slice (some ⟨M.n, 0, none⟩) 1 1) (M.push (some (.inl (c, Ty.uint8, true)))) fun t23 M1 =>
  OP2 (appV 1 Ty.uint8 x5 t23 M1) fun t24 M2 =>
  OP (binI .sub x6 (.int .i64 1)) fun t16 =>
  P_code_Num_1 x1 t24 t16 M2 Q
  ) (
  P_code_Num_2 x5 M Q
  )
theorem T_code_Num_1 {x1 x5 x6 : Value} {M : Store} {Q : Value → Store → Prop} (h : S_code_Num_1 x1 x5 x6 M Q) : P_code_Num_1 x1 x5 x6 M Q := by
  intro f h1 h5 h6; subst h1; subst h5; subst h6
  unfold At
  refine cast (by kernel_rfl) (CW.loop (P := Tryd.prog) (E := Ex) (rd := none) (x := sub (bodyOf Tryd.f26) [1, 1, 1, 0, 1, 0, 0]) (a := ⟨⟨26, f⟩, []⟩) (M := M) (K := kcont Tryd.prog Ex none (bodyOf Tryd.f26) [1, 1, 1, 0, 1, 0] (kfin Tryd.prog Tryd.f26.results.toList Q)) ?_)
  exact rule (B := 1000) (N := 26) (ct := .no)
    [⟨0, fun a M => dfr a.defers (P_code_Num_1 (a.get 1) (a.get 5) (a.get 6) M Q), fun a M => At Tryd.prog Ex none Tryd.f26 [1, 1, 1, 0, 1, 0] a M Q⟩,
    ⟨2, fun a M => dfr a.defers (P_code_Num_2 (a.get 5) M Q), fun a M => At Tryd.prog Ex none Tryd.f26 [1, 1, 1, 1] a M Q⟩]
    [] [0, 2] (by kernel_rfl) (by kernel_rfl) (by kernel_rfl) (by kernel_rfl) (by kernel_rfl)
    ⟨fun a M hn h => by obtain ⟨⟨n, f⟩, ds⟩ := a; have hn : n = 26 := hn; subst hn; obtain ⟨hd, h⟩ := dfr_iff h; have hd : ds = [] := hd; subst hd; exact h f rfl rfl rfl,
    fun a M hn h => by obtain ⟨⟨n, f⟩, ds⟩ := a; have hn : n = 26 := hn; subst hn; obtain ⟨hd, h⟩ := dfr_iff h; have hd : ds = [] := hd; subst hd; exact h f rfl,
    trivial⟩
    (cast (by kernel_rfl) h)
def S_code_Num_2 (x5 : Value) (M : Store) (Q : Value → Store → Prop) : Prop :=
  NTs [x5] ∧ Q x5 M
theorem T_code_Num_2 {x5 : Value} {M : Store} {Q : Value → Store → Prop} (h : S_code_Num_2 x5 M Q) : P_code_Num_2 x5 M Q := by
  intro f h5; subst h5
  unfold At
  exact rule (B := 1000) (N := 26) (ct := .no)
    [⟨1, fun a M => kfin Tryd.prog Tryd.f26.results.toList Q 1 a M, fun a M => kfin Tryd.prog Tryd.f26.results.toList Q 1 a M⟩]
    [] [1] (by kernel_rfl) (by kernel_rfl) (by kernel_rfl) (by kernel_rfl) (by kernel_rfl)
    ⟨fun _ _ _ h => h,
    trivial⟩
    (cast (by kernel_rfl) h)
def S_code_Bytes (x0 x1 : Value) (M : Store) (Q : Value → Store → Prop) : Prop :=
  OP (lenV x1) fun t7 =>
  R F.code_Num #[x0, t7] M fun t8 M1 =>
  OP2 (appV 1 Ty.uint8 t8 x1 M1) fun t10 M2 =>
  NTs [t10] ∧ Q t10 M2
theorem T_code_Bytes {x0 x1 : Value} {M : Store} {Q : Value → Store → Prop} (h : S_code_Bytes x0 x1 M Q) : R F.code_Bytes #[x0, x1] M Q := by
  refine runs_of (c := bodyOf Tryd.f27) Tryd.func27 rfl (by kernel_rfl) (by kernel_rfl) ?_
  unfold At
  exact rule (B := 1000) (N := 11) (ct := .no)
    [⟨1, fun a M => kfin Tryd.prog Tryd.f27.results.toList Q 1 a M, fun a M => kfin Tryd.prog Tryd.f27.results.toList Q 1 a M⟩]
    [] [1] (by kernel_rfl) (by kernel_rfl) (by kernel_rfl) (by kernel_rfl) (by kernel_rfl)
    ⟨fun _ _ _ h => h,
    trivial⟩
    (cast (by kernel_rfl) h)
def S_slices_Clip_sl_byte_byte (x0 : Value) (M : Store) (Q : Value → Store → Prop) : Prop :=
  OP (lenV x0) fun t5 =>
  OP (lenV x0) fun t7 =>
  OP (slM 1 Ty.uint8 x0 none t5 t7 M) fun t8 =>
  NTs [t8] ∧ Q t8 M
theorem T_slices_Clip_sl_byte_byte {x0 : Value} {M : Store} {Q : Value → Store → Prop} (h : S_slices_Clip_sl_byte_byte x0 M Q) : R F.slices_Clip_sl_byte_byte #[x0] M Q := by
  refine runs_of (c := bodyOf Tryd.f29) Tryd.func29 rfl (by kernel_rfl) (by kernel_rfl) ?_
  unfold At
  exact rule (B := 1000) (N := 9) (ct := .no)
    [⟨1, fun a M => kfin Tryd.prog Tryd.f29.results.toList Q 1 a M, fun a M => kfin Tryd.prog Tryd.f29.results.toList Q 1 a M⟩]
    [] [1] (by kernel_rfl) (by kernel_rfl) (by kernel_rfl) (by kernel_rfl) (by kernel_rfl)
    ⟨fun _ _ _ h => h,
    trivial⟩
    (cast (by kernel_rfl) h)
def S_slices_Clone_sl_byte_byte (x0 : Value) (M : Store) (Q : Value → Store → Prop) : Prop :=
  OP (abin Tryd.prog true .eql Ty.sl_uint8 x0 (.slice none 0 0)) fun t4 =>
  BR t4 (
  NTs [(.slice none 0 0)] ∧ Q (.slice none 0 0) M
  ) (
  OP (bldL (.int .u8 0) 1 0 []) fun c =>
  LT (.slice (some ⟨M.n, 0, none⟩) 0 0) (M.push (some (.inl (c, Ty.uint8, true)))) fun t5 M1 =>
  OP2 (appV 1 Ty.uint8 t5 x0 M1) fun t7 M2 =>
  NTs [t7] ∧ Q t7 M2
  )
theorem T_slices_Clone_sl_byte_byte {x0 : Value} {M : Store} {Q : Value → Store → Prop} (h : S_slices_Clone_sl_byte_byte x0 M Q) : R F.slices_Clone_sl_byte_byte #[x0] M Q := by
  refine runs_of (c := bodyOf Tryd.f30) Tryd.func30 rfl (by kernel_rfl) (by kernel_rfl) ?_
  unfold At
  exact rule (B := 1000) (N := 8) (ct := .no)
    [⟨1, fun a M => kfin Tryd.prog Tryd.f30.results.toList Q 1 a M, fun a M => kfin Tryd.prog Tryd.f30.results.toList Q 1 a M⟩]
    [] [1] (by kernel_rfl) (by kernel_rfl) (by kernel_rfl) (by kernel_rfl) (by kernel_rfl)
    ⟨fun _ _ _ h => h,
    trivial⟩
    (cast (by kernel_rfl) h)
end Go.G
