/-  -/
import Derived.Test.YtpacolplhcfamaaPGN
open Go.RowKit
namespace Go.G
open Go.Ab Go.Proofs
set_option linter.unusedVariables false
set_option maxRecDepth 100000
def P_acts_Run_1 (x1 x6 x14 x15 x16 : Value) (M : Store) (Q : Value → Store → Prop) : Prop :=
  ∀ f : Nat → Value, f 1 = x1 → f 6 = x6 → f 14 = x14 → f 15 = x15 → f 16 = x16 → At Try.prog Ex none Try.f69 [1, 1, 1, 0, 1, 0] ⟨⟨39, f⟩, []⟩ M Q
def P_acts_Run_2 (x1 x6 x14 x15 x16 : Value) (M : Store) (Q : Value → Store → Prop) : Prop :=
  ∀ f : Nat → Value, f 1 = x1 → f 6 = x6 → f 14 = x14 → f 15 = x15 → f 16 = x16 → At Try.prog Ex none Try.f69 [1, 1, 1, 0, 1, 0, 0, 1, 1] ⟨⟨39, f⟩, []⟩ M Q
def P_acts_Run_3 (x6 : Value) (M : Store) (Q : Value → Store → Prop) : Prop :=
  ∀ f : Nat → Value, f 6 = x6 → At Try.prog Ex none Try.f69 [1, 1, 1, 1] ⟨⟨39, f⟩, []⟩ M Q
def S_acts_Run (x0 x1 : Value) (M : Store) (Q : Value → Store → Prop) : Prop :=
  R F.acts_Ok #[x0] M fun t12 M1 =>
  OP (aun .not t12) fun t13 =>
  BR t13 (
  NTs [(.slice none 0 0), (.bool false)] ∧ Q (.tuple #[(.slice none 0 0), (.bool false)]) M1
  ) (
  OP (lenV x0) fun t15 =>
  P_acts_Run_1 x1 (.slice none 0 0) x0 t15 (.int .i64 0) M1 Q
  )
theorem T_acts_Run {x0 x1 : Value} {M : Store} {Q : Value → Store → Prop} (h : S_acts_Run x0 x1 M Q) : R F.acts_Run #[x0, x1] M Q := by
  refine runs_of (c := bodyOf Try.f69) Try.func69 rfl (by kernel_rfl) (by kernel_rfl) ?_
  unfold At
  exact rule (B := 1000) (N := 39) (ct := (.two .no (.two .no (.two .no (.two (.two .no (.two (.here 1000) .no)) (.here 1001))))))
    [⟨1002, fun a M => dfr a.defers (P_acts_Run_1 (a.get 1) (a.get 6) (a.get 14) (a.get 15) (a.get 16) M Q), fun a M => At Try.prog Ex none Try.f69 [1, 1, 1, 0, 1, 0] a M Q⟩,
    ⟨1003, fun _ _ => False, fun a M => At Try.prog Ex none Try.f69 [1, 1, 1, 1] a M Q⟩,
    ⟨1, fun a M => kfin Try.prog Try.f69.results.toList Q 1 a M, fun a M => kfin Try.prog Try.f69.results.toList Q 1 a M⟩]
    [1000, 1001] [1] (by kernel_rfl) (by kernel_rfl) (by kernel_rfl) (by kernel_rfl) (by kernel_rfl)
    ⟨fun a M hn h => by obtain ⟨⟨n, f⟩, ds⟩ := a; have hn : n = 39 := hn; subst hn; obtain ⟨hd, h⟩ := dfr_iff h; have hd : ds = [] := hd; subst hd; exact h f rfl rfl rfl rfl rfl,
    fun _ _ _ h => h.elim,
    fun _ _ _ h => h,
    trivial⟩
    (cast (by kernel_rfl) h)
def S_acts_Run_1 (x1 x6 x14 x15 x16 : Value) (M : Store) (Q : Value → Store → Prop) : Prop :=
  OP (binI .lss x16 x15) fun t17 =>
  BR t17 (
  P_acts_Run_2 x1 x6 x14 x15 x16 M Q
  ) (
  P_acts_Run_3 x6 M Q
  )
theorem T_acts_Run_1 {x1 x6 x14 x15 x16 : Value} {M : Store} {Q : Value → Store → Prop} (h : S_acts_Run_1 x1 x6 x14 x15 x16 M Q) : P_acts_Run_1 x1 x6 x14 x15 x16 M Q := by
  intro f h1 h6 h14 h15 h16; subst h1; subst h6; subst h14; subst h15; subst h16
  unfold At
  refine cast (by kernel_rfl) (CW.loop (P := Try.prog) (E := Ex) (rd := none) (x := sub (bodyOf Try.f69) [1, 1, 1, 0, 1, 0, 0]) (a := ⟨⟨39, f⟩, []⟩) (M := M) (K := kcont Try.prog Ex none (bodyOf Try.f69) [1, 1, 1, 0, 1, 0] (kfin Try.prog Try.f69.results.toList Q)) ?_)
  exact rule (B := 1000) (N := 39) (ct := (.two .no (.two .no (.here 1000))))
    [⟨1002, fun a M => dfr a.defers (P_acts_Run_2 (a.get 1) (a.get 6) (a.get 14) (a.get 15) (a.get 16) M Q), fun a M => At Try.prog Ex none Try.f69 [1, 1, 1, 0, 1, 0, 0, 1, 1] a M Q⟩,
    ⟨2, fun a M => dfr a.defers (P_acts_Run_3 (a.get 6) M Q), fun a M => At Try.prog Ex none Try.f69 [1, 1, 1, 1] a M Q⟩]
    [1000] [2] (by kernel_rfl) (by kernel_rfl) (by kernel_rfl) (by kernel_rfl) (by kernel_rfl)
    ⟨fun a M hn h => by obtain ⟨⟨n, f⟩, ds⟩ := a; have hn : n = 39 := hn; subst hn; obtain ⟨hd, h⟩ := dfr_iff h; have hd : ds = [] := hd; subst hd; exact h f rfl rfl rfl rfl rfl,
    fun a M hn h => by obtain ⟨⟨n, f⟩, ds⟩ := a; have hn : n = 39 := hn; subst hn; obtain ⟨hd, h⟩ := dfr_iff h; have hd : ds = [] := hd; subst hd; exact h f rfl,
    trivial⟩
    (cast (by kernel_rfl) h)
def S_acts_Run_2 (x1 x6 x14 x15 x16 : Value) (M : Store) (Q : Value → Store → Prop) : Prop :=
  OP (ixA 3 x14 x16) fun t18 =>
  OP (ld 3 true t18 M) fun t19 =>
  LT (.pointer (some ⟨M.n, 0, none⟩)) (M.push (some (.inl ([(.int .i64 0), (.int .i64 0), (.string ⟨#[]⟩)], Ty.api_Do, true)))) fun t8 M1 =>
  OP (st 3 t8 t19 M1) fun M2 =>
  OP (ld 3 true t8 M2) fun t21 =>
  R F.acts_step #[t21, x1, x6] M2 fun t24 M3 =>
  OP (tup t24 0) fun t25 =>
  OP (tup t24 1) fun t26 =>
  OP (aun .not t26) fun t28 =>
  BR t28 (
  NTs [(.slice none 0 0), (.bool false)] ∧ Q (.tuple #[(.slice none 0 0), (.bool false)]) M3
  ) (
  OP (lenV t25) fun t31 =>
  OP (binI .gtr t31 (.int .i64 256)) fun t32 =>
  BR t32 (
  NTs [(.slice none 0 0), (.bool false)] ∧ Q (.tuple #[(.slice none 0 0), (.bool false)]) M3
  ) (
  OP (binI .add x16 (.int .i64 1)) fun t35 =>
  P_acts_Run_1 x1 t25 x14 x15 t35 M3 Q
  )
  )
theorem T_acts_Run_2 {x1 x6 x14 x15 x16 : Value} {M : Store} {Q : Value → Store → Prop} (h : S_acts_Run_2 x1 x6 x14 x15 x16 M Q) : P_acts_Run_2 x1 x6 x14 x15 x16 M Q := by
  intro f h1 h6 h14 h15 h16; subst h1; subst h6; subst h14; subst h15; subst h16
  unfold At
  exact rule (B := 1000) (N := 39) (ct := .no)
    [⟨0, fun a M => dfr a.defers (P_acts_Run_1 (a.get 1) (a.get 6) (a.get 14) (a.get 15) (a.get 16) M Q), fun a M => At Try.prog Ex none Try.f69 [1, 1, 1, 0, 1, 0] a M Q⟩,
    ⟨1, fun a M => kfin Try.prog Try.f69.results.toList Q 1 a M, fun a M => kfin Try.prog Try.f69.results.toList Q 1 a M⟩]
    [] [0, 1] (by kernel_rfl) (by kernel_rfl) (by kernel_rfl) (by kernel_rfl) (by kernel_rfl)
    ⟨fun a M hn h => by obtain ⟨⟨n, f⟩, ds⟩ := a; have hn : n = 39 := hn; subst hn; obtain ⟨hd, h⟩ := dfr_iff h; have hd : ds = [] := hd; subst hd; exact h f rfl rfl rfl rfl rfl,
    fun _ _ _ h => h,
    trivial⟩
    (cast (by kernel_rfl) h)
def S_acts_Run_3 (x6 : Value) (M : Store) (Q : Value → Store → Prop) : Prop :=
  R F.slices_Clone_sl_byte_byte #[x6] M fun t37 M1 =>
  R F.slices_Clip_sl_byte_byte #[t37] M1 fun t38 M2 =>
  NTs [t38, (.bool true)] ∧ Q (.tuple #[t38, (.bool true)]) M2
theorem T_acts_Run_3 {x6 : Value} {M : Store} {Q : Value → Store → Prop} (h : S_acts_Run_3 x6 M Q) : P_acts_Run_3 x6 M Q := by
  intro f h6; subst h6
  unfold At
  exact rule (B := 1000) (N := 39) (ct := .no)
    [⟨1, fun a M => kfin Try.prog Try.f69.results.toList Q 1 a M, fun a M => kfin Try.prog Try.f69.results.toList Q 1 a M⟩]
    [] [1] (by kernel_rfl) (by kernel_rfl) (by kernel_rfl) (by kernel_rfl) (by kernel_rfl)
    ⟨fun _ _ _ h => h,
    trivial⟩
    (cast (by kernel_rfl) h)
def S_acts_step (x0 x1 x2 : Value) (M : Store) (Q : Value → Store → Prop) : Prop :=
  OP (boxv x0) fun c =>
  LT (.pointer (some ⟨M.n, 0, none⟩)) (M.push (some (.inl (c, Ty.api_Do, true)))) fun t3 M1 =>
  OP (fad 0 t3) fun t9 =>
  OP (ld 1 false t9 M1) fun t10 =>
  OP (binI .eql t10 (.int .i64 1)) fun t12 =>
  BR t12 (
  OP (fad 2 t3) fun t13 =>
  OP (ld 1 false t13 M1) fun t14 =>
  OP2 (cvSB Ty.uint8 t14 M1) fun t15 M2 =>
  NTs [t15, (.bool true)] ∧ Q (.tuple #[t15, (.bool true)]) M2
  ) (
  OP (binI .eql t10 (.int .i64 2)) fun t17 =>
  BR t17 (
  OP (fad 1 t3) fun t18 =>
  OP (ld 1 false t18 M1) fun t19 =>
  OP (lenV x1) fun t21 =>
  OP (binI .geq t19 t21) fun t22 =>
  BR t22 (
  NTs [(.slice none 0 0), (.bool false)] ∧ Q (.tuple #[(.slice none 0 0), (.bool false)]) M1
  ) (
  OP (fad 1 t3) fun t24 =>
  OP (ld 1 false t24 M1) fun t25 =>
  OP (ixA 1 x1 t25) fun t26 =>
  OP (ld 1 false t26 M1) fun t27 =>
  R F.slices_Clone_sl_byte_byte #[t27] M1 fun t28 M3 =>
  NTs [t28, (.bool true)] ∧ Q (.tuple #[t28, (.bool true)]) M3
  )
  ) (
  OP (binI .eql t10 (.int .i64 3)) fun t30 =>
  BR t30 (
  R F.bytes_Join #[x1, (.slice none 0 0)] M1 fun t32 M4 =>
  NTs [t32, (.bool true)] ∧ Q (.tuple #[t32, (.bool true)]) M4
  ) (
  OP (binI .eql t10 (.int .i64 4)) fun t34 =>
  BR t34 (
  R F.acts_turned #[x2, (.int .u8 97), (.int .u8 122), (.int .i64 (-32))] M1 fun t36 M5 =>
  NTs [t36, (.bool true)] ∧ Q (.tuple #[t36, (.bool true)]) M5
  ) (
  OP (binI .eql t10 (.int .i64 5)) fun t38 =>
  BR t38 (
  R F.acts_turned #[x2, (.int .u8 65), (.int .u8 90), (.int .i64 32)] M1 fun t40 M6 =>
  NTs [t40, (.bool true)] ∧ Q (.tuple #[t40, (.bool true)]) M6
  ) (
  OP (binI .eql t10 (.int .i64 6)) fun t42 =>
  BR t42 (
  R F.slices_Clone_sl_byte_byte #[x2] M1 fun t44 M7 =>
  R F.slices_Reverse_sl_byte_byte #[t44] M7 fun t46 M8 =>
  NTs [t44, (.bool true)] ∧ Q (.tuple #[t44, (.bool true)]) M8
  ) (
  OP (binI .eql t10 (.int .i64 7)) fun t49 =>
  BR t49 (
  OP (fad 1 t3) fun t51 =>
  OP (ld 1 false t51 M1) fun t52 =>
  OP (lenV x2) fun t54 =>
  OP (amin2 t52 t54) fun t55 =>
  OP (slV 1 Ty.uint8 x2 none (some t55) M1) fun t56 =>
  NTs [t56, (.bool true)] ∧ Q (.tuple #[t56, (.bool true)]) M1
  ) (
  OP (binI .eql t10 (.int .i64 8)) fun t58 =>
  BR t58 (
  OP (fad 1 t3) fun t60 =>
  OP (ld 1 false t60 M1) fun t61 =>
  OP (lenV x2) fun t63 =>
  OP (amin2 t61 t63) fun t64 =>
  OP (slV 1 Ty.uint8 x2 (some t64) none M1) fun t65 =>
  NTs [t65, (.bool true)] ∧ Q (.tuple #[t65, (.bool true)]) M1
  ) (
  OP (binI .eql t10 (.int .i64 9)) fun t67 =>
  BR t67 (
  OP (bldL (.slice none 0 0) 1 2 [(0, x2), (1, x2)]) fun c_1 =>
  LT (.slice (some ⟨M1.n, 0, none⟩) 2 2) (M1.push (some (.inl (c_1, Ty.sl_uint8, true)))) fun t70 M9 =>
  R F.slices_Concat_sl_byte_byte #[t70] M9 fun t71 M10 =>
  NTs [t71, (.bool true)] ∧ Q (.tuple #[t71, (.bool true)]) M10
  ) (
  OP (binI .eql t10 (.int .i64 10)) fun t73 =>
  BR t73 (
  OP (fad 2 t3) fun t75 =>
  OP (ld 1 false t75 M1) fun t76 =>
  R F.acts_joined #[x2, t76] M1 fun t77 M11 =>
  NTs [t77, (.bool true)] ∧ Q (.tuple #[t77, (.bool true)]) M11
  ) (
  NTs [(.slice none 0 0), (.bool false)] ∧ Q (.tuple #[(.slice none 0 0), (.bool false)]) M1
  )
  )
  )
  )
  )
  )
  )
  )
  )
  )
theorem T_acts_step {x0 x1 x2 : Value} {M : Store} {Q : Value → Store → Prop} (h : S_acts_step x0 x1 x2 M Q) : R F.acts_step #[x0, x1, x2] M Q := by
  refine runs_of (c := bodyOf Try.f106) Try.func106 rfl (by kernel_rfl) (by kernel_rfl) ?_
  unfold At
  exact rule (B := 1000) (N := 78) (ct := .no)
    [⟨1, fun a M => kfin Try.prog Try.f106.results.toList Q 1 a M, fun a M => kfin Try.prog Try.f106.results.toList Q 1 a M⟩]
    [] [1] (by kernel_rfl) (by kernel_rfl) (by kernel_rfl) (by kernel_rfl) (by kernel_rfl)
    ⟨fun _ _ _ h => h,
    trivial⟩
    (cast (by kernel_rfl) h)
def P_acts_turned_1 (x1 x2 x3 x9 x14 x15 x16 : Value) (M : Store) (Q : Value → Store → Prop) : Prop :=
  ∀ f : Nat → Value, f 1 = x1 → f 2 = x2 → f 3 = x3 → f 9 = x9 → f 14 = x14 → f 15 = x15 → f 16 = x16 → At Try.prog Ex none Try.f119 [1, 1, 0, 1, 0] ⟨⟨39, f⟩, []⟩ M Q
def P_acts_turned_2 (x1 x2 x3 x9 x14 x15 x16 : Value) (M : Store) (Q : Value → Store → Prop) : Prop :=
  ∀ f : Nat → Value, f 1 = x1 → f 2 = x2 → f 3 = x3 → f 9 = x9 → f 14 = x14 → f 15 = x15 → f 16 = x16 → At Try.prog Ex none Try.f119 [1, 1, 0, 1, 0, 0, 1, 1] ⟨⟨39, f⟩, []⟩ M Q
def P_acts_turned_3 (x9 : Value) (M : Store) (Q : Value → Store → Prop) : Prop :=
  ∀ f : Nat → Value, f 9 = x9 → At Try.prog Ex none Try.f119 [1, 1, 1] ⟨⟨39, f⟩, []⟩ M Q
def S_acts_turned (x0 x1 x2 x3 : Value) (M : Store) (Q : Value → Store → Prop) : Prop :=
  R F.slices_Clone_sl_byte_byte #[x0] M fun t13 M1 =>
  OP (lenV t13) fun t15 =>
  P_acts_turned_1 x1 x2 x3 t13 t13 t15 (.int .i64 0) M1 Q
theorem T_acts_turned {x0 x1 x2 x3 : Value} {M : Store} {Q : Value → Store → Prop} (h : S_acts_turned x0 x1 x2 x3 M Q) : R F.acts_turned #[x0, x1, x2, x3] M Q := by
  refine runs_of (c := bodyOf Try.f119) Try.func119 rfl (by kernel_rfl) (by kernel_rfl) ?_
  unfold At
  exact rule (B := 1000) (N := 39) (ct := (.two .no (.two .no (.two (.two .no (.two (.here 1000) .no)) (.here 1001)))))
    [⟨1002, fun a M => dfr a.defers (P_acts_turned_1 (a.get 1) (a.get 2) (a.get 3) (a.get 9) (a.get 14) (a.get 15) (a.get 16) M Q), fun a M => At Try.prog Ex none Try.f119 [1, 1, 0, 1, 0] a M Q⟩,
    ⟨1003, fun _ _ => False, fun a M => At Try.prog Ex none Try.f119 [1, 1, 1] a M Q⟩]
    [1000, 1001] [] (by kernel_rfl) (by kernel_rfl) (by kernel_rfl) (by kernel_rfl) (by kernel_rfl)
    ⟨fun a M hn h => by obtain ⟨⟨n, f⟩, ds⟩ := a; have hn : n = 39 := hn; subst hn; obtain ⟨hd, h⟩ := dfr_iff h; have hd : ds = [] := hd; subst hd; exact h f rfl rfl rfl rfl rfl rfl rfl,
    fun _ _ _ h => h.elim,
    trivial⟩
    (cast (by kernel_rfl) h)
def S_acts_turned_1 (x1 x2 x3 x9 x14 x15 x16 : Value) (M : Store) (Q : Value → Store → Prop) : Prop :=
  OP (binI .lss x16 x15) fun t17 =>
  BR t17 (
  P_acts_turned_2 x1 x2 x3 x9 x14 x15 x16 M Q
  ) (
  P_acts_turned_3 x9 M Q
  )
theorem T_acts_turned_1 {x1 x2 x3 x9 x14 x15 x16 : Value} {M : Store} {Q : Value → Store → Prop} (h : S_acts_turned_1 x1 x2 x3 x9 x14 x15 x16 M Q) : P_acts_turned_1 x1 x2 x3 x9 x14 x15 x16 M Q := by
  intro f h1 h2 h3 h9 h14 h15 h16; subst h1; subst h2; subst h3; subst h9; subst h14; subst h15; subst h16
  unfold At
  refine cast (by kernel_rfl) (CW.loop (P := Try.prog) (E := Ex) (rd := none) (x := sub (bodyOf Try.f119) [1, 1, 0, 1, 0, 0]) (a := ⟨⟨39, f⟩, []⟩) (M := M) (K := kcont Try.prog Ex none (bodyOf Try.f119) [1, 1, 0, 1, 0] (kfin Try.prog Try.f119.results.toList Q)) ?_)
  exact rule (B := 1000) (N := 39) (ct := (.two .no (.two .no (.here 1000))))
    [⟨1002, fun a M => dfr a.defers (P_acts_turned_2 (a.get 1) (a.get 2) (a.get 3) (a.get 9) (a.get 14) (a.get 15) (a.get 16) M Q), fun a M => At Try.prog Ex none Try.f119 [1, 1, 0, 1, 0, 0, 1, 1] a M Q⟩,
    ⟨2, fun a M => dfr a.defers (P_acts_turned_3 (a.get 9) M Q), fun a M => At Try.prog Ex none Try.f119 [1, 1, 1] a M Q⟩]
    [1000] [2] (by kernel_rfl) (by kernel_rfl) (by kernel_rfl) (by kernel_rfl) (by kernel_rfl)
    ⟨fun a M hn h => by obtain ⟨⟨n, f⟩, ds⟩ := a; have hn : n = 39 := hn; subst hn; obtain ⟨hd, h⟩ := dfr_iff h; have hd : ds = [] := hd; subst hd; exact h f rfl rfl rfl rfl rfl rfl rfl,
    fun a M hn h => by obtain ⟨⟨n, f⟩, ds⟩ := a; have hn : n = 39 := hn; subst hn; obtain ⟨hd, h⟩ := dfr_iff h; have hd : ds = [] := hd; subst hd; exact h f rfl,
    trivial⟩
    (cast (by kernel_rfl) h)
def S_acts_turned_2 (x1 x2 x3 x9 x14 x15 x16 : Value) (M : Store) (Q : Value → Store → Prop) : Prop :=
  OP (ixA 1 x14 x16) fun t19 =>
  OP (ld 1 false t19 M) fun t20 =>
  OP (binI .geq t20 x1) fun t23 =>
  BR t23 (
  OP (binI .leq t20 x2) fun t27 =>
  BR t27 (
  OP (cvI .i64 t20) fun t32 =>
  OP (binI .add t32 x3) fun t34 =>
  OP (cvI .u8 t34) fun t35 =>
  OP (ixA 1 x9 x16) fun t36 =>
  OP (st 1 t36 t35 M) fun M1 =>
  OP (binI .add x16 (.int .i64 1)) fun t37 =>
  P_acts_turned_1 x1 x2 x3 x9 x14 x15 t37 M1 Q
  ) (
  OP (binI .add x16 (.int .i64 1)) fun t37_1 =>
  P_acts_turned_1 x1 x2 x3 x9 x14 x15 t37_1 M Q
  )
  ) (
  OP (binI .add x16 (.int .i64 1)) fun t37_2 =>
  P_acts_turned_1 x1 x2 x3 x9 x14 x15 t37_2 M Q
  )
theorem T_acts_turned_2 {x1 x2 x3 x9 x14 x15 x16 : Value} {M : Store} {Q : Value → Store → Prop} (h : S_acts_turned_2 x1 x2 x3 x9 x14 x15 x16 M Q) : P_acts_turned_2 x1 x2 x3 x9 x14 x15 x16 M Q := by
  intro f h1 h2 h3 h9 h14 h15 h16; subst h1; subst h2; subst h3; subst h9; subst h14; subst h15; subst h16
  unfold At
  exact rule (B := 1000) (N := 39) (ct := .no)
    [⟨0, fun a M => dfr a.defers (P_acts_turned_1 (a.get 1) (a.get 2) (a.get 3) (a.get 9) (a.get 14) (a.get 15) (a.get 16) M Q), fun a M => At Try.prog Ex none Try.f119 [1, 1, 0, 1, 0] a M Q⟩]
    [] [0] (by kernel_rfl) (by kernel_rfl) (by kernel_rfl) (by kernel_rfl) (by kernel_rfl)
    ⟨fun a M hn h => by obtain ⟨⟨n, f⟩, ds⟩ := a; have hn : n = 39 := hn; subst hn; obtain ⟨hd, h⟩ := dfr_iff h; have hd : ds = [] := hd; subst hd; exact h f rfl rfl rfl rfl rfl rfl rfl,
    trivial⟩
    (cast (by kernel_rfl) h)
def S_acts_turned_3 (x9 : Value) (M : Store) (Q : Value → Store → Prop) : Prop :=
  NTs [x9] ∧ Q x9 M
theorem T_acts_turned_3 {x9 : Value} {M : Store} {Q : Value → Store → Prop} (h : S_acts_turned_3 x9 M Q) : P_acts_turned_3 x9 M Q := by
  intro f h9; subst h9
  unfold At
  exact rule (B := 1000) (N := 39) (ct := .no)
    [⟨1, fun a M => kfin Try.prog Try.f119.results.toList Q 1 a M, fun a M => kfin Try.prog Try.f119.results.toList Q 1 a M⟩]
    [] [1] (by kernel_rfl) (by kernel_rfl) (by kernel_rfl) (by kernel_rfl) (by kernel_rfl)
    ⟨fun _ _ _ h => h,
    trivial⟩
    (cast (by kernel_rfl) h)
def P_slices_Reverse_sl_byte_byte_1 (x0 x2 x3 : Value) (M : Store) (Q : Value → Store → Prop) : Prop :=
  ∀ f : Nat → Value, f 0 = x0 → f 2 = x2 → f 3 = x3 → At Try.prog Ex none Try.f120 [1, 0] ⟨⟨28, f⟩, []⟩ M Q
def P_slices_Reverse_sl_byte_byte_2 (x0 x2 x3 : Value) (M : Store) (Q : Value → Store → Prop) : Prop :=
  ∀ f : Nat → Value, f 0 = x0 → f 2 = x2 → f 3 = x3 → At Try.prog Ex none Try.f120 [1, 0, 0, 1] ⟨⟨28, f⟩, []⟩ M Q
def S_slices_Reverse_sl_byte_byte (x0 : Value) (M : Store) (Q : Value → Store → Prop) : Prop :=
  OP (lenV x0) fun t5 =>
  OP (binI .sub t5 (.int .i64 1)) fun t6 =>
  P_slices_Reverse_sl_byte_byte_1 x0 (.int .i64 0) t6 M Q
theorem T_slices_Reverse_sl_byte_byte {x0 : Value} {M : Store} {Q : Value → Store → Prop} (h : S_slices_Reverse_sl_byte_byte x0 M Q) : R F.slices_Reverse_sl_byte_byte #[x0] M Q := by
  refine runs_of (c := bodyOf Try.f120) Try.func120 rfl (by kernel_rfl) (by kernel_rfl) ?_
  unfold At
  exact rule (B := 1000) (N := 28) (ct := (.two .no (.two (.here 1000) .no)))
    [⟨1002, fun a M => dfr a.defers (P_slices_Reverse_sl_byte_byte_1 (a.get 0) (a.get 2) (a.get 3) M Q), fun a M => At Try.prog Ex none Try.f120 [1, 0] a M Q⟩]
    [1000] [] (by kernel_rfl) (by kernel_rfl) (by kernel_rfl) (by kernel_rfl) (by kernel_rfl)
    ⟨fun a M hn h => by obtain ⟨⟨n, f⟩, ds⟩ := a; have hn : n = 28 := hn; subst hn; obtain ⟨hd, h⟩ := dfr_iff h; have hd : ds = [] := hd; subst hd; exact h f rfl rfl rfl,
    trivial⟩
    (cast (by kernel_rfl) h)
def S_slices_Reverse_sl_byte_byte_1 (x0 x2 x3 : Value) (M : Store) (Q : Value → Store → Prop) : Prop :=
  OP (binI .lss x2 x3) fun t9 =>
  BR t9 (
  P_slices_Reverse_sl_byte_byte_2 x0 x2 x3 M Q
  ) (
  NTs [] ∧ Q (.tuple #[]) M
  )
theorem T_slices_Reverse_sl_byte_byte_1 {x0 x2 x3 : Value} {M : Store} {Q : Value → Store → Prop} (h : S_slices_Reverse_sl_byte_byte_1 x0 x2 x3 M Q) : P_slices_Reverse_sl_byte_byte_1 x0 x2 x3 M Q := by
  intro f h0 h2 h3; subst h0; subst h2; subst h3
  unfold At
  refine cast (by kernel_rfl) (CW.loop (P := Try.prog) (E := Ex) (rd := none) (x := sub (bodyOf Try.f120) [1, 0, 0]) (a := ⟨⟨28, f⟩, []⟩) (M := M) (K := kcont Try.prog Ex none (bodyOf Try.f120) [1, 0] (kfin Try.prog Try.f120.results.toList Q)) ?_)
  exact rule (B := 1000) (N := 28) (ct := (.two .no (.here 1000)))
    [⟨1002, fun a M => dfr a.defers (P_slices_Reverse_sl_byte_byte_2 (a.get 0) (a.get 2) (a.get 3) M Q), fun a M => At Try.prog Ex none Try.f120 [1, 0, 0, 1] a M Q⟩,
    ⟨2, fun a M => kfin Try.prog Try.f120.results.toList Q 0 a M, fun a M => kfin Try.prog Try.f120.results.toList Q 0 a M⟩]
    [1000] [2] (by kernel_rfl) (by kernel_rfl) (by kernel_rfl) (by kernel_rfl) (by kernel_rfl)
    ⟨fun a M hn h => by obtain ⟨⟨n, f⟩, ds⟩ := a; have hn : n = 28 := hn; subst hn; obtain ⟨hd, h⟩ := dfr_iff h; have hd : ds = [] := hd; subst hd; exact h f rfl rfl rfl,
    fun _ _ _ h => h,
    trivial⟩
    (cast (by kernel_rfl) h)
def S_slices_Reverse_sl_byte_byte_2 (x0 x2 x3 : Value) (M : Store) (Q : Value → Store → Prop) : Prop :=
  OP (ixA 1 x0 x3) fun t20 =>
  OP (ld 1 false t20 M) fun t21 =>
  OP (ixA 1 x0 x2) fun t24 =>
  OP (ld 1 false t24 M) fun t25 =>
  OP (ixA 1 x0 x2) fun t26 =>
  OP (st 1 t26 t21 M) fun M1 =>
  TDx [0, 0, 0, 0, 0, 0, 48, 112, 0, 0, 768, 1792, 4083, 8179, 16383, 32767] [M.n, M.n, M.n, M.n, M.n, M.n, M.n, M.n, M.n, M.n, M.n, M.n, M.n, M.n] 13 M M1 ∧
  OP (ixA 1 x0 x3) fun t27 =>
  OP (st 1 t27 t25 M1) fun M2 =>
  TDx [0, 0, 0, 0, 0, 0, 48, 112, 0, 0, 768, 1792, 4083, 8179, 16383, 32767] [M.n, M.n, M.n, M.n, M.n, M.n, M.n, M.n, M.n, M.n, M.n, M.n, M.n, M.n, M1.n, M1.n] 15 M1 M2 ∧
  OP (binI .add x2 (.int .i64 1)) fun t11 =>
  OP (binI .sub x3 (.int .i64 1)) fun t13 =>
  P_slices_Reverse_sl_byte_byte_1 x0 t11 t13 M2 Q
theorem T_slices_Reverse_sl_byte_byte_2 {x0 x2 x3 : Value} {M : Store} {Q : Value → Store → Prop} (h : S_slices_Reverse_sl_byte_byte_2 x0 x2 x3 M Q) : P_slices_Reverse_sl_byte_byte_2 x0 x2 x3 M Q := by
  intro f h0 h2 h3; subst h0; subst h2; subst h3
  unfold At
  exact rule (B := 1000) (N := 28) (ct := .no)
    [⟨0, fun a M => dfr a.defers (P_slices_Reverse_sl_byte_byte_1 (a.get 0) (a.get 2) (a.get 3) M Q), fun a M => At Try.prog Ex none Try.f120 [1, 0] a M Q⟩]
    [] [0] (by kernel_rfl) (by kernel_rfl) (by kernel_rfl) (by kernel_rfl) (by kernel_rfl)
    ⟨fun a M hn h => by obtain ⟨⟨n, f⟩, ds⟩ := a; have hn : n = 28 := hn; subst hn; obtain ⟨hd, h⟩ := dfr_iff h; have hd : ds = [] := hd; subst hd; exact h f rfl rfl rfl,
    trivial⟩
    (cast (by kernel_rfl) h)
def P_acts_joined_1 (x1 x5 x8 x9 x10 : Value) (M : Store) (Q : Value → Store → Prop) : Prop :=
  ∀ f : Nat → Value, f 1 = x1 → f 5 = x5 → f 8 = x8 → f 9 = x9 → f 10 = x10 → At Try.prog Ex none Try.f122 [1, 1, 0, 1, 0] ⟨⟨26, f⟩, []⟩ M Q
def P_acts_joined_2 (x1 x5 x8 x9 x10 : Value) (M : Store) (Q : Value → Store → Prop) : Prop :=
  ∀ f : Nat → Value, f 1 = x1 → f 5 = x5 → f 8 = x8 → f 9 = x9 → f 10 = x10 → At Try.prog Ex none Try.f122 [1, 1, 0, 1, 0, 0, 1, 1] ⟨⟨26, f⟩, []⟩ M Q
def P_acts_joined_3 (x5 : Value) (M : Store) (Q : Value → Store → Prop) : Prop :=
  ∀ f : Nat → Value, f 5 = x5 → At Try.prog Ex none Try.f122 [1, 1, 1] ⟨⟨26, f⟩, []⟩ M Q
def S_acts_joined (x0 x1 : Value) (M : Store) (Q : Value → Store → Prop) : Prop :=
  OP (lenV x0) fun t9 =>
  P_acts_joined_1 x1 (.slice none 0 0) x0 t9 (.int .i64 0) M Q
theorem T_acts_joined {x0 x1 : Value} {M : Store} {Q : Value → Store → Prop} (h : S_acts_joined x0 x1 M Q) : R F.acts_joined #[x0, x1] M Q := by
  refine runs_of (c := bodyOf Try.f122) Try.func122 rfl (by kernel_rfl) (by kernel_rfl) ?_
  unfold At
  exact rule (B := 1000) (N := 26) (ct := (.two .no (.two .no (.two (.two .no (.two (.here 1000) .no)) (.here 1001)))))
    [⟨1002, fun a M => dfr a.defers (P_acts_joined_1 (a.get 1) (a.get 5) (a.get 8) (a.get 9) (a.get 10) M Q), fun a M => At Try.prog Ex none Try.f122 [1, 1, 0, 1, 0] a M Q⟩,
    ⟨1003, fun _ _ => False, fun a M => At Try.prog Ex none Try.f122 [1, 1, 1] a M Q⟩]
    [1000, 1001] [] (by kernel_rfl) (by kernel_rfl) (by kernel_rfl) (by kernel_rfl) (by kernel_rfl)
    ⟨fun a M hn h => by obtain ⟨⟨n, f⟩, ds⟩ := a; have hn : n = 26 := hn; subst hn; obtain ⟨hd, h⟩ := dfr_iff h; have hd : ds = [] := hd; subst hd; exact h f rfl rfl rfl rfl rfl,
    fun _ _ _ h => h.elim,
    trivial⟩
    (cast (by kernel_rfl) h)
def S_acts_joined_1 (x1 x5 x8 x9 x10 : Value) (M : Store) (Q : Value → Store → Prop) : Prop :=
  OP (binI .lss x10 x9) fun t11 =>
  BR t11 (
  P_acts_joined_2 x1 x5 x8 x9 x10 M Q
  ) (
  P_acts_joined_3 x5 M Q
  )
theorem T_acts_joined_1 {x1 x5 x8 x9 x10 : Value} {M : Store} {Q : Value → Store → Prop} (h : S_acts_joined_1 x1 x5 x8 x9 x10 M Q) : P_acts_joined_1 x1 x5 x8 x9 x10 M Q := by
  intro f h1 h5 h8 h9 h10; subst h1; subst h5; subst h8; subst h9; subst h10
  unfold At
  refine cast (by kernel_rfl) (CW.loop (P := Try.prog) (E := Ex) (rd := none) (x := sub (bodyOf Try.f122) [1, 1, 0, 1, 0, 0]) (a := ⟨⟨26, f⟩, []⟩) (M := M) (K := kcont Try.prog Ex none (bodyOf Try.f122) [1, 1, 0, 1, 0] (kfin Try.prog Try.f122.results.toList Q)) ?_)
  exact rule (B := 1000) (N := 26) (ct := (.two .no (.two .no (.here 1000))))
    [⟨1002, fun a M => dfr a.defers (P_acts_joined_2 (a.get 1) (a.get 5) (a.get 8) (a.get 9) (a.get 10) M Q), fun a M => At Try.prog Ex none Try.f122 [1, 1, 0, 1, 0, 0, 1, 1] a M Q⟩,
    ⟨2, fun a M => dfr a.defers (P_acts_joined_3 (a.get 5) M Q), fun a M => At Try.prog Ex none Try.f122 [1, 1, 1] a M Q⟩]
    [1000] [2] (by kernel_rfl) (by kernel_rfl) (by kernel_rfl) (by kernel_rfl) (by kernel_rfl)
    ⟨fun a M hn h => by obtain ⟨⟨n, f⟩, ds⟩ := a; have hn : n = 26 := hn; subst hn; obtain ⟨hd, h⟩ := dfr_iff h; have hd : ds = [] := hd; subst hd; exact h f rfl rfl rfl rfl rfl,
    fun a M hn h => by obtain ⟨⟨n, f⟩, ds⟩ := a; have hn : n = 26 := hn; subst hn; obtain ⟨hd, h⟩ := dfr_iff h; have hd : ds = [] := hd; subst hd; exact h f rfl,
    trivial⟩
    (cast (by kernel_rfl) h)
def S_acts_joined_2 (x1 x5 x8 x9 x10 : Value) (M : Store) (Q : Value → Store → Prop) : Prop :=
  OP (ixA 1 x8 x10) fun t13 =>
  OP (ld 1 false t13 M) fun t14 =>
  OP (binI .gtr x10 (.int .i64 0)) fun t16 =>
  BR t16 (
  OP2 (appT 1 Ty.uint8 x5 x1 M) fun t19 M1 =>
  OP (bldL (.int .u8 0) 1 1 [(0, t14)]) fun c =>
  LT (.slice (some ⟨M1.n, 0, none⟩) 1 1) (M1.push (some (.inl (c, Ty.uint8, true)))) fun t22 M2 =>
  OP2 (appV 1 Ty.uint8 t19 t22 M2) fun t23 M3 =>
  OP (binI .add x10 (.int .i64 1)) fun t24 =>
  P_acts_joined_1 x1 t23 x8 x9 t24 M3 Q
  ) (
  OP (bldL (.int .u8 0) 1 1 [(0, t14)]) fun c_1 =>
  LT (.slice (some ⟨M.n, 0, none⟩) 1 1) (M.push (some (.inl (c_1, Ty.uint8, true)))) fun t22_1 M4 =>
  OP2 (appV 1 Ty.uint8 x5 t22_1 M4) fun t23_1 M5 =>
  OP (binI .add x10 (.int .i64 1)) fun t24_1 =>
  P_acts_joined_1 x1 t23_1 x8 x9 t24_1 M5 Q
  )
theorem T_acts_joined_2 {x1 x5 x8 x9 x10 : Value} {M : Store} {Q : Value → Store → Prop} (h : S_acts_joined_2 x1 x5 x8 x9 x10 M Q) : P_acts_joined_2 x1 x5 x8 x9 x10 M Q := by
  intro f h1 h5 h8 h9 h10; subst h1; subst h5; subst h8; subst h9; subst h10
  unfold At
  exact rule (B := 1000) (N := 26) (ct := .no)
    [⟨0, fun a M => dfr a.defers (P_acts_joined_1 (a.get 1) (a.get 5) (a.get 8) (a.get 9) (a.get 10) M Q), fun a M => At Try.prog Ex none Try.f122 [1, 1, 0, 1, 0] a M Q⟩]
    [] [0] (by kernel_rfl) (by kernel_rfl) (by kernel_rfl) (by kernel_rfl) (by kernel_rfl)
    ⟨fun a M hn h => by obtain ⟨⟨n, f⟩, ds⟩ := a; have hn : n = 26 := hn; subst hn; obtain ⟨hd, h⟩ := dfr_iff h; have hd : ds = [] := hd; subst hd; exact h f rfl rfl rfl rfl rfl,
    trivial⟩
    (cast (by kernel_rfl) h)
def S_acts_joined_3 (x5 : Value) (M : Store) (Q : Value → Store → Prop) : Prop :=
  NTs [x5] ∧ Q x5 M
theorem T_acts_joined_3 {x5 : Value} {M : Store} {Q : Value → Store → Prop} (h : S_acts_joined_3 x5 M Q) : P_acts_joined_3 x5 M Q := by
  intro f h5; subst h5
  unfold At
  exact rule (B := 1000) (N := 26) (ct := .no)
    [⟨1, fun a M => kfin Try.prog Try.f122.results.toList Q 1 a M, fun a M => kfin Try.prog Try.f122.results.toList Q 1 a M⟩]
    [] [1] (by kernel_rfl) (by kernel_rfl) (by kernel_rfl) (by kernel_rfl) (by kernel_rfl)
    ⟨fun _ _ _ h => h,
    trivial⟩
    (cast (by kernel_rfl) h)
end Go.G
