/- ... -/
import Derived.Test.YtnonfejhkbaikaaPGN
open Go.RowKit
namespace Go.G
open Go.Ab Go.Proofs
set_option linter.unusedVariables false
set_option maxRecDepth 100000
def P_r4_Split_1 (x0 x3 x4 x5 x6 x7 x8 : Value) (M : Store) (Q : KP) : Prop :=
  ∀ f : Nat → Value, f 0 = x0 → f 3 = x3 → f 4 = x4 → f 5 = x5 → f 6 = x6 → f 7 = x7 → f 8 = x8 → At Try.prog Ex none Try.f45 [1, 1, 1, 1, 0, 1, 0] ⟨⟨192, f⟩, []⟩ M Q
def P_r4_Split_2 (x0 x3 x4 x5 x6 x7 x8 : Value) (M : Store) (Q : KP) : Prop :=
  ∀ f : Nat → Value, f 0 = x0 → f 3 = x3 → f 4 = x4 → f 5 = x5 → f 6 = x6 → f 7 = x7 → f 8 = x8 → At Try.prog Ex none Try.f45 [1, 1, 1, 1, 0, 1, 0, 0, 1] ⟨⟨192, f⟩, []⟩ M Q
def P_r4_Split_3 (x3 x4 : Value) (M : Store) (Q : KP) : Prop :=
  ∀ f : Nat → Value, f 3 = x3 → f 4 = x4 → At Try.prog Ex none Try.f45 [1, 1, 1, 1, 1] ⟨⟨192, f⟩, []⟩ M Q
def P_r4_Split_4 (x0 x3 x4 x5 x6 x7 x8 : Value) (M : Store) (Q : KP) : Prop :=
  ∀ f : Nat → Value, f 0 = x0 → f 3 = x3 → f 4 = x4 → f 5 = x5 → f 6 = x6 → f 7 = x7 → f 8 = x8 → At Try.prog Ex none Try.f45 [1, 1, 1, 1, 0, 1, 0, 0, 1, 0, 1] ⟨⟨192, f⟩, []⟩ M Q
def P_r4_Split_5 (x0 x3 x4 x5 x6 x7 x8 : Value) (M : Store) (Q : KP) : Prop :=
  ∀ f : Nat → Value, f 0 = x0 → f 3 = x3 → f 4 = x4 → f 5 = x5 → f 6 = x6 → f 7 = x7 → f 8 = x8 → At Try.prog Ex none Try.f45 [1, 1, 1, 1, 0, 1, 0, 0, 1, 0, 1, 1, 1, 0, 1, 1, 1, 0, 0] ⟨⟨192, f⟩, []⟩ M Q
def P_r4_Split_6 (x0 x3 x4 x5 x6 x7 x8 x10 x15 : Value) (M : Store) (Q : KP) : Prop :=
  ∀ f : Nat → Value, f 0 = x0 → f 3 = x3 → f 4 = x4 → f 5 = x5 → f 6 = x6 → f 7 = x7 → f 8 = x8 → f 10 = x10 → f 15 = x15 → At Try.prog Ex none Try.f45 [1, 1, 1, 1, 0, 1, 0, 0, 1, 0, 1, 1, 1, 0, 1, 1, 1, 1, 1, 1, 1, 1, 1, 1, 1, 0, 0] ⟨⟨192, f⟩, []⟩ M Q
def P_r4_Split_7 (x0 x3 x4 x5 x6 x7 x8 x10 x15 : Value) (M : Store) (Q : KP) : Prop :=
  ∀ f : Nat → Value, f 0 = x0 → f 3 = x3 → f 4 = x4 → f 5 = x5 → f 6 = x6 → f 7 = x7 → f 8 = x8 → f 10 = x10 → f 15 = x15 → At Try.prog Ex none Try.f45 [1, 1, 1, 1, 0, 1, 0, 0, 1, 0, 1, 1, 1, 0, 1, 1, 1, 1, 1, 1, 1, 1, 1, 1, 1, 1] ⟨⟨192, f⟩, []⟩ M Q
def S_r4_Split (x0 : Value) (M : Store) (Q : KP) : Prop :=
  LT (.pointer (some ⟨M.n, 0, none⟩)) (M.push (some (.inl ([(.int .i64 0), (.int .i64 0), (.int .i64 0)], Ty.api_Fault, true)))) fun t3 M1 =>
  P_r4_Split_1 x0 t3 (.slice none 0 0) (.slice none 0 0) (.int .i64 1) (.int .i64 0) (.int .i64 0) M1 Q
theorem T_r4_Split {x0 : Value} {M : Store} {Q : KP} (h : S_r4_Split x0 M Q) : R F.r4_Split #[x0] M Q := by
  refine runs_of (c := bodyOf Try.f45) Try.func45 rfl (by kernel_rfl) (by kernel_rfl) ?_
  unfold At
  exact rule (B := 1000) (N := 192) (ct := (.two .no (.two .no (.two .no (.two .no (.two (.two .no (.two (.here 1000) .no)) (.here 1001)))))))
    [⟨1002, fun a M => dfr a.defers (P_r4_Split_1 (a.get 0) (a.get 3) (a.get 4) (a.get 5) (a.get 6) (a.get 7) (a.get 8) M Q), fun a M => At Try.prog Ex none Try.f45 [1, 1, 1, 1, 0, 1, 0] a M Q⟩,
    ⟨1003, fun _ _ => False, fun a M => At Try.prog Ex none Try.f45 [1, 1, 1, 1, 1] a M Q⟩]
    [1000, 1001] [] (by kernel_rfl) (by kernel_rfl) (by kernel_rfl) (by kernel_rfl) (by kernel_rfl)
    ⟨fun a M hn h => by obtain ⟨⟨n, f⟩, ds⟩ := a; have hn : n = 192 := hn; subst hn; obtain ⟨hd, h⟩ := dfr_iff h; have hd : ds = [] := hd; subst hd; exact h f rfl rfl rfl rfl rfl rfl rfl,
    fun _ _ _ h => h.elim,
    trivial⟩
    (cast (by kernel_rfl) h)
def S_r4_Split_1 (x0 x3 x4 x5 x6 x7 x8 : Value) (M : Store) (Q : KP) : Prop :=
  OP (lenV x0) fun t18 =>
  OP (binI .leq x8 t18) fun t19 =>
  BR t19 (
  P_r4_Split_2 x0 x3 x4 x5 x6 x7 x8 M Q
  ) (
  P_r4_Split_3 x3 x4 M Q
  )
theorem T_r4_Split_1 {x0 x3 x4 x5 x6 x7 x8 : Value} {M : Store} {Q : KP} (h : S_r4_Split_1 x0 x3 x4 x5 x6 x7 x8 M Q) : P_r4_Split_1 x0 x3 x4 x5 x6 x7 x8 M Q := by
  intro f h0 h3 h4 h5 h6 h7 h8; subst h0; subst h3; subst h4; subst h5; subst h6; subst h7; subst h8
  unfold At
  refine cast (by kernel_rfl) (CW.loop (P := Try.prog) (E := Ex) (rd := none) (x := sub (bodyOf Try.f45) [1, 1, 1, 1, 0, 1, 0, 0]) (a := ⟨⟨192, f⟩, []⟩) (M := M) (K := kcont Try.prog Ex none (bodyOf Try.f45) [1, 1, 1, 1, 0, 1, 0] (kfin Try.prog Try.f45.results.toList Q)) ?_)
  exact rule (B := 1000) (N := 192) (ct := (.two .no (.here 1000)))
    [⟨1002, fun a M => dfr a.defers (P_r4_Split_2 (a.get 0) (a.get 3) (a.get 4) (a.get 5) (a.get 6) (a.get 7) (a.get 8) M Q), fun a M => At Try.prog Ex none Try.f45 [1, 1, 1, 1, 0, 1, 0, 0, 1] a M Q⟩,
    ⟨2, fun a M => dfr a.defers (P_r4_Split_3 (a.get 3) (a.get 4) M Q), fun a M => At Try.prog Ex none Try.f45 [1, 1, 1, 1, 1] a M Q⟩]
    [1000] [2] (by kernel_rfl) (by kernel_rfl) (by kernel_rfl) (by kernel_rfl) (by kernel_rfl)
    ⟨fun a M hn h => by obtain ⟨⟨n, f⟩, ds⟩ := a; have hn : n = 192 := hn; subst hn; obtain ⟨hd, h⟩ := dfr_iff h; have hd : ds = [] := hd; subst hd; exact h f rfl rfl rfl rfl rfl rfl rfl,
    fun a M hn h => by obtain ⟨⟨n, f⟩, ds⟩ := a; have hn : n = 192 := hn; subst hn; obtain ⟨hd, h⟩ := dfr_iff h; have hd : ds = [] := hd; subst hd; exact h f rfl rfl,
    trivial⟩
    (cast (by kernel_rfl) h)
def S_r4_Split_2 (x0 x3 x4 x5 x6 x7 x8 : Value) (M : Store) (Q : KP) : Prop :=
  OP (lenV x0) fun t22 =>
  OP (binI .eql x8 t22) fun t23 =>
  BR t23 (
  OP (lenV x5) fun t32 =>
  OP (binI .gtr t32 (.int .i64 0)) fun t33 =>
  BR t33 (
  OP (bldL (.slice none 0 0) 1 1 [(0, x5)]) fun c =>
  LT (.slice (some ⟨M.n, 0, none⟩) 1 1) (M.push (some (.inl (c, Ty.sl_api_Word, true)))) fun t36 M1 =>
  OP2 (appV 1 Ty.sl_api_Word x4 t36 M1) fun t37 M2 =>
  OP (binI .add x6 (.int .i64 1)) fun t39 =>
  OP (binI .add x8 (.int .i64 1)) fun t41 =>
  P_r4_Split_1 x0 x3 t37 (.slice none 0 0) t39 t41 t41 M2 Q
  ) (
  OP (binI .add x6 (.int .i64 1)) fun t39_1 =>
  OP (binI .add x8 (.int .i64 1)) fun t41_1 =>
  P_r4_Split_1 x0 x3 x4 x5 t39_1 t41_1 t41_1 M Q
  )
  ) (
  OP (ixA 1 x0 x8) fun t27 =>
  OP (ld 1 false t27 M) fun t28 =>
  OP (binI .eql t28 (.int .u8 10)) fun t29 =>
  BR t29 (
  OP (lenV x5) fun t32_1 =>
  OP (binI .gtr t32_1 (.int .i64 0)) fun t33_1 =>
  BR t33_1 (
  OP (bldL (.slice none 0 0) 1 1 [(0, x5)]) fun c_1 =>
  LT (.slice (some ⟨M.n, 0, none⟩) 1 1) (M.push (some (.inl (c_1, Ty.sl_api_Word, true)))) fun t36_1 M3 =>
  OP2 (appV 1 Ty.sl_api_Word x4 t36_1 M3) fun t37_1 M4 =>
  OP (binI .add x6 (.int .i64 1)) fun t39_2 =>
  OP (binI .add x8 (.int .i64 1)) fun t41_2 =>
  P_r4_Split_1 x0 x3 t37_1 (.slice none 0 0) t39_2 t41_2 t41_2 M4 Q
  ) (
  OP (binI .add x6 (.int .i64 1)) fun t39_3 =>
  OP (binI .add x8 (.int .i64 1)) fun t41_3 =>
  P_r4_Split_1 x0 x3 x4 x5 t39_3 t41_3 t41_3 M Q
  )
  ) (
  P_r4_Split_4 x0 x3 x4 x5 x6 x7 x8 M Q
  )
  )
theorem T_r4_Split_2 {x0 x3 x4 x5 x6 x7 x8 : Value} {M : Store} {Q : KP} (h : S_r4_Split_2 x0 x3 x4 x5 x6 x7 x8 M Q) : P_r4_Split_2 x0 x3 x4 x5 x6 x7 x8 M Q := by
  intro f h0 h3 h4 h5 h6 h7 h8; subst h0; subst h3; subst h4; subst h5; subst h6; subst h7; subst h8
  unfold At
  exact rule (B := 1000) (N := 192) (ct := (.two (.two .no (.here 1000)) .no))
    [⟨1002, fun a M => dfr a.defers (P_r4_Split_4 (a.get 0) (a.get 3) (a.get 4) (a.get 5) (a.get 6) (a.get 7) (a.get 8) M Q), fun a M => At Try.prog Ex none Try.f45 [1, 1, 1, 1, 0, 1, 0, 0, 1, 0, 1] a M Q⟩,
    ⟨0, fun a M => dfr a.defers (P_r4_Split_1 (a.get 0) (a.get 3) (a.get 4) (a.get 5) (a.get 6) (a.get 7) (a.get 8) M Q), fun a M => At Try.prog Ex none Try.f45 [1, 1, 1, 1, 0, 1, 0] a M Q⟩]
    [1000] [0] (by kernel_rfl) (by kernel_rfl) (by kernel_rfl) (by kernel_rfl) (by kernel_rfl)
    ⟨fun a M hn h => by obtain ⟨⟨n, f⟩, ds⟩ := a; have hn : n = 192 := hn; subst hn; obtain ⟨hd, h⟩ := dfr_iff h; have hd : ds = [] := hd; subst hd; exact h f rfl rfl rfl rfl rfl rfl rfl,
    fun a M hn h => by obtain ⟨⟨n, f⟩, ds⟩ := a; have hn : n = 192 := hn; subst hn; obtain ⟨hd, h⟩ := dfr_iff h; have hd : ds = [] := hd; subst hd; exact h f rfl rfl rfl rfl rfl rfl rfl,
    trivial⟩
    (cast (by kernel_rfl) h)
def S_r4_Split_3 (x3 x4 : Value) (M : Store) (Q : KP) : Prop :=
  OP (bldS #[(.int .i64 0), (.int .i64 0), (.int .i64 0)] [(0, 1), (1, 1), (2, 1)] []) fun t191 =>
  OP (st 3 x3 t191 M) fun M1 =>
  OP (ld 3 true x3 M1) fun r3 =>
  NTs [x4, r3] ∧ Q (.tuple #[x4, r3]) M1
theorem T_r4_Split_3 {x3 x4 : Value} {M : Store} {Q : KP} (h : S_r4_Split_3 x3 x4 M Q) : P_r4_Split_3 x3 x4 M Q := by
  intro f h3 h4; subst h3; subst h4
  unfold At
  exact rule (B := 1000) (N := 192) (ct := .no)
    [⟨1, fun a M => kfin Try.prog Try.f45.results.toList Q 1 a M, fun a M => kfin Try.prog Try.f45.results.toList Q 1 a M⟩]
    [] [1] (by kernel_rfl) (by kernel_rfl) (by kernel_rfl) (by kernel_rfl) (by kernel_rfl)
    ⟨fun _ _ _ h => h,
    trivial⟩
    (cast (by kernel_rfl) h)
def S_r4_Split_4 (x0 x3 x4 x5 x6 x7 x8 : Value) (M : Store) (Q : KP) : Prop :=
  OP (ixA 1 x0 x8) fun t45 =>
  OP (ld 1 false t45 M) fun t46 =>
  OP (binI .sub x8 x7) fun t50 =>
  OP (binI .add t50 (.int .i64 1)) fun t51 =>
  OP (bldS #[(.string ⟨#[]⟩), (.int .i64 0), (.int .i64 0), (.bool false)] [(0, 1), (1, 1), (2, 1), (3, 1)] [(1, x6), (2, t51)]) fun t52 =>
  LT (.pointer (some ⟨M.n, 0, none⟩)) (M.push (some (.inl ([(.string ⟨#[]⟩), (.int .i64 0), (.int .i64 0), (.bool false)], Ty.api_Word, true)))) fun t10 M1 =>
  OP (st 4 t10 t52 M1) fun M2 =>
  OP (binI .eql t46 (.int .u8 32)) fun t112 =>
  BR t112 (
  OP (binI .add x8 (.int .i64 1)) fun t118 =>
  P_r4_Split_1 x0 x3 x4 x5 x6 x7 t118 M2 Q
  ) (
  OP (binI .eql t46 (.int .u8 9)) fun t115 =>
  BR t115 (
  OP (binI .add x8 (.int .i64 1)) fun t118_1 =>
  P_r4_Split_1 x0 x3 x4 x5 x6 x7 t118_1 M2 Q
  ) (
  OP (binI .eql t46 (.int .u8 35)) fun t121 =>
  BR t121 (
  P_r4_Split_5 x0 x3 x4 x5 x6 x7 x8 M2 Q
  ) (
  R F.r4_sign #[t46] M2 fun t137 M3 =>
  BR t137 (
  OP (binI .add x8 (.int .i64 1)) fun t141 =>
  OP (slV 1 Ty.uint8 x0 (some x8) (some t141) M3) fun t142 =>
  OP (cvBS t142 M3) fun t143 =>
  OP (fad 0 t10) fun t144 =>
  OP (st 1 t144 t143 M3) fun M4 =>
  OP (ld 4 true t10 M4) fun t146 =>
  OP (bldL (.agg #[(.string ⟨#[]⟩), (.int .i64 0), (.int .i64 0), (.bool false)]) 4 1 [(0, t146)]) fun c =>
  LT (.slice (some ⟨M4.n, 0, none⟩) 1 1) (M4.push (some (.inl (c, Ty.api_Word, true)))) fun t147 M5 =>
  OP2 (appV 4 Ty.api_Word x5 t147 M5) fun t148 M6 =>
  OP (binI .add x8 (.int .i64 1)) fun t150 =>
  P_r4_Split_1 x0 x3 x4 t148 x6 x7 t150 M6 Q
  ) (
  OP (binI .eql t46 (.int .u8 34)) fun t153 =>
  BR t153 (
  OP (ld 4 true t10 M3) fun t157 =>
  R F.r4_quoted #[x0, x8, t157] M3 fun t158 M7 =>
  OP (tup t158 0) fun t159 =>
  OP (tup t158 1) fun t160 =>
  OP (tup t158 2) fun t161 =>
  OP (tup t158 3) fun t162 =>
  LT (.pointer (some ⟨M7.n, 0, none⟩)) (M7.push (some (.inl ([(.string ⟨#[]⟩), (.int .i64 0), (.int .i64 0), (.bool false)], Ty.api_Word, true)))) fun t11 M8 =>
  OP (st 4 t11 t159 M8) fun M9 =>
  OP (binI .neq t161 (.int .i64 0)) fun t164 =>
  BR t164 (
  OP (binI .sub t162 x7) fun t169 =>
  OP (binI .add t169 (.int .i64 1)) fun t170 =>
  R F.r4_fault #[t161, x6, t170] M9 fun t171 M10 =>
  OP (st 3 x3 t171 M10) fun M11 =>
  OP (ld 3 true x3 M11) fun r3 =>
  NTs [(.slice none 0 0), r3] ∧ Q (.tuple #[(.slice none 0 0), r3]) M11
  ) (
  OP (ld 4 true t11 M9) fun t173 =>
  OP (bldL (.agg #[(.string ⟨#[]⟩), (.int .i64 0), (.int .i64 0), (.bool false)]) 4 1 [(0, t173)]) fun c_1 =>
  LT (.slice (some ⟨M9.n, 0, none⟩) 1 1) (M9.push (some (.inl (c_1, Ty.api_Word, true)))) fun t174 M12 =>
  OP2 (appV 4 Ty.api_Word x5 t174 M12) fun t175 M13 =>
  P_r4_Split_1 x0 x3 x4 t175 x6 x7 t160 M13 Q
  )
  ) (
  OP (binI .lss t46 (.int .u8 33)) fun t179 =>
  BR t179 (
  OP (binI .sub x8 x7) fun t187 =>
  OP (binI .add t187 (.int .i64 1)) fun t188 =>
  R F.r4_fault #[(.int .i64 1), x6, t188] M3 fun t189 M14 =>
  OP (st 3 x3 t189 M14) fun M15 =>
  OP (ld 3 true x3 M15) fun r3_1 =>
  NTs [(.slice none 0 0), r3_1] ∧ Q (.tuple #[(.slice none 0 0), r3_1]) M15
  ) (
  OP (binI .gtr t46 (.int .u8 126)) fun t182 =>
  BR t182 (
  OP (binI .sub x8 x7) fun t187_1 =>
  OP (binI .add t187_1 (.int .i64 1)) fun t188_1 =>
  R F.r4_fault #[(.int .i64 1), x6, t188_1] M3 fun t189_1 M16 =>
  OP (st 3 x3 t189_1 M16) fun M17 =>
  OP (ld 3 true x3 M17) fun r3_2 =>
  NTs [(.slice none 0 0), r3_2] ∧ Q (.tuple #[(.slice none 0 0), r3_2]) M17
  ) (
  P_r4_Split_6 x0 x3 x4 x5 x6 x7 x8 t10 x8 M3 Q
  )
  )
  )
  )
  )
  )
  )
theorem T_r4_Split_4 {x0 x3 x4 x5 x6 x7 x8 : Value} {M : Store} {Q : KP} (h : S_r4_Split_4 x0 x3 x4 x5 x6 x7 x8 M Q) : P_r4_Split_4 x0 x3 x4 x5 x6 x7 x8 M Q := by
  intro f h0 h3 h4 h5 h6 h7 h8; subst h0; subst h3; subst h4; subst h5; subst h6; subst h7; subst h8
  unfold At
  exact rule (B := 1000) (N := 192) (ct := (.two .no (.two .no (.two (.two .no (.two .no (.two .no (.two (.two (.here 1000) .no) (.two .no (.two .no (.two .no (.two .no (.two .no (.two .no (.two .no (.two (.two (.here 1001) .no) (.here 1002))))))))))))) .no))))
    [⟨1002, fun a M => dfr a.defers (P_r4_Split_5 (a.get 0) (a.get 3) (a.get 4) (a.get 5) (a.get 6) (a.get 7) (a.get 8) M Q), fun a M => At Try.prog Ex none Try.f45 [1, 1, 1, 1, 0, 1, 0, 0, 1, 0, 1, 1, 1, 0, 1, 1, 1, 0, 0] a M Q⟩,
    ⟨1003, fun a M => dfr a.defers (P_r4_Split_6 (a.get 0) (a.get 3) (a.get 4) (a.get 5) (a.get 6) (a.get 7) (a.get 8) (a.get 10) (a.get 15) M Q), fun a M => At Try.prog Ex none Try.f45 [1, 1, 1, 1, 0, 1, 0, 0, 1, 0, 1, 1, 1, 0, 1, 1, 1, 1, 1, 1, 1, 1, 1, 1, 1, 0, 0] a M Q⟩,
    ⟨1004, fun _ _ => False, fun a M => At Try.prog Ex none Try.f45 [1, 1, 1, 1, 0, 1, 0, 0, 1, 0, 1, 1, 1, 0, 1, 1, 1, 1, 1, 1, 1, 1, 1, 1, 1, 1] a M Q⟩,
    ⟨0, fun a M => dfr a.defers (P_r4_Split_1 (a.get 0) (a.get 3) (a.get 4) (a.get 5) (a.get 6) (a.get 7) (a.get 8) M Q), fun a M => At Try.prog Ex none Try.f45 [1, 1, 1, 1, 0, 1, 0] a M Q⟩,
    ⟨1, fun a M => kfin Try.prog Try.f45.results.toList Q 1 a M, fun a M => kfin Try.prog Try.f45.results.toList Q 1 a M⟩]
    [1000, 1001, 1002] [0, 1] (by kernel_rfl) (by kernel_rfl) (by kernel_rfl) (by kernel_rfl) (by kernel_rfl)
    ⟨fun a M hn h => by obtain ⟨⟨n, f⟩, ds⟩ := a; have hn : n = 192 := hn; subst hn; obtain ⟨hd, h⟩ := dfr_iff h; have hd : ds = [] := hd; subst hd; exact h f rfl rfl rfl rfl rfl rfl rfl,
    fun a M hn h => by obtain ⟨⟨n, f⟩, ds⟩ := a; have hn : n = 192 := hn; subst hn; obtain ⟨hd, h⟩ := dfr_iff h; have hd : ds = [] := hd; subst hd; exact h f rfl rfl rfl rfl rfl rfl rfl rfl rfl,
    fun _ _ _ h => h.elim,
    fun a M hn h => by obtain ⟨⟨n, f⟩, ds⟩ := a; have hn : n = 192 := hn; subst hn; obtain ⟨hd, h⟩ := dfr_iff h; have hd : ds = [] := hd; subst hd; exact h f rfl rfl rfl rfl rfl rfl rfl,
    fun _ _ _ h => h,
    trivial⟩
    (cast (by kernel_rfl) h)
def S_r4_Split_5 (x0 x3 x4 x5 x6 x7 x8 : Value) (M : Store) (Q : KP) : Prop :=
  OP (lenV x0) fun t124 =>
  OP (binI .lss x8 t124) fun t125 =>
  BR t125 (
  OP (ixA 1 x0 x8) fun t129 =>
  OP (ld 1 false t129 M) fun t130 =>
  OP (binI .neq t130 (.int .u8 10)) fun t131 =>
  BR t131 (
  OP (binI .add x8 (.int .i64 1)) fun t134 =>
  P_r4_Split_5 x0 x3 x4 x5 x6 x7 t134 M Q
  ) (
  P_r4_Split_1 x0 x3 x4 x5 x6 x7 x8 M Q
  )
  ) (
  P_r4_Split_1 x0 x3 x4 x5 x6 x7 x8 M Q
  )
theorem T_r4_Split_5 {x0 x3 x4 x5 x6 x7 x8 : Value} {M : Store} {Q : KP} (h : S_r4_Split_5 x0 x3 x4 x5 x6 x7 x8 M Q) : P_r4_Split_5 x0 x3 x4 x5 x6 x7 x8 M Q := by
  intro f h0 h3 h4 h5 h6 h7 h8; subst h0; subst h3; subst h4; subst h5; subst h6; subst h7; subst h8
  unfold At
  refine cast (by kernel_rfl) (CW.loop (P := Try.prog) (E := Ex) (rd := none) (x := sub (bodyOf Try.f45) [1, 1, 1, 1, 0, 1, 0, 0, 1, 0, 1, 1, 1, 0, 1, 1, 1, 0, 0, 0]) (a := ⟨⟨192, f⟩, []⟩) (M := M) (K := kcont Try.prog Ex none (bodyOf Try.f45) [1, 1, 1, 1, 0, 1, 0, 0, 1, 0, 1, 1, 1, 0, 1, 1, 1, 0, 0] (kfin Try.prog Try.f45.results.toList Q)) ?_)
  exact rule (B := 1000) (N := 192) (ct := .no)
    [⟨0, fun a M => dfr a.defers (P_r4_Split_5 (a.get 0) (a.get 3) (a.get 4) (a.get 5) (a.get 6) (a.get 7) (a.get 8) M Q), fun a M => At Try.prog Ex none Try.f45 [1, 1, 1, 1, 0, 1, 0, 0, 1, 0, 1, 1, 1, 0, 1, 1, 1, 0, 0] a M Q⟩,
    ⟨7, fun a M => dfr a.defers (P_r4_Split_1 (a.get 0) (a.get 3) (a.get 4) (a.get 5) (a.get 6) (a.get 7) (a.get 8) M Q), fun a M => At Try.prog Ex none Try.f45 [1, 1, 1, 1, 0, 1, 0] a M Q⟩]
    [] [0, 7] (by kernel_rfl) (by kernel_rfl) (by kernel_rfl) (by kernel_rfl) (by kernel_rfl)
    ⟨fun a M hn h => by obtain ⟨⟨n, f⟩, ds⟩ := a; have hn : n = 192 := hn; subst hn; obtain ⟨hd, h⟩ := dfr_iff h; have hd : ds = [] := hd; subst hd; exact h f rfl rfl rfl rfl rfl rfl rfl,
    fun a M hn h => by obtain ⟨⟨n, f⟩, ds⟩ := a; have hn : n = 192 := hn; subst hn; obtain ⟨hd, h⟩ := dfr_iff h; have hd : ds = [] := hd; subst hd; exact h f rfl rfl rfl rfl rfl rfl rfl,
    trivial⟩
    (cast (by kernel_rfl) h)
def S_r4_Split_6 (x0 x3 x4 x5 x6 x7 x8 x10 x15 : Value) (M : Store) (Q : KP) : Prop :=
  OP (lenV x0) fun t56 =>
  OP (binI .lss x15 t56) fun t57 =>
  BR t57 (
  OP (ixA 1 x0 x15) fun t61 =>
  OP (ld 1 false t61 M) fun t62 =>
  OP (binI .gtr t62 (.int .u8 32)) fun t63 =>
  BR t63 (
  OP (ixA 1 x0 x15) fun t68 =>
  OP (ld 1 false t68 M) fun t69 =>
  OP (binI .lss t69 (.int .u8 127)) fun t70 =>
  BR t70 (
  OP (ixA 1 x0 x15) fun t75 =>
  OP (ld 1 false t75 M) fun t76 =>
  OP (binI .neq t76 (.int .u8 34)) fun t77 =>
  BR t77 (
  OP (ixA 1 x0 x15) fun t82 =>
  OP (ld 1 false t82 M) fun t83 =>
  R F.r4_sign #[t83] M fun t84 M1 =>
  OP (aun .not t84) fun t85 =>
  BR t85 (
  OP (binI .add x15 (.int .i64 1)) fun t88 =>
  P_r4_Split_6 x0 x3 x4 x5 x6 x7 x8 x10 t88 M1 Q
  ) (
  P_r4_Split_7 x0 x3 x4 x5 x6 x7 x8 x10 x15 M1 Q
  )
  ) (
  P_r4_Split_7 x0 x3 x4 x5 x6 x7 x8 x10 x15 M Q
  )
  ) (
  P_r4_Split_7 x0 x3 x4 x5 x6 x7 x8 x10 x15 M Q
  )
  ) (
  P_r4_Split_7 x0 x3 x4 x5 x6 x7 x8 x10 x15 M Q
  )
  ) (
  P_r4_Split_7 x0 x3 x4 x5 x6 x7 x8 x10 x15 M Q
  )
theorem T_r4_Split_6 {x0 x3 x4 x5 x6 x7 x8 x10 x15 : Value} {M : Store} {Q : KP} (h : S_r4_Split_6 x0 x3 x4 x5 x6 x7 x8 x10 x15 M Q) : P_r4_Split_6 x0 x3 x4 x5 x6 x7 x8 x10 x15 M Q := by
  intro f h0 h3 h4 h5 h6 h7 h8 h10 h15; subst h0; subst h3; subst h4; subst h5; subst h6; subst h7; subst h8; subst h10; subst h15
  unfold At
  refine cast (by kernel_rfl) (CW.loop (P := Try.prog) (E := Ex) (rd := none) (x := sub (bodyOf Try.f45) [1, 1, 1, 1, 0, 1, 0, 0, 1, 0, 1, 1, 1, 0, 1, 1, 1, 1, 1, 1, 1, 1, 1, 1, 1, 0, 0, 0]) (a := ⟨⟨192, f⟩, []⟩) (M := M) (K := kcont Try.prog Ex none (bodyOf Try.f45) [1, 1, 1, 1, 0, 1, 0, 0, 1, 0, 1, 1, 1, 0, 1, 1, 1, 1, 1, 1, 1, 1, 1, 1, 1, 0, 0] (kfin Try.prog Try.f45.results.toList Q)) ?_)
  exact rule (B := 1000) (N := 192) (ct := .no)
    [⟨0, fun a M => dfr a.defers (P_r4_Split_6 (a.get 0) (a.get 3) (a.get 4) (a.get 5) (a.get 6) (a.get 7) (a.get 8) (a.get 10) (a.get 15) M Q), fun a M => At Try.prog Ex none Try.f45 [1, 1, 1, 1, 0, 1, 0, 0, 1, 0, 1, 1, 1, 0, 1, 1, 1, 1, 1, 1, 1, 1, 1, 1, 1, 0, 0] a M Q⟩,
    ⟨5, fun a M => dfr a.defers (P_r4_Split_7 (a.get 0) (a.get 3) (a.get 4) (a.get 5) (a.get 6) (a.get 7) (a.get 8) (a.get 10) (a.get 15) M Q), fun a M => At Try.prog Ex none Try.f45 [1, 1, 1, 1, 0, 1, 0, 0, 1, 0, 1, 1, 1, 0, 1, 1, 1, 1, 1, 1, 1, 1, 1, 1, 1, 1] a M Q⟩]
    [] [0, 5] (by kernel_rfl) (by kernel_rfl) (by kernel_rfl) (by kernel_rfl) (by kernel_rfl)
    ⟨fun a M hn h => by obtain ⟨⟨n, f⟩, ds⟩ := a; have hn : n = 192 := hn; subst hn; obtain ⟨hd, h⟩ := dfr_iff h; have hd : ds = [] := hd; subst hd; exact h f rfl rfl rfl rfl rfl rfl rfl rfl rfl,
    fun a M hn h => by obtain ⟨⟨n, f⟩, ds⟩ := a; have hn : n = 192 := hn; subst hn; obtain ⟨hd, h⟩ := dfr_iff h; have hd : ds = [] := hd; subst hd; exact h f rfl rfl rfl rfl rfl rfl rfl rfl rfl,
    trivial⟩
    (cast (by kernel_rfl) h)
def S_r4_Split_7 (x0 x3 x4 x5 x6 x7 x8 x10 x15 : Value) (M : Store) (Q : KP) : Prop :=
  OP (slV 1 Ty.uint8 x0 (some x8) (some x15) M) fun t92 =>
  OP (cvBS t92 M) fun t93 =>
  OP (fad 0 x10) fun t94 =>
  OP (st 1 t94 t93 M) fun M1 =>
  OP (fad 0 x10) fun t95 =>
  OP (ld 1 false t95 M1) fun t96 =>
  OP (lenS t96) fun t97 =>
  OP (binI .gtr t97 (.int .i64 64)) fun t98 =>
  BR t98 (
  OP (binI .sub x8 x7) fun t102 =>
  OP (binI .add t102 (.int .i64 1)) fun t103 =>
  R F.r4_fault #[(.int .i64 3), x6, t103] M1 fun t104 M2 =>
  OP (st 3 x3 t104 M2) fun M3 =>
  OP (ld 3 true x3 M3) fun r3 =>
  NTs [(.slice none 0 0), r3] ∧ Q (.tuple #[(.slice none 0 0), r3]) M3
  ) (
  OP (ld 4 true x10 M1) fun t106 =>
  OP (bldL (.agg #[(.string ⟨#[]⟩), (.int .i64 0), (.int .i64 0), (.bool false)]) 4 1 [(0, t106)]) fun c =>
  LT (.slice (some ⟨M1.n, 0, none⟩) 1 1) (M1.push (some (.inl (c, Ty.api_Word, true)))) fun t107 M4 =>
  OP2 (appV 4 Ty.api_Word x5 t107 M4) fun t108 M5 =>
  P_r4_Split_1 x0 x3 x4 t108 x6 x7 x15 M5 Q
  )
theorem T_r4_Split_7 {x0 x3 x4 x5 x6 x7 x8 x10 x15 : Value} {M : Store} {Q : KP} (h : S_r4_Split_7 x0 x3 x4 x5 x6 x7 x8 x10 x15 M Q) : P_r4_Split_7 x0 x3 x4 x5 x6 x7 x8 x10 x15 M Q := by
  intro f h0 h3 h4 h5 h6 h7 h8 h10 h15; subst h0; subst h3; subst h4; subst h5; subst h6; subst h7; subst h8; subst h10; subst h15
  unfold At
  exact rule (B := 1000) (N := 192) (ct := .no)
    [⟨0, fun a M => dfr a.defers (P_r4_Split_1 (a.get 0) (a.get 3) (a.get 4) (a.get 5) (a.get 6) (a.get 7) (a.get 8) M Q), fun a M => At Try.prog Ex none Try.f45 [1, 1, 1, 1, 0, 1, 0] a M Q⟩,
    ⟨1, fun a M => kfin Try.prog Try.f45.results.toList Q 1 a M, fun a M => kfin Try.prog Try.f45.results.toList Q 1 a M⟩]
    [] [0, 1] (by kernel_rfl) (by kernel_rfl) (by kernel_rfl) (by kernel_rfl) (by kernel_rfl)
    ⟨fun a M hn h => by obtain ⟨⟨n, f⟩, ds⟩ := a; have hn : n = 192 := hn; subst hn; obtain ⟨hd, h⟩ := dfr_iff h; have hd : ds = [] := hd; subst hd; exact h f rfl rfl rfl rfl rfl rfl rfl,
    fun _ _ _ h => h,
    trivial⟩
    (cast (by kernel_rfl) h)
def S_r4_fault (x0 x1 x2 : Value) (M : Store) (Q : KP) : Prop :=
  LT (.pointer (some ⟨M.n, 0, none⟩)) (M.push (some (.inl ([(.int .i64 0), (.int .i64 0), (.int .i64 0)], Ty.api_Fault, true)))) fun t6 M1 =>
  OP (bldS #[(.int .i64 0), (.int .i64 0), (.int .i64 0)] [(0, 1), (1, 1), (2, 1)] [(0, x0), (1, x1), (2, x2)]) fun t10 =>
  OP (st 3 t6 t10 M1) fun M2 =>
  OP (ld 3 true t6 M2) fun r6 =>
  NTs [r6] ∧ Q r6 M2
theorem T_r4_fault {x0 x1 x2 : Value} {M : Store} {Q : KP} (h : S_r4_fault x0 x1 x2 M Q) : R F.r4_fault #[x0, x1, x2] M Q := by
  refine runs_of (c := bodyOf Try.f49) Try.func49 rfl (by kernel_rfl) (by kernel_rfl) ?_
  unfold At
  exact rule (B := 1000) (N := 11) (ct := .no)
    [⟨1, fun a M => kfin Try.prog Try.f49.results.toList Q 1 a M, fun a M => kfin Try.prog Try.f49.results.toList Q 1 a M⟩]
    [] [1] (by kernel_rfl) (by kernel_rfl) (by kernel_rfl) (by kernel_rfl) (by kernel_rfl)
    ⟨fun _ _ _ h => h,
    trivial⟩
    (cast (by kernel_rfl) h)
def S_r4_sign (x0 : Value) (M : Store) (Q : KP) : Prop :=
  OP (binI .eql x0 (.int .u8 58)) fun t4 =>
  BR t4 (
  NTs [(.bool true)] ∧ Q (.bool true) M
  ) (
  OP (binI .eql x0 (.int .u8 124)) fun t7 =>
  BR t7 (
  NTs [(.bool true)] ∧ Q (.bool true) M
  ) (
  OP (binI .eql x0 (.int .u8 61)) fun t11 =>
  BR t11 (
  NTs [(.bool true)] ∧ Q (.bool true) M
  ) (
  OP (binI .eql x0 (.int .u8 59)) fun t15 =>
  BR t15 (
  NTs [(.bool true)] ∧ Q (.bool true) M
  ) (
  OP (binI .eql x0 (.int .u8 44)) fun t19 =>
  NTs [t19] ∧ Q t19 M
  )
  )
  )
  )
theorem T_r4_sign {x0 : Value} {M : Store} {Q : KP} (h : S_r4_sign x0 M Q) : R F.r4_sign #[x0] M Q := by
  refine runs_of (c := bodyOf Try.f62) Try.func62 rfl (by kernel_rfl) (by kernel_rfl) ?_
  unfold At
  exact rule (B := 1000) (N := 21) (ct := .no)
    [⟨1, fun a M => kfin Try.prog Try.f62.results.toList Q 1 a M, fun a M => kfin Try.prog Try.f62.results.toList Q 1 a M⟩]
    [] [1] (by kernel_rfl) (by kernel_rfl) (by kernel_rfl) (by kernel_rfl) (by kernel_rfl)
    ⟨fun _ _ _ h => h,
    trivial⟩
    (cast (by kernel_rfl) h)
def P_r4_quoted_1 (x0 x1 x5 x6 x10 x11 : Value) (M : Store) (Q : KP) : Prop :=
  ∀ f : Nat → Value, f 0 = x0 → f 1 = x1 → f 5 = x5 → f 6 = x6 → f 10 = x10 → f 11 = x11 → At Try.prog Ex none Try.f63 [1, 1, 0, 0] ⟨⟨87, f⟩, []⟩ M Q
def P_r4_quoted_2 (x0 x1 x5 x6 x10 x11 : Value) (M : Store) (Q : KP) : Prop :=
  ∀ f : Nat → Value, f 0 = x0 → f 1 = x1 → f 5 = x5 → f 6 = x6 → f 10 = x10 → f 11 = x11 → At Try.prog Ex none Try.f63 [1, 1, 0, 0, 0, 1] ⟨⟨87, f⟩, []⟩ M Q
def P_r4_quoted_3 (x0 x1 x5 x6 x10 x11 : Value) (M : Store) (Q : KP) : Prop :=
  ∀ f : Nat → Value, f 0 = x0 → f 1 = x1 → f 5 = x5 → f 6 = x6 → f 10 = x10 → f 11 = x11 → At Try.prog Ex none Try.f63 [1, 1, 1] ⟨⟨87, f⟩, []⟩ M Q
def S_r4_quoted (x0 x1 x2 : Value) (M : Store) (Q : KP) : Prop :=
  OP (boxv x2) fun c =>
  LT (.pointer (some ⟨M.n, 0, none⟩)) (M.push (some (.inl (c, Ty.api_Word, true)))) fun t5 M1 =>
  LT (.pointer (some ⟨M1.n, 0, none⟩)) (M1.push (some (.inl ([(.string ⟨#[]⟩), (.int .i64 0), (.int .i64 0), (.bool false)], Ty.api_Word, true)))) fun t6 M2 =>
  OP (binI .add x1 (.int .i64 1)) fun t13 =>
  P_r4_quoted_1 x0 x1 t5 t6 t13 (.int .i64 (-1)) M2 Q
theorem T_r4_quoted {x0 x1 x2 : Value} {M : Store} {Q : KP} (h : S_r4_quoted x0 x1 x2 M Q) : R F.r4_quoted #[x0, x1, x2] M Q := by
  refine runs_of (c := bodyOf Try.f63) Try.func63 rfl (by kernel_rfl) (by kernel_rfl) ?_
  unfold At
  exact rule (B := 1000) (N := 87) (ct := (.two .no (.two .no (.two (.two (.here 1000) .no) (.here 1001)))))
    [⟨1002, fun a M => dfr a.defers (P_r4_quoted_1 (a.get 0) (a.get 1) (a.get 5) (a.get 6) (a.get 10) (a.get 11) M Q), fun a M => At Try.prog Ex none Try.f63 [1, 1, 0, 0] a M Q⟩,
    ⟨1003, fun _ _ => False, fun a M => At Try.prog Ex none Try.f63 [1, 1, 1] a M Q⟩]
    [1000, 1001] [] (by kernel_rfl) (by kernel_rfl) (by kernel_rfl) (by kernel_rfl) (by kernel_rfl)
    ⟨fun a M hn h => by obtain ⟨⟨n, f⟩, ds⟩ := a; have hn : n = 87 := hn; subst hn; obtain ⟨hd, h⟩ := dfr_iff h; have hd : ds = [] := hd; subst hd; exact h f rfl rfl rfl rfl rfl rfl,
    fun _ _ _ h => h.elim,
    trivial⟩
    (cast (by kernel_rfl) h)
def S_r4_quoted_1 (x0 x1 x5 x6 x10 x11 : Value) (M : Store) (Q : KP) : Prop :=
  OP (lenV x0) fun t16 =>
  OP (binI .lss x10 t16) fun t17 =>
  BR t17 (
  OP (ixA 1 x0 x10) fun t21 =>
  OP (ld 1 false t21 M) fun t22 =>
  OP (binI .neq t22 (.int .u8 34)) fun t23 =>
  BR t23 (
  OP (ixA 1 x0 x10) fun t28 =>
  OP (ld 1 false t28 M) fun t29 =>
  OP (binI .neq t29 (.int .u8 10)) fun t30 =>
  BR t30 (
  P_r4_quoted_2 x0 x1 x5 x6 x10 x11 M Q
  ) (
  P_r4_quoted_3 x0 x1 x5 x6 x10 x11 M Q
  )
  ) (
  P_r4_quoted_3 x0 x1 x5 x6 x10 x11 M Q
  )
  ) (
  P_r4_quoted_3 x0 x1 x5 x6 x10 x11 M Q
  )
theorem T_r4_quoted_1 {x0 x1 x5 x6 x10 x11 : Value} {M : Store} {Q : KP} (h : S_r4_quoted_1 x0 x1 x5 x6 x10 x11 M Q) : P_r4_quoted_1 x0 x1 x5 x6 x10 x11 M Q := by
  intro f h0 h1 h5 h6 h10 h11; subst h0; subst h1; subst h5; subst h6; subst h10; subst h11
  unfold At
  refine cast (by kernel_rfl) (CW.loop (P := Try.prog) (E := Ex) (rd := none) (x := sub (bodyOf Try.f63) [1, 1, 0, 0, 0]) (a := ⟨⟨87, f⟩, []⟩) (M := M) (K := kcont Try.prog Ex none (bodyOf Try.f63) [1, 1, 0, 0] (kfin Try.prog Try.f63.results.toList Q)) ?_)
  exact rule (B := 1000) (N := 87) (ct := (.two .no (.here 1000)))
    [⟨1002, fun a M => dfr a.defers (P_r4_quoted_2 (a.get 0) (a.get 1) (a.get 5) (a.get 6) (a.get 10) (a.get 11) M Q), fun a M => At Try.prog Ex none Try.f63 [1, 1, 0, 0, 0, 1] a M Q⟩,
    ⟨2, fun a M => dfr a.defers (P_r4_quoted_3 (a.get 0) (a.get 1) (a.get 5) (a.get 6) (a.get 10) (a.get 11) M Q), fun a M => At Try.prog Ex none Try.f63 [1, 1, 1] a M Q⟩]
    [1000] [2] (by kernel_rfl) (by kernel_rfl) (by kernel_rfl) (by kernel_rfl) (by kernel_rfl)
    ⟨fun a M hn h => by obtain ⟨⟨n, f⟩, ds⟩ := a; have hn : n = 87 := hn; subst hn; obtain ⟨hd, h⟩ := dfr_iff h; have hd : ds = [] := hd; subst hd; exact h f rfl rfl rfl rfl rfl rfl,
    fun a M hn h => by obtain ⟨⟨n, f⟩, ds⟩ := a; have hn : n = 87 := hn; subst hn; obtain ⟨hd, h⟩ := dfr_iff h; have hd : ds = [] := hd; subst hd; exact h f rfl rfl rfl rfl rfl rfl,
    trivial⟩
    (cast (by kernel_rfl) h)
def S_r4_quoted_2 (x0 x1 x5 x6 x10 x11 : Value) (M : Store) (Q : KP) : Prop :=
  OP (binI .lss x11 (.int .i64 0)) fun t33 =>
  BR t33 (
  OP (ixA 1 x0 x10) fun t37 =>
  OP (ld 1 false t37 M) fun t38 =>
  OP (binI .lss t38 (.int .u8 32)) fun t39 =>
  BR3 t39 (
  OP (binI .add x10 (.int .i64 1)) fun t50 =>
  P_r4_quoted_1 x0 x1 x5 x6 t50 x10 M Q
  ) (
  OP (ixA 1 x0 x10) fun t43 =>
  OP (ld 1 false t43 M) fun t44 =>
  OP (binI .gtr t44 (.int .u8 126)) fun t45 =>
  BR t45 (
  OP (binI .add x10 (.int .i64 1)) fun t50_1 =>
  P_r4_quoted_1 x0 x1 x5 x6 t50_1 x10 M Q
  ) (
  OP (binI .add x10 (.int .i64 1)) fun t50_2 =>
  P_r4_quoted_1 x0 x1 x5 x6 t50_2 x11 M Q
  )
  ) (
  BR t39 (
  OP (binI .add x10 (.int .i64 1)) fun t50_3 =>
  P_r4_quoted_1 x0 x1 x5 x6 t50_3 x10 M Q
  ) (
  BR undef (
  OP (binI .add x10 (.int .i64 1)) fun t50_4 =>
  P_r4_quoted_1 x0 x1 x5 x6 t50_4 x10 M Q
  ) (
  OP (binI .add x10 (.int .i64 1)) fun t50_5 =>
  P_r4_quoted_1 x0 x1 x5 x6 t50_5 x11 M Q
  )
  )
  )
  ) (
  OP (binI .add x10 (.int .i64 1)) fun t50_6 =>
  P_r4_quoted_1 x0 x1 x5 x6 t50_6 x11 M Q
  )
theorem T_r4_quoted_2 {x0 x1 x5 x6 x10 x11 : Value} {M : Store} {Q : KP} (h : S_r4_quoted_2 x0 x1 x5 x6 x10 x11 M Q) : P_r4_quoted_2 x0 x1 x5 x6 x10 x11 M Q := by
  intro f h0 h1 h5 h6 h10 h11; subst h0; subst h1; subst h5; subst h6; subst h10; subst h11
  unfold At
  exact rule (B := 1000) (N := 87) (ct := .no)
    [⟨0, fun a M => dfr a.defers (P_r4_quoted_1 (a.get 0) (a.get 1) (a.get 5) (a.get 6) (a.get 10) (a.get 11) M Q), fun a M => At Try.prog Ex none Try.f63 [1, 1, 0, 0] a M Q⟩]
    [] [0] (by kernel_rfl) (by kernel_rfl) (by kernel_rfl) (by kernel_rfl) (by kernel_rfl)
    ⟨fun a M hn h => by obtain ⟨⟨n, f⟩, ds⟩ := a; have hn : n = 87 := hn; subst hn; obtain ⟨hd, h⟩ := dfr_iff h; have hd : ds = [] := hd; subst hd; exact h f rfl rfl rfl rfl rfl rfl,
    trivial⟩
    (cast (by kernel_rfl) h)
def S_r4_quoted_3 (x0 x1 x5 x6 x10 x11 : Value) (M : Store) (Q : KP) : Prop :=
  OP (lenV x0) fun t53 =>
  OP (binI .eql x10 t53) fun t54 =>
  BR t54 (
  OP (ld 4 true x5 M) fun t62 =>
  OP (st 4 x6 t62 M) fun M1 =>
  OP (ld 4 true x6 M1) fun r6 =>
  NTs [r6, (.int .i64 0), (.int .i64 2), x1] ∧ Q (.tuple #[r6, (.int .i64 0), (.int .i64 2), x1]) M1
  ) (
  OP (ixA 1 x0 x10) fun t58 =>
  OP (ld 1 false t58 M) fun t59 =>
  OP (binI .eql t59 (.int .u8 10)) fun t60 =>
  BR t60 (
  OP (ld 4 true x5 M) fun t62_1 =>
  OP (st 4 x6 t62_1 M) fun M2 =>
  OP (ld 4 true x6 M2) fun r6_1 =>
  NTs [r6_1, (.int .i64 0), (.int .i64 2), x1] ∧ Q (.tuple #[r6_1, (.int .i64 0), (.int .i64 2), x1]) M2
  ) (
  OP (binI .add x1 (.int .i64 1)) fun t66 =>
  OP (slV 1 Ty.uint8 x0 (some t66) (some x10) M) fun t68 =>
  OP (cvBS t68 M) fun t69 =>
  OP (fad 0 x5) fun t70 =>
  OP (st 1 t70 t69 M) fun M3 =>
  OP (fad 3 x5) fun t71 =>
  OP (st 1 t71 (.bool true) M3) fun M4 =>
  OP (fad 0 x5) fun t73 =>
  OP (ld 1 false t73 M4) fun t74 =>
  OP (lenS t74) fun t75 =>
  OP (binI .gtr t75 (.int .i64 64)) fun t76 =>
  BR t76 (
  OP (ld 4 true x5 M4) fun t77 =>
  OP (st 4 x6 t77 M4) fun M5 =>
  OP (ld 4 true x6 M5) fun r6_2 =>
  NTs [r6_2, (.int .i64 0), (.int .i64 3), x1] ∧ Q (.tuple #[r6_2, (.int .i64 0), (.int .i64 3), x1]) M5
  ) (
  OP (binI .geq x11 (.int .i64 0)) fun t81 =>
  BR t81 (
  OP (ld 4 true x5 M4) fun t82 =>
  OP (st 4 x6 t82 M4) fun M6 =>
  OP (ld 4 true x6 M6) fun r6_3 =>
  NTs [r6_3, (.int .i64 0), (.int .i64 1), x11] ∧ Q (.tuple #[r6_3, (.int .i64 0), (.int .i64 1), x11]) M6
  ) (
  OP (ld 4 true x5 M4) fun t84 =>
  OP (binI .add x10 (.int .i64 1)) fun t86 =>
  OP (st 4 x6 t84 M4) fun M7 =>
  OP (ld 4 true x6 M7) fun r6_4 =>
  NTs [r6_4, t86, (.int .i64 0), (.int .i64 0)] ∧ Q (.tuple #[r6_4, t86, (.int .i64 0), (.int .i64 0)]) M7
  )
  )
  )
  )
theorem T_r4_quoted_3 {x0 x1 x5 x6 x10 x11 : Value} {M : Store} {Q : KP} (h : S_r4_quoted_3 x0 x1 x5 x6 x10 x11 M Q) : P_r4_quoted_3 x0 x1 x5 x6 x10 x11 M Q := by
  intro f h0 h1 h5 h6 h10 h11; subst h0; subst h1; subst h5; subst h6; subst h10; subst h11
  unfold At
  exact rule (B := 1000) (N := 87) (ct := .no)
    [⟨1, fun a M => kfin Try.prog Try.f63.results.toList Q 1 a M, fun a M => kfin Try.prog Try.f63.results.toList Q 1 a M⟩]
    [] [1] (by kernel_rfl) (by kernel_rfl) (by kernel_rfl) (by kernel_rfl) (by kernel_rfl)
    ⟨fun _ _ _ h => h,
    trivial⟩
    (cast (by kernel_rfl) h)
end Go.G

open Go.RowKit
namespace Go.G
open Go.Ab Go.Proofs
set_option linter.unusedVariables false
set_option maxRecDepth 100000
def P_r4_Ok_1 (x0 x3 : Value) (M : Store) (Q : KP) : Prop :=
  ∀ f : Nat → Value, f 0 = x0 → f 3 = x3 → At Try.prog Ex none Try.f82 [1, 0, 1, 0] ⟨⟨49, f⟩, []⟩ M Q
def P_r4_Ok_2 (x0 x3 : Value) (M : Store) (Q : KP) : Prop :=
  ∀ f : Nat → Value, f 0 = x0 → f 3 = x3 → At Try.prog Ex none Try.f82 [1, 0, 1, 0, 0, 1] ⟨⟨49, f⟩, []⟩ M Q
def P_r4_Ok_3 (x0 : Value) (M : Store) (Q : KP) : Prop :=
  ∀ f : Nat → Value, f 0 = x0 → At Try.prog Ex none Try.f82 [1, 1] ⟨⟨49, f⟩, []⟩ M Q
def S_r4_Ok (x0 : Value) (M : Store) (Q : KP) : Prop :=
  P_r4_Ok_1 x0 (.int .i64 0) M Q
theorem T_r4_Ok {x0 : Value} {M : Store} {Q : KP} (h : S_r4_Ok x0 M Q) : R F.r4_Ok #[x0] M Q := by
  refine runs_of (c := bodyOf Try.f82) Try.func82 rfl (by kernel_rfl) (by kernel_rfl) ?_
  unfold At
  exact rule (B := 1000) (N := 49) (ct := (.two .no (.two (.two .no (.two (.here 1000) .no)) (.here 1001))))
    [⟨1002, fun a M => dfr a.defers (P_r4_Ok_1 (a.get 0) (a.get 3) M Q), fun a M => At Try.prog Ex none Try.f82 [1, 0, 1, 0] a M Q⟩,
    ⟨1003, fun _ _ => False, fun a M => At Try.prog Ex none Try.f82 [1, 1] a M Q⟩]
    [1000, 1001] [] (by kernel_rfl) (by kernel_rfl) (by kernel_rfl) (by kernel_rfl) (by kernel_rfl)
    ⟨fun a M hn h => by obtain ⟨⟨n, f⟩, ds⟩ := a; have hn : n = 49 := hn; subst hn; obtain ⟨hd, h⟩ := dfr_iff h; have hd : ds = [] := hd; subst hd; exact h f rfl rfl,
    fun _ _ _ h => h.elim,
    trivial⟩
    (cast (by kernel_rfl) h)
def S_r4_Ok_1 (x0 x3 : Value) (M : Store) (Q : KP) : Prop :=
  OP (lenS x0) fun t7 =>
  OP (binI .lss x3 t7) fun t8 =>
  BR t8 (
  P_r4_Ok_2 x0 x3 M Q
  ) (
  P_r4_Ok_3 x0 M Q
  )
theorem T_r4_Ok_1 {x0 x3 : Value} {M : Store} {Q : KP} (h : S_r4_Ok_1 x0 x3 M Q) : P_r4_Ok_1 x0 x3 M Q := by
  intro f h0 h3; subst h0; subst h3
  unfold At
  refine cast (by kernel_rfl) (CW.loop (P := Try.prog) (E := Ex) (rd := none) (x := sub (bodyOf Try.f82) [1, 0, 1, 0, 0]) (a := ⟨⟨49, f⟩, []⟩) (M := M) (K := kcont Try.prog Ex none (bodyOf Try.f82) [1, 0, 1, 0] (kfin Try.prog Try.f82.results.toList Q)) ?_)
  exact rule (B := 1000) (N := 49) (ct := (.two .no (.here 1000)))
    [⟨1002, fun a M => dfr a.defers (P_r4_Ok_2 (a.get 0) (a.get 3) M Q), fun a M => At Try.prog Ex none Try.f82 [1, 0, 1, 0, 0, 1] a M Q⟩,
    ⟨2, fun a M => dfr a.defers (P_r4_Ok_3 (a.get 0) M Q), fun a M => At Try.prog Ex none Try.f82 [1, 1] a M Q⟩]
    [1000] [2] (by kernel_rfl) (by kernel_rfl) (by kernel_rfl) (by kernel_rfl) (by kernel_rfl)
    ⟨fun a M hn h => by obtain ⟨⟨n, f⟩, ds⟩ := a; have hn : n = 49 := hn; subst hn; obtain ⟨hd, h⟩ := dfr_iff h; have hd : ds = [] := hd; subst hd; exact h f rfl rfl,
    fun a M hn h => by obtain ⟨⟨n, f⟩, ds⟩ := a; have hn : n = 49 := hn; subst hn; obtain ⟨hd, h⟩ := dfr_iff h; have hd : ds = [] := hd; subst hd; exact h f rfl,
    trivial⟩
    (cast (by kernel_rfl) h)
def S_r4_Ok_2 (x0 x3 : Value) (M : Store) (Q : KP) : Prop :=
  OP (ixS x0 x3) fun t13 =>
  OP (binI .geq t13 (.int .u8 97)) fun t15 =>
  BR t15 (
  OP (binI .leq t13 (.int .u8 122)) fun t18 =>
  BR t18 (
  OP (aun .not (.bool true)) fun t40 =>
  BR t40 (
  NTs [(.bool false)] ∧ Q (.bool false) M
  ) (
  OP (binI .add x3 (.int .i64 1)) fun t10 =>
  P_r4_Ok_1 x0 t10 M Q
  )
  ) (
  OP (binI .geq t13 (.int .u8 48)) fun t22 =>
  BR3 t22 (
  OP (binI .leq t13 (.int .u8 57)) fun t25 =>
  BR t25 (
  OP (aun .not (.bool true)) fun t40_1 =>
  BR t40_1 (
  NTs [(.bool false)] ∧ Q (.bool false) M
  ) (
  OP (binI .add x3 (.int .i64 1)) fun t10_1 =>
  P_r4_Ok_1 x0 t10_1 M Q
  )
  ) (
  OP (binI .eql t13 (.int .u8 46)) fun t30 =>
  BR t30 (
  OP (aun .not (.bool true)) fun t40_2 =>
  BR t40_2 (
  NTs [(.bool false)] ∧ Q (.bool false) M
  ) (
  OP (binI .add x3 (.int .i64 1)) fun t10_2 =>
  P_r4_Ok_1 x0 t10_2 M Q
  )
  ) (
  OP (binI .eql t13 (.int .u8 45)) fun t34 =>
  BR t34 (
  OP (aun .not (.bool true)) fun t40_3 =>
  BR t40_3 (
  NTs [(.bool false)] ∧ Q (.bool false) M
  ) (
  OP (binI .add x3 (.int .i64 1)) fun t10_3 =>
  P_r4_Ok_1 x0 t10_3 M Q
  )
  ) (
  OP (binI .eql t13 (.int .u8 95)) fun t38 =>
  OP (aun .not t38) fun t40_4 =>
  BR t40_4 (
  NTs [(.bool false)] ∧ Q (.bool false) M
  ) (
  OP (binI .add x3 (.int .i64 1)) fun t10_4 =>
  P_r4_Ok_1 x0 t10_4 M Q
  )
  )
  )
  )
  ) (
  OP (binI .eql t13 (.int .u8 46)) fun t30_1 =>
  BR t30_1 (
  OP (aun .not (.bool true)) fun t40_5 =>
  BR t40_5 (
  NTs [(.bool false)] ∧ Q (.bool false) M
  ) (
  OP (binI .add x3 (.int .i64 1)) fun t10_5 =>
  P_r4_Ok_1 x0 t10_5 M Q
  )
  ) (
  OP (binI .eql t13 (.int .u8 45)) fun t34_1 =>
  BR t34_1 (
  OP (aun .not (.bool true)) fun t40_6 =>
  BR t40_6 (
  NTs [(.bool false)] ∧ Q (.bool false) M
  ) (
  OP (binI .add x3 (.int .i64 1)) fun t10_6 =>
  P_r4_Ok_1 x0 t10_6 M Q
  )
  ) (
  OP (binI .eql t13 (.int .u8 95)) fun t38_1 =>
  OP (aun .not t38_1) fun t40_7 =>
  BR t40_7 (
  NTs [(.bool false)] ∧ Q (.bool false) M
  ) (
  OP (binI .add x3 (.int .i64 1)) fun t10_7 =>
  P_r4_Ok_1 x0 t10_7 M Q
  )
  )
  )
  ) (
  BR t22 (
  BR undef (
  OP (aun .not (.bool true)) fun t40_8 =>
  BR t40_8 (
  NTs [(.bool false)] ∧ Q (.bool false) M
  ) (
  OP (binI .add x3 (.int .i64 1)) fun t10_8 =>
  P_r4_Ok_1 x0 t10_8 M Q
  )
  ) (
  OP (binI .eql t13 (.int .u8 46)) fun t30_2 =>
  BR t30_2 (
  OP (aun .not (.bool true)) fun t40_9 =>
  BR t40_9 (
  NTs [(.bool false)] ∧ Q (.bool false) M
  ) (
  OP (binI .add x3 (.int .i64 1)) fun t10_9 =>
  P_r4_Ok_1 x0 t10_9 M Q
  )
  ) (
  OP (binI .eql t13 (.int .u8 45)) fun t34_2 =>
  BR t34_2 (
  OP (aun .not (.bool true)) fun t40_10 =>
  BR t40_10 (
  NTs [(.bool false)] ∧ Q (.bool false) M
  ) (
  OP (binI .add x3 (.int .i64 1)) fun t10_10 =>
  P_r4_Ok_1 x0 t10_10 M Q
  )
  ) (
  OP (binI .eql t13 (.int .u8 95)) fun t38_2 =>
  OP (aun .not t38_2) fun t40_11 =>
  BR t40_11 (
  NTs [(.bool false)] ∧ Q (.bool false) M
  ) (
  OP (binI .add x3 (.int .i64 1)) fun t10_11 =>
  P_r4_Ok_1 x0 t10_11 M Q
  )
  )
  )
  )
  ) (
  OP (binI .eql t13 (.int .u8 46)) fun t30_3 =>
  BR t30_3 (
  OP (aun .not (.bool true)) fun t40_12 =>
  BR t40_12 (
  NTs [(.bool false)] ∧ Q (.bool false) M
  ) (
  OP (binI .add x3 (.int .i64 1)) fun t10_12 =>
  P_r4_Ok_1 x0 t10_12 M Q
  )
  ) (
  OP (binI .eql t13 (.int .u8 45)) fun t34_3 =>
  BR t34_3 (
  OP (aun .not (.bool true)) fun t40_13 =>
  BR t40_13 (
  NTs [(.bool false)] ∧ Q (.bool false) M
  ) (
  OP (binI .add x3 (.int .i64 1)) fun t10_13 =>
  P_r4_Ok_1 x0 t10_13 M Q
  )
  ) (
  OP (binI .eql t13 (.int .u8 95)) fun t38_3 =>
  OP (aun .not t38_3) fun t40_14 =>
  BR t40_14 (
  NTs [(.bool false)] ∧ Q (.bool false) M
  ) (
  OP (binI .add x3 (.int .i64 1)) fun t10_14 =>
  P_r4_Ok_1 x0 t10_14 M Q
  )
  )
  )
  )
  )
  )
  ) (
  OP (binI .geq t13 (.int .u8 48)) fun t22_1 =>
  BR3 t22_1 (
  OP (binI .leq t13 (.int .u8 57)) fun t25_1 =>
  BR t25_1 (
  OP (aun .not (.bool true)) fun t40_15 =>
  BR t40_15 (
  NTs [(.bool false)] ∧ Q (.bool false) M
  ) (
  OP (binI .add x3 (.int .i64 1)) fun t10_15 =>
  P_r4_Ok_1 x0 t10_15 M Q
  )
  ) (
  OP (binI .eql t13 (.int .u8 46)) fun t30_4 =>
  BR t30_4 (
  OP (aun .not (.bool true)) fun t40_16 =>
  BR t40_16 (
  NTs [(.bool false)] ∧ Q (.bool false) M
  ) (
  OP (binI .add x3 (.int .i64 1)) fun t10_16 =>
  P_r4_Ok_1 x0 t10_16 M Q
  )
  ) (
  OP (binI .eql t13 (.int .u8 45)) fun t34_4 =>
  BR t34_4 (
  OP (aun .not (.bool true)) fun t40_17 =>
  BR t40_17 (
  NTs [(.bool false)] ∧ Q (.bool false) M
  ) (
  OP (binI .add x3 (.int .i64 1)) fun t10_17 =>
  P_r4_Ok_1 x0 t10_17 M Q
  )
  ) (
  OP (binI .eql t13 (.int .u8 95)) fun t38_4 =>
  OP (aun .not t38_4) fun t40_18 =>
  BR t40_18 (
  NTs [(.bool false)] ∧ Q (.bool false) M
  ) (
  OP (binI .add x3 (.int .i64 1)) fun t10_18 =>
  P_r4_Ok_1 x0 t10_18 M Q
  )
  )
  )
  )
  ) (
  OP (binI .eql t13 (.int .u8 46)) fun t30_5 =>
  BR t30_5 (
  OP (aun .not (.bool true)) fun t40_19 =>
  BR t40_19 (
  NTs [(.bool false)] ∧ Q (.bool false) M
  ) (
  OP (binI .add x3 (.int .i64 1)) fun t10_19 =>
  P_r4_Ok_1 x0 t10_19 M Q
  )
  ) (
  OP (binI .eql t13 (.int .u8 45)) fun t34_5 =>
  BR t34_5 (
  OP (aun .not (.bool true)) fun t40_20 =>
  BR t40_20 (
  NTs [(.bool false)] ∧ Q (.bool false) M
  ) (
  OP (binI .add x3 (.int .i64 1)) fun t10_20 =>
  P_r4_Ok_1 x0 t10_20 M Q
  )
  ) (
  OP (binI .eql t13 (.int .u8 95)) fun t38_5 =>
  OP (aun .not t38_5) fun t40_21 =>
  BR t40_21 (
  NTs [(.bool false)] ∧ Q (.bool false) M
  ) (
  OP (binI .add x3 (.int .i64 1)) fun t10_21 =>
  P_r4_Ok_1 x0 t10_21 M Q
  )
  )
  )
  ) (
  BR t22_1 (
  BR undef (
  OP (aun .not (.bool true)) fun t40_22 =>
  BR t40_22 (
  NTs [(.bool false)] ∧ Q (.bool false) M
  ) (
  OP (binI .add x3 (.int .i64 1)) fun t10_22 =>
  P_r4_Ok_1 x0 t10_22 M Q
  )
  ) (
  OP (binI .eql t13 (.int .u8 46)) fun t30_6 =>
  BR t30_6 (
  OP (aun .not (.bool true)) fun t40_23 =>
  BR t40_23 (
  NTs [(.bool false)] ∧ Q (.bool false) M
  ) (
  OP (binI .add x3 (.int .i64 1)) fun t10_23 =>
  P_r4_Ok_1 x0 t10_23 M Q
  )
  ) (
  OP (binI .eql t13 (.int .u8 45)) fun t34_6 =>
  BR t34_6 (
  OP (aun .not (.bool true)) fun t40_24 =>
  BR t40_24 (
  NTs [(.bool false)] ∧ Q (.bool false) M
  ) (
  OP (binI .add x3 (.int .i64 1)) fun t10_24 =>
  P_r4_Ok_1 x0 t10_24 M Q
  )
  ) (
  OP (binI .eql t13 (.int .u8 95)) fun t38_6 =>
  OP (aun .not t38_6) fun t40_25 =>
  BR t40_25 (
  NTs [(.bool false)] ∧ Q (.bool false) M
  ) (
  OP (binI .add x3 (.int .i64 1)) fun t10_25 =>
  P_r4_Ok_1 x0 t10_25 M Q
  )
  )
  )
  )
  ) (
  OP (binI .eql t13 (.int .u8 46)) fun t30_7 =>
  BR t30_7 (
  OP (aun .not (.bool true)) fun t40_26 =>
  BR t40_26 (
  NTs [(.bool false)] ∧ Q (.bool false) M
  ) (
  OP (binI .add x3 (.int .i64 1)) fun t10_26 =>
  P_r4_Ok_1 x0 t10_26 M Q
  )
  ) (
  OP (binI .eql t13 (.int .u8 45)) fun t34_7 =>
  BR t34_7 (
  OP (aun .not (.bool true)) fun t40_27 =>
  BR t40_27 (
  NTs [(.bool false)] ∧ Q (.bool false) M
  ) (
  OP (binI .add x3 (.int .i64 1)) fun t10_27 =>
  P_r4_Ok_1 x0 t10_27 M Q
  )
  ) (
  OP (binI .eql t13 (.int .u8 95)) fun t38_7 =>
  OP (aun .not t38_7) fun t40_28 =>
  BR t40_28 (
  NTs [(.bool false)] ∧ Q (.bool false) M
  ) (
  OP (binI .add x3 (.int .i64 1)) fun t10_28 =>
  P_r4_Ok_1 x0 t10_28 M Q
  )
  )
  )
  )
  )
  )
theorem T_r4_Ok_2 {x0 x3 : Value} {M : Store} {Q : KP} (h : S_r4_Ok_2 x0 x3 M Q) : P_r4_Ok_2 x0 x3 M Q := by
  intro f h0 h3; subst h0; subst h3
  unfold At
  exact rule (B := 1000) (N := 49) (ct := .no)
    [⟨0, fun a M => dfr a.defers (P_r4_Ok_1 (a.get 0) (a.get 3) M Q), fun a M => At Try.prog Ex none Try.f82 [1, 0, 1, 0] a M Q⟩,
    ⟨1, fun a M => kfin Try.prog Try.f82.results.toList Q 1 a M, fun a M => kfin Try.prog Try.f82.results.toList Q 1 a M⟩]
    [] [0, 1] (by kernel_rfl) (by kernel_rfl) (by kernel_rfl) (by kernel_rfl) (by kernel_rfl)
    ⟨fun a M hn h => by obtain ⟨⟨n, f⟩, ds⟩ := a; have hn : n = 49 := hn; subst hn; obtain ⟨hd, h⟩ := dfr_iff h; have hd : ds = [] := hd; subst hd; exact h f rfl rfl,
    fun _ _ _ h => h,
    trivial⟩
    (cast (by kernel_rfl) h)
def S_r4_Ok_3 (x0 : Value) (M : Store) (Q : KP) : Prop :=
  OP (lenS x0) fun t42 =>
  OP (binI .geq t42 (.int .i64 1)) fun t43 =>
  BR t43 (
  OP (lenS x0) fun t46 =>
  OP (binI .leq t46 (.int .i64 16)) fun t47 =>
  NTs [t47] ∧ Q t47 M
  ) (
  NTs [(.bool false)] ∧ Q (.bool false) M
  )
theorem T_r4_Ok_3 {x0 : Value} {M : Store} {Q : KP} (h : S_r4_Ok_3 x0 M Q) : P_r4_Ok_3 x0 M Q := by
  intro f h0; subst h0
  unfold At
  exact rule (B := 1000) (N := 49) (ct := .no)
    [⟨1, fun a M => kfin Try.prog Try.f82.results.toList Q 1 a M, fun a M => kfin Try.prog Try.f82.results.toList Q 1 a M⟩]
    [] [1] (by kernel_rfl) (by kernel_rfl) (by kernel_rfl) (by kernel_rfl) (by kernel_rfl)
    ⟨fun _ _ _ h => h,
    trivial⟩
    (cast (by kernel_rfl) h)
end Go.G

open Go.RowKit
namespace Go.G
open Go.Ab Go.Proofs
set_option linter.unusedVariables false
set_option maxRecDepth 100000
def S_r4_is (x0 x1 : Value) (M : Store) (Q : KP) : Prop :=
  OP (boxv x0) fun c =>
  LT (.pointer (some ⟨M.n, 0, none⟩)) (M.push (some (.inl (c, Ty.api_Word, true)))) fun t2 M1 =>
  OP (fad 0 t2) fun t5 =>
  OP (ld 1 false t5 M1) fun t6 =>
  OP (binS .eql t6 x1) fun t8 =>
  BR t8 (
  OP (fad 3 t2) fun t10 =>
  OP (ld 1 false t10 M1) fun t11 =>
  OP (aun .not t11) fun t12 =>
  NTs [t12] ∧ Q t12 M1
  ) (
  NTs [(.bool false)] ∧ Q (.bool false) M1
  )
theorem T_r4_is {x0 x1 : Value} {M : Store} {Q : KP} (h : S_r4_is x0 x1 M Q) : R F.r4_is #[x0, x1] M Q := by
  refine runs_of (c := bodyOf Try.f65) Try.func65 rfl (by kernel_rfl) (by kernel_rfl) ?_
  unfold At
  exact rule (B := 1000) (N := 14) (ct := .no)
    [⟨1, fun a M => kfin Try.prog Try.f65.results.toList Q 1 a M, fun a M => kfin Try.prog Try.f65.results.toList Q 1 a M⟩]
    [] [1] (by kernel_rfl) (by kernel_rfl) (by kernel_rfl) (by kernel_rfl) (by kernel_rfl)
    ⟨fun _ _ _ h => h,
    trivial⟩
    (cast (by kernel_rfl) h)
def P_r4_ParseAct_1 (x0 x4 x5 x6 : Value) (M : Store) (Q : KP) : Prop :=
  ∀ f : Nat → Value, f 0 = x0 → f 4 = x4 → f 5 = x5 → f 6 = x6 → At Try.prog Ex none Try.f86 [1, 1, 1, 0, 1, 0] ⟨⟨47, f⟩, []⟩ M Q
def P_r4_ParseAct_2 (x0 x4 x5 x6 : Value) (M : Store) (Q : KP) : Prop :=
  ∀ f : Nat → Value, f 0 = x0 → f 4 = x4 → f 5 = x5 → f 6 = x6 → At Try.prog Ex none Try.f86 [1, 1, 1, 0, 1, 0, 0, 1] ⟨⟨47, f⟩, []⟩ M Q
def P_r4_ParseAct_3 (x4 : Value) (M : Store) (Q : KP) : Prop :=
  ∀ f : Nat → Value, f 4 = x4 → At Try.prog Ex none Try.f86 [1, 1, 1, 1] ⟨⟨47, f⟩, []⟩ M Q
def P_r4_ParseAct_4 (x0 x4 x5 x6 : Value) (M : Store) (Q : KP) : Prop :=
  ∀ f : Nat → Value, f 0 = x0 → f 4 = x4 → f 5 = x5 → f 6 = x6 → At Try.prog Ex none Try.f86 [1, 1, 1, 0, 1, 0, 0, 1, 0, 0, 1] ⟨⟨47, f⟩, []⟩ M Q
def P_r4_ParseAct_5 (x0 x4 x5 x6 : Value) (M : Store) (Q : KP) : Prop :=
  ∀ f : Nat → Value, f 0 = x0 → f 4 = x4 → f 5 = x5 → f 6 = x6 → At Try.prog Ex none Try.f86 [1, 1, 1, 0, 1, 0, 0, 1, 1] ⟨⟨47, f⟩, []⟩ M Q
def S_r4_ParseAct (x0 : Value) (M : Store) (Q : KP) : Prop :=
  P_r4_ParseAct_1 x0 (.slice none 0 0) (.int .i64 0) (.int .i64 0) M Q
theorem T_r4_ParseAct {x0 : Value} {M : Store} {Q : KP} (h : S_r4_ParseAct x0 M Q) : R F.r4_ParseAct #[x0] M Q := by
  refine runs_of (c := bodyOf Try.f86) Try.func86 rfl (by kernel_rfl) (by kernel_rfl) ?_
  unfold At
  exact rule (B := 1000) (N := 47) (ct := (.two .no (.two .no (.two .no (.two (.two .no (.two (.here 1000) .no)) (.here 1001))))))
    [⟨1002, fun a M => dfr a.defers (P_r4_ParseAct_1 (a.get 0) (a.get 4) (a.get 5) (a.get 6) M Q), fun a M => At Try.prog Ex none Try.f86 [1, 1, 1, 0, 1, 0] a M Q⟩,
    ⟨1003, fun _ _ => False, fun a M => At Try.prog Ex none Try.f86 [1, 1, 1, 1] a M Q⟩]
    [1000, 1001] [] (by kernel_rfl) (by kernel_rfl) (by kernel_rfl) (by kernel_rfl) (by kernel_rfl)
    ⟨fun a M hn h => by obtain ⟨⟨n, f⟩, ds⟩ := a; have hn : n = 47 := hn; subst hn; obtain ⟨hd, h⟩ := dfr_iff h; have hd : ds = [] := hd; subst hd; exact h f rfl rfl rfl rfl,
    fun _ _ _ h => h.elim,
    trivial⟩
    (cast (by kernel_rfl) h)
def S_r4_ParseAct_1 (x0 x4 x5 x6 : Value) (M : Store) (Q : KP) : Prop :=
  OP (lenV x0) fun t11 =>
  OP (binI .leq x6 t11) fun t12 =>
  BR t12 (
  P_r4_ParseAct_2 x0 x4 x5 x6 M Q
  ) (
  P_r4_ParseAct_3 x4 M Q
  )
theorem T_r4_ParseAct_1 {x0 x4 x5 x6 : Value} {M : Store} {Q : KP} (h : S_r4_ParseAct_1 x0 x4 x5 x6 M Q) : P_r4_ParseAct_1 x0 x4 x5 x6 M Q := by
  intro f h0 h4 h5 h6; subst h0; subst h4; subst h5; subst h6
  unfold At
  refine cast (by kernel_rfl) (CW.loop (P := Try.prog) (E := Ex) (rd := none) (x := sub (bodyOf Try.f86) [1, 1, 1, 0, 1, 0, 0]) (a := ⟨⟨47, f⟩, []⟩) (M := M) (K := kcont Try.prog Ex none (bodyOf Try.f86) [1, 1, 1, 0, 1, 0] (kfin Try.prog Try.f86.results.toList Q)) ?_)
  exact rule (B := 1000) (N := 47) (ct := (.two .no (.here 1000)))
    [⟨1002, fun a M => dfr a.defers (P_r4_ParseAct_2 (a.get 0) (a.get 4) (a.get 5) (a.get 6) M Q), fun a M => At Try.prog Ex none Try.f86 [1, 1, 1, 0, 1, 0, 0, 1] a M Q⟩,
    ⟨2, fun a M => dfr a.defers (P_r4_ParseAct_3 (a.get 4) M Q), fun a M => At Try.prog Ex none Try.f86 [1, 1, 1, 1] a M Q⟩]
    [1000] [2] (by kernel_rfl) (by kernel_rfl) (by kernel_rfl) (by kernel_rfl) (by kernel_rfl)
    ⟨fun a M hn h => by obtain ⟨⟨n, f⟩, ds⟩ := a; have hn : n = 47 := hn; subst hn; obtain ⟨hd, h⟩ := dfr_iff h; have hd : ds = [] := hd; subst hd; exact h f rfl rfl rfl rfl,
    fun a M hn h => by obtain ⟨⟨n, f⟩, ds⟩ := a; have hn : n = 47 := hn; subst hn; obtain ⟨hd, h⟩ := dfr_iff h; have hd : ds = [] := hd; subst hd; exact h f rfl,
    trivial⟩
    (cast (by kernel_rfl) h)
def S_r4_ParseAct_2 (x0 x4 x5 x6 : Value) (M : Store) (Q : KP) : Prop :=
  OP (lenV x0) fun t17 =>
  OP (binI .lss x6 t17) fun t18 =>
  BR t18 (
  OP (ixA 4 x0 x6) fun t22 =>
  OP (ld 4 true t22 M) fun t23 =>
  R F.r4_is #[t23, (.string ⟨#[59]⟩)] M fun t24 M1 =>
  OP (aun .not t24) fun t25 =>
  BR t25 (
  P_r4_ParseAct_5 x0 x4 x5 x6 M1 Q
  ) (
  P_r4_ParseAct_4 x0 x4 x5 x6 M1 Q
  )
  ) (
  P_r4_ParseAct_4 x0 x4 x5 x6 M Q
  )
theorem T_r4_ParseAct_2 {x0 x4 x5 x6 : Value} {M : Store} {Q : KP} (h : S_r4_ParseAct_2 x0 x4 x5 x6 M Q) : P_r4_ParseAct_2 x0 x4 x5 x6 M Q := by
  intro f h0 h4 h5 h6; subst h0; subst h4; subst h5; subst h6
  unfold At
  exact rule (B := 1000) (N := 47) (ct := (.two (.two (.two .no (.here 1000)) .no) (.here 1001)))
    [⟨1002, fun a M => dfr a.defers (P_r4_ParseAct_4 (a.get 0) (a.get 4) (a.get 5) (a.get 6) M Q), fun a M => At Try.prog Ex none Try.f86 [1, 1, 1, 0, 1, 0, 0, 1, 0, 0, 1] a M Q⟩,
    ⟨1003, fun a M => dfr a.defers (P_r4_ParseAct_5 (a.get 0) (a.get 4) (a.get 5) (a.get 6) M Q), fun a M => At Try.prog Ex none Try.f86 [1, 1, 1, 0, 1, 0, 0, 1, 1] a M Q⟩]
    [1000, 1001] [] (by kernel_rfl) (by kernel_rfl) (by kernel_rfl) (by kernel_rfl) (by kernel_rfl)
    ⟨fun a M hn h => by obtain ⟨⟨n, f⟩, ds⟩ := a; have hn : n = 47 := hn; subst hn; obtain ⟨hd, h⟩ := dfr_iff h; have hd : ds = [] := hd; subst hd; exact h f rfl rfl rfl rfl,
    fun a M hn h => by obtain ⟨⟨n, f⟩, ds⟩ := a; have hn : n = 47 := hn; subst hn; obtain ⟨hd, h⟩ := dfr_iff h; have hd : ds = [] := hd; subst hd; exact h f rfl rfl rfl rfl,
    trivial⟩
    (cast (by kernel_rfl) h)
def S_r4_ParseAct_3 (x4 : Value) (M : Store) (Q : KP) : Prop :=
  R F.r4_OkAct #[x4] M fun t44 M1 =>
  OP (aun .not t44) fun t45 =>
  BR t45 (
  NTs [(.slice none 0 0), (.bool false)] ∧ Q (.tuple #[(.slice none 0 0), (.bool false)]) M1
  ) (
  NTs [x4, (.bool true)] ∧ Q (.tuple #[x4, (.bool true)]) M1
  )
theorem T_r4_ParseAct_3 {x4 : Value} {M : Store} {Q : KP} (h : S_r4_ParseAct_3 x4 M Q) : P_r4_ParseAct_3 x4 M Q := by
  intro f h4; subst h4
  unfold At
  exact rule (B := 1000) (N := 47) (ct := .no)
    [⟨1, fun a M => kfin Try.prog Try.f86.results.toList Q 1 a M, fun a M => kfin Try.prog Try.f86.results.toList Q 1 a M⟩]
    [] [1] (by kernel_rfl) (by kernel_rfl) (by kernel_rfl) (by kernel_rfl) (by kernel_rfl)
    ⟨fun _ _ _ h => h,
    trivial⟩
    (cast (by kernel_rfl) h)
def S_r4_ParseAct_4 (x0 x4 x5 x6 : Value) (M : Store) (Q : KP) : Prop :=
  OP (slV 4 Ty.api_Word x0 (some x5) (some x6) M) fun t31 =>
  R F.r4_one #[t31] M fun t32 M1 =>
  OP (tup t32 0) fun t33 =>
  OP (tup t32 1) fun t34 =>
  LT (.pointer (some ⟨M1.n, 0, none⟩)) (M1.push (some (.inl ([(.int .i64 0), (.int .i64 0), (.string ⟨#[]⟩)], Ty.api_Do, true)))) fun t7 M2 =>
  OP (st 3 t7 t33 M2) fun M3 =>
  OP (aun .not t34) fun t36 =>
  BR t36 (
  NTs [(.slice none 0 0), (.bool false)] ∧ Q (.tuple #[(.slice none 0 0), (.bool false)]) M3
  ) (
  OP (ld 3 true t7 M3) fun t38 =>
  OP (bldL (.agg #[(.int .i64 0), (.int .i64 0), (.string ⟨#[]⟩)]) 3 1 [(0, t38)]) fun c =>
  LT (.slice (some ⟨M3.n, 0, none⟩) 1 1) (M3.push (some (.inl (c, Ty.api_Do, true)))) fun t39 M4 =>
  OP2 (appV 3 Ty.api_Do x4 t39 M4) fun t40 M5 =>
  OP (binI .add x6 (.int .i64 1)) fun t42 =>
  P_r4_ParseAct_5 x0 t40 t42 x6 M5 Q
  )
theorem T_r4_ParseAct_4 {x0 x4 x5 x6 : Value} {M : Store} {Q : KP} (h : S_r4_ParseAct_4 x0 x4 x5 x6 M Q) : P_r4_ParseAct_4 x0 x4 x5 x6 M Q := by
  intro f h0 h4 h5 h6; subst h0; subst h4; subst h5; subst h6
  unfold At
  exact rule (B := 1000) (N := 47) (ct := .no)
    [⟨0, fun a M => dfr a.defers (P_r4_ParseAct_5 (a.get 0) (a.get 4) (a.get 5) (a.get 6) M Q), fun a M => At Try.prog Ex none Try.f86 [1, 1, 1, 0, 1, 0, 0, 1, 1] a M Q⟩,
    ⟨1, fun a M => kfin Try.prog Try.f86.results.toList Q 1 a M, fun a M => kfin Try.prog Try.f86.results.toList Q 1 a M⟩]
    [] [0, 1] (by kernel_rfl) (by kernel_rfl) (by kernel_rfl) (by kernel_rfl) (by kernel_rfl)
    ⟨fun a M hn h => by obtain ⟨⟨n, f⟩, ds⟩ := a; have hn : n = 47 := hn; subst hn; obtain ⟨hd, h⟩ := dfr_iff h; have hd : ds = [] := hd; subst hd; exact h f rfl rfl rfl rfl,
    fun _ _ _ h => h,
    trivial⟩
    (cast (by kernel_rfl) h)
def S_r4_ParseAct_5 (x0 x4 x5 x6 : Value) (M : Store) (Q : KP) : Prop :=
  OP (binI .add x6 (.int .i64 1)) fun t14 =>
  P_r4_ParseAct_1 x0 x4 x5 t14 M Q
theorem T_r4_ParseAct_5 {x0 x4 x5 x6 : Value} {M : Store} {Q : KP} (h : S_r4_ParseAct_5 x0 x4 x5 x6 M Q) : P_r4_ParseAct_5 x0 x4 x5 x6 M Q := by
  intro f h0 h4 h5 h6; subst h0; subst h4; subst h5; subst h6
  unfold At
  exact rule (B := 1000) (N := 47) (ct := .no)
    [⟨0, fun a M => dfr a.defers (P_r4_ParseAct_1 (a.get 0) (a.get 4) (a.get 5) (a.get 6) M Q), fun a M => At Try.prog Ex none Try.f86 [1, 1, 1, 0, 1, 0] a M Q⟩]
    [] [0] (by kernel_rfl) (by kernel_rfl) (by kernel_rfl) (by kernel_rfl) (by kernel_rfl)
    ⟨fun a M hn h => by obtain ⟨⟨n, f⟩, ds⟩ := a; have hn : n = 47 := hn; subst hn; obtain ⟨hd, h⟩ := dfr_iff h; have hd : ds = [] := hd; subst hd; exact h f rfl rfl rfl rfl,
    trivial⟩
    (cast (by kernel_rfl) h)
def P_r4_one_1 (x0 x2 x4 x5 : Value) (M : Store) (Q : KP) : Prop :=
  ∀ f : Nat → Value, f 0 = x0 → f 2 = x2 → f 4 = x4 → f 5 = x5 → At Try.prog Ex none Try.f87 [1, 1, 1, 0, 1, 0] ⟨⟨89, f⟩, []⟩ M Q
def P_r4_one_2 (x0 x2 x4 x5 : Value) (M : Store) (Q : KP) : Prop :=
  ∀ f : Nat → Value, f 0 = x0 → f 2 = x2 → f 4 = x4 → f 5 = x5 → At Try.prog Ex none Try.f87 [1, 1, 1, 0, 1, 0, 0, 1] ⟨⟨89, f⟩, []⟩ M Q
def P_r4_one_3 (x2 : Value) (M : Store) (Q : KP) : Prop :=
  ∀ f : Nat → Value, f 2 = x2 → At Try.prog Ex none Try.f87 [1, 1, 1, 1] ⟨⟨89, f⟩, []⟩ M Q
def P_r4_one_4 (x0 x2 x5 : Value) (M : Store) (Q : KP) : Prop :=
  ∀ f : Nat → Value, f 0 = x0 → f 2 = x2 → f 5 = x5 → At Try.prog Ex none Try.f87 [1, 1, 1, 0, 1, 0, 0, 1, 0, 0, 1] ⟨⟨89, f⟩, []⟩ M Q
def P_r4_one_5 (x0 x2 x6 x37 x42 : Value) (M : Store) (Q : KP) : Prop :=
  ∀ f : Nat → Value, f 0 = x0 → f 2 = x2 → f 6 = x6 → f 37 = x37 → f 42 = x42 → At Try.prog Ex none Try.f87 [1, 1, 1, 0, 1, 0, 0, 1, 0, 0, 1, 1, 0, 1, 0, 1] ⟨⟨89, f⟩, []⟩ M Q
def P_r4_one_6 (x2 x6 : Value) (M : Store) (Q : KP) : Prop :=
  ∀ f : Nat → Value, f 2 = x2 → f 6 = x6 → At Try.prog Ex none Try.f87 [1, 1, 1, 0, 1, 0, 0, 1, 0, 0, 1, 1, 1] ⟨⟨89, f⟩, []⟩ M Q
def P_r4_one_7 (x0 x2 x6 x61 : Value) (M : Store) (Q : KP) : Prop :=
  ∀ f : Nat → Value, f 0 = x0 → f 2 = x2 → f 6 = x6 → f 61 = x61 → At Try.prog Ex none Try.f87 [1, 1, 1, 0, 1, 0, 0, 1, 0, 0, 1, 1, 0, 1, 0, 1, 1, 1] ⟨⟨89, f⟩, []⟩ M Q
def S_r4_one (x0 : Value) (M : Store) (Q : KP) : Prop :=
  LT (.pointer (some ⟨M.n, 0, none⟩)) (M.push (some (.inl ([(.int .i64 0), (.int .i64 0), (.string ⟨#[]⟩)], Ty.api_Do, true)))) fun t2 M1 =>
  OP (lenV x0) fun t10 =>
  OP (binI .eql t10 (.int .i64 0)) fun t11 =>
  BR t11 (
  OP (bldS #[(.int .i64 0), (.int .i64 0), (.string ⟨#[]⟩)] [(0, 1), (1, 1), (2, 1)] []) fun t18 =>
  OP (st 3 t2 t18 M1) fun M2 =>
  OP (ld 3 true t2 M2) fun r2 =>
  NTs [r2, (.bool false)] ∧ Q (.tuple #[r2, (.bool false)]) M2
  ) (
  OP (ixA 4 x0 (.int .i64 0)) fun t14 =>
  OP (fad 3 t14) fun t15 =>
  OP (ld 1 false t15 M1) fun t16 =>
  BR t16 (
  OP (bldS #[(.int .i64 0), (.int .i64 0), (.string ⟨#[]⟩)] [(0, 1), (1, 1), (2, 1)] []) fun t18_1 =>
  OP (st 3 t2 t18_1 M1) fun M3 =>
  OP (ld 3 true t2 M3) fun r2_1 =>
  NTs [r2_1, (.bool false)] ∧ Q (.tuple #[r2_1, (.bool false)]) M3
  ) (
  R F.r4_words #[] M1 fun t19 M4 =>
  P_r4_one_1 x0 t2 t19 (.int .i64 1) M4 Q
  )
  )
theorem T_r4_one {x0 : Value} {M : Store} {Q : KP} (h : S_r4_one x0 M Q) : R F.r4_one #[x0] M Q := by
  refine runs_of (c := bodyOf Try.f87) Try.func87 rfl (by kernel_rfl) (by kernel_rfl) ?_
  unfold At
  exact rule (B := 1000) (N := 89) (ct := (.two .no (.two .no (.two .no (.two (.two .no (.two (.here 1000) .no)) (.here 1001))))))
    [⟨1002, fun a M => dfr a.defers (P_r4_one_1 (a.get 0) (a.get 2) (a.get 4) (a.get 5) M Q), fun a M => At Try.prog Ex none Try.f87 [1, 1, 1, 0, 1, 0] a M Q⟩,
    ⟨1003, fun _ _ => False, fun a M => At Try.prog Ex none Try.f87 [1, 1, 1, 1] a M Q⟩,
    ⟨1, fun a M => kfin Try.prog Try.f87.results.toList Q 1 a M, fun a M => kfin Try.prog Try.f87.results.toList Q 1 a M⟩]
    [1000, 1001] [1] (by kernel_rfl) (by kernel_rfl) (by kernel_rfl) (by kernel_rfl) (by kernel_rfl)
    ⟨fun a M hn h => by obtain ⟨⟨n, f⟩, ds⟩ := a; have hn : n = 89 := hn; subst hn; obtain ⟨hd, h⟩ := dfr_iff h; have hd : ds = [] := hd; subst hd; exact h f rfl rfl rfl rfl,
    fun _ _ _ h => h.elim,
    fun _ _ _ h => h,
    trivial⟩
    (cast (by kernel_rfl) h)
def S_r4_one_1 (x0 x2 x4 x5 : Value) (M : Store) (Q : KP) : Prop :=
  OP (lenV x4) fun t22 =>
  OP (binI .lss x5 t22) fun t23 =>
  BR t23 (
  P_r4_one_2 x0 x2 x4 x5 M Q
  ) (
  P_r4_one_3 x2 M Q
  )
theorem T_r4_one_1 {x0 x2 x4 x5 : Value} {M : Store} {Q : KP} (h : S_r4_one_1 x0 x2 x4 x5 M Q) : P_r4_one_1 x0 x2 x4 x5 M Q := by
  intro f h0 h2 h4 h5; subst h0; subst h2; subst h4; subst h5
  unfold At
  refine cast (by kernel_rfl) (CW.loop (P := Try.prog) (E := Ex) (rd := none) (x := sub (bodyOf Try.f87) [1, 1, 1, 0, 1, 0, 0]) (a := ⟨⟨89, f⟩, []⟩) (M := M) (K := kcont Try.prog Ex none (bodyOf Try.f87) [1, 1, 1, 0, 1, 0] (kfin Try.prog Try.f87.results.toList Q)) ?_)
  exact rule (B := 1000) (N := 89) (ct := (.two .no (.here 1000)))
    [⟨1002, fun a M => dfr a.defers (P_r4_one_2 (a.get 0) (a.get 2) (a.get 4) (a.get 5) M Q), fun a M => At Try.prog Ex none Try.f87 [1, 1, 1, 0, 1, 0, 0, 1] a M Q⟩,
    ⟨2, fun a M => dfr a.defers (P_r4_one_3 (a.get 2) M Q), fun a M => At Try.prog Ex none Try.f87 [1, 1, 1, 1] a M Q⟩]
    [1000] [2] (by kernel_rfl) (by kernel_rfl) (by kernel_rfl) (by kernel_rfl) (by kernel_rfl)
    ⟨fun a M hn h => by obtain ⟨⟨n, f⟩, ds⟩ := a; have hn : n = 89 := hn; subst hn; obtain ⟨hd, h⟩ := dfr_iff h; have hd : ds = [] := hd; subst hd; exact h f rfl rfl rfl rfl,
    fun a M hn h => by obtain ⟨⟨n, f⟩, ds⟩ := a; have hn : n = 89 := hn; subst hn; obtain ⟨hd, h⟩ := dfr_iff h; have hd : ds = [] := hd; subst hd; exact h f rfl,
    trivial⟩
    (cast (by kernel_rfl) h)
def S_r4_one_2 (x0 x2 x4 x5 : Value) (M : Store) (Q : KP) : Prop :=
  OP (ixA 1 x4 x5) fun t28 =>
  OP (ld 1 false t28 M) fun t29 =>
  OP (ixA 4 x0 (.int .i64 0)) fun t31 =>
  OP (fad 0 t31) fun t32 =>
  OP (ld 1 false t32 M) fun t33 =>
  OP (binS .neq t29 t33) fun t34 =>
  BR t34 (
  OP (binI .add x5 (.int .i64 1)) fun t25 =>
  P_r4_one_1 x0 x2 x4 t25 M Q
  ) (
  P_r4_one_4 x0 x2 x5 M Q
  )
theorem T_r4_one_2 {x0 x2 x4 x5 : Value} {M : Store} {Q : KP} (h : S_r4_one_2 x0 x2 x4 x5 M Q) : P_r4_one_2 x0 x2 x4 x5 M Q := by
  intro f h0 h2 h4 h5; subst h0; subst h2; subst h4; subst h5
  unfold At
  exact rule (B := 1000) (N := 89) (ct := (.two (.two (.two .no (.here 1000)) .no) .no))
    [⟨1002, fun a M => dfr a.defers (P_r4_one_4 (a.get 0) (a.get 2) (a.get 5) M Q), fun a M => At Try.prog Ex none Try.f87 [1, 1, 1, 0, 1, 0, 0, 1, 0, 0, 1] a M Q⟩,
    ⟨0, fun a M => dfr a.defers (P_r4_one_1 (a.get 0) (a.get 2) (a.get 4) (a.get 5) M Q), fun a M => At Try.prog Ex none Try.f87 [1, 1, 1, 0, 1, 0] a M Q⟩]
    [1000] [0] (by kernel_rfl) (by kernel_rfl) (by kernel_rfl) (by kernel_rfl) (by kernel_rfl)
    ⟨fun a M hn h => by obtain ⟨⟨n, f⟩, ds⟩ := a; have hn : n = 89 := hn; subst hn; obtain ⟨hd, h⟩ := dfr_iff h; have hd : ds = [] := hd; subst hd; exact h f rfl rfl rfl,
    fun a M hn h => by obtain ⟨⟨n, f⟩, ds⟩ := a; have hn : n = 89 := hn; subst hn; obtain ⟨hd, h⟩ := dfr_iff h; have hd : ds = [] := hd; subst hd; exact h f rfl rfl rfl rfl,
    trivial⟩
    (cast (by kernel_rfl) h)
def S_r4_one_3 (x2 : Value) (M : Store) (Q : KP) : Prop :=
  OP (bldS #[(.int .i64 0), (.int .i64 0), (.string ⟨#[]⟩)] [(0, 1), (1, 1), (2, 1)] []) fun t88 =>
  OP (st 3 x2 t88 M) fun M1 =>
  OP (ld 3 true x2 M1) fun r2 =>
  NTs [r2, (.bool false)] ∧ Q (.tuple #[r2, (.bool false)]) M1
theorem T_r4_one_3 {x2 : Value} {M : Store} {Q : KP} (h : S_r4_one_3 x2 M Q) : P_r4_one_3 x2 M Q := by
  intro f h2; subst h2
  unfold At
  exact rule (B := 1000) (N := 89) (ct := .no)
    [⟨1, fun a M => kfin Try.prog Try.f87.results.toList Q 1 a M, fun a M => kfin Try.prog Try.f87.results.toList Q 1 a M⟩]
    [] [1] (by kernel_rfl) (by kernel_rfl) (by kernel_rfl) (by kernel_rfl) (by kernel_rfl)
    ⟨fun _ _ _ h => h,
    trivial⟩
    (cast (by kernel_rfl) h)
def S_r4_one_4 (x0 x2 x5 : Value) (M : Store) (Q : KP) : Prop :=
  OP (bldS #[(.int .i64 0), (.int .i64 0), (.string ⟨#[]⟩)] [(0, 1), (1, 1), (2, 1)] [(0, x5)]) fun t36 =>
  LT (.pointer (some ⟨M.n, 0, none⟩)) (M.push (some (.inl ([(.int .i64 0), (.int .i64 0), (.string ⟨#[]⟩)], Ty.api_Do, true)))) fun t6 M1 =>
  OP (st 3 t6 t36 M1) fun M2 =>
  OP (binI .eql x5 (.int .i64 1)) fun t43 =>
  BR t43 (
  P_r4_one_5 x0 x2 t6 x5 t43 M2 Q
  ) (
  OP (binI .eql x5 (.int .i64 10)) fun t44 =>
  P_r4_one_5 x0 x2 t6 x5 t44 M2 Q
  )
theorem T_r4_one_4 {x0 x2 x5 : Value} {M : Store} {Q : KP} (h : S_r4_one_4 x0 x2 x5 M Q) : P_r4_one_4 x0 x2 x5 M Q := by
  intro f h0 h2 h5; subst h0; subst h2; subst h5
  unfold At
  exact rule (B := 1000) (N := 89) (ct := (.two .no (.two (.two .no (.two (.two .no (.here 1000)) .no)) (.here 1001))))
    [⟨1002, fun a M => dfr a.defers (P_r4_one_5 (a.get 0) (a.get 2) (a.get 6) (a.get 37) (a.get 42) M Q), fun a M => At Try.prog Ex none Try.f87 [1, 1, 1, 0, 1, 0, 0, 1, 0, 0, 1, 1, 0, 1, 0, 1] a M Q⟩,
    ⟨1003, fun _ _ => False, fun a M => At Try.prog Ex none Try.f87 [1, 1, 1, 0, 1, 0, 0, 1, 0, 0, 1, 1, 1] a M Q⟩]
    [1000, 1001] [] (by kernel_rfl) (by kernel_rfl) (by kernel_rfl) (by kernel_rfl) (by kernel_rfl)
    ⟨fun a M hn h => by obtain ⟨⟨n, f⟩, ds⟩ := a; have hn : n = 89 := hn; subst hn; obtain ⟨hd, h⟩ := dfr_iff h; have hd : ds = [] := hd; subst hd; exact h f rfl rfl rfl rfl rfl,
    fun _ _ _ h => h.elim,
    trivial⟩
    (cast (by kernel_rfl) h)
def S_r4_one_5 (x0 x2 x6 x37 x42 : Value) (M : Store) (Q : KP) : Prop :=
  BR x42 (
  OP (lenV x0) fun t46 =>
  OP (binI .neq t46 (.int .i64 2)) fun t47 =>
  BR t47 (
  OP (bldS #[(.int .i64 0), (.int .i64 0), (.string ⟨#[]⟩)] [(0, 1), (1, 1), (2, 1)] []) fun t55 =>
  OP (st 3 x2 t55 M) fun M1 =>
  OP (ld 3 true x2 M1) fun r2 =>
  NTs [r2, (.bool false)] ∧ Q (.tuple #[r2, (.bool false)]) M1
  ) (
  OP (ixA 4 x0 (.int .i64 1)) fun t50 =>
  OP (fad 3 t50) fun t51 =>
  OP (ld 1 false t51 M) fun t52 =>
  OP (aun .not t52) fun t53 =>
  BR t53 (
  OP (bldS #[(.int .i64 0), (.int .i64 0), (.string ⟨#[]⟩)] [(0, 1), (1, 1), (2, 1)] []) fun t55_1 =>
  OP (st 3 x2 t55_1 M) fun M2 =>
  OP (ld 3 true x2 M2) fun r2_1 =>
  NTs [r2_1, (.bool false)] ∧ Q (.tuple #[r2_1, (.bool false)]) M2
  ) (
  OP (ixA 4 x0 (.int .i64 1)) fun t57 =>
  OP (fad 0 t57) fun t58 =>
  OP (ld 1 false t58 M) fun t59 =>
  OP (fad 2 x6) fun t60 =>
  OP (st 1 t60 t59 M) fun M3 =>
  P_r4_one_6 x2 x6 M3 Q
  )
  )
  ) (
  OP (binI .eql x37 (.int .i64 2)) fun t62 =>
  BR t62 (
  P_r4_one_7 x0 x2 x6 t62 M Q
  ) (
  OP (binI .eql x37 (.int .i64 7)) fun t63 =>
  BR t63 (
  P_r4_one_7 x0 x2 x6 t63 M Q
  ) (
  OP (binI .eql x37 (.int .i64 8)) fun t64 =>
  P_r4_one_7 x0 x2 x6 t64 M Q
  )
  )
  )
theorem T_r4_one_5 {x0 x2 x6 x37 x42 : Value} {M : Store} {Q : KP} (h : S_r4_one_5 x0 x2 x6 x37 x42 M Q) : P_r4_one_5 x0 x2 x6 x37 x42 M Q := by
  intro f h0 h2 h6 h37 h42; subst h0; subst h2; subst h6; subst h37; subst h42
  unfold At
  exact rule (B := 1000) (N := 89) (ct := (.two .no (.two .no (.here 1000))))
    [⟨1002, fun a M => dfr a.defers (P_r4_one_7 (a.get 0) (a.get 2) (a.get 6) (a.get 61) M Q), fun a M => At Try.prog Ex none Try.f87 [1, 1, 1, 0, 1, 0, 0, 1, 0, 0, 1, 1, 0, 1, 0, 1, 1, 1] a M Q⟩,
    ⟨0, fun a M => dfr a.defers (P_r4_one_6 (a.get 2) (a.get 6) M Q), fun a M => At Try.prog Ex none Try.f87 [1, 1, 1, 0, 1, 0, 0, 1, 0, 0, 1, 1, 1] a M Q⟩,
    ⟨1, fun a M => kfin Try.prog Try.f87.results.toList Q 1 a M, fun a M => kfin Try.prog Try.f87.results.toList Q 1 a M⟩]
    [1000] [0, 1] (by kernel_rfl) (by kernel_rfl) (by kernel_rfl) (by kernel_rfl) (by kernel_rfl)
    ⟨fun a M hn h => by obtain ⟨⟨n, f⟩, ds⟩ := a; have hn : n = 89 := hn; subst hn; obtain ⟨hd, h⟩ := dfr_iff h; have hd : ds = [] := hd; subst hd; exact h f rfl rfl rfl rfl,
    fun a M hn h => by obtain ⟨⟨n, f⟩, ds⟩ := a; have hn : n = 89 := hn; subst hn; obtain ⟨hd, h⟩ := dfr_iff h; have hd : ds = [] := hd; subst hd; exact h f rfl rfl,
    fun _ _ _ h => h,
    trivial⟩
    (cast (by kernel_rfl) h)
def S_r4_one_6 (x2 x6 : Value) (M : Store) (Q : KP) : Prop :=
  OP (ld 3 true x6 M) fun t87 =>
  OP (st 3 x2 t87 M) fun M1 =>
  OP (ld 3 true x2 M1) fun r2 =>
  NTs [r2, (.bool true)] ∧ Q (.tuple #[r2, (.bool true)]) M1
theorem T_r4_one_6 {x2 x6 : Value} {M : Store} {Q : KP} (h : S_r4_one_6 x2 x6 M Q) : P_r4_one_6 x2 x6 M Q := by
  intro f h2 h6; subst h2; subst h6
  unfold At
  exact rule (B := 1000) (N := 89) (ct := .no)
    [⟨1, fun a M => kfin Try.prog Try.f87.results.toList Q 1 a M, fun a M => kfin Try.prog Try.f87.results.toList Q 1 a M⟩]
    [] [1] (by kernel_rfl) (by kernel_rfl) (by kernel_rfl) (by kernel_rfl) (by kernel_rfl)
    ⟨fun _ _ _ h => h,
    trivial⟩
    (cast (by kernel_rfl) h)
def S_r4_one_7 (x0 x2 x6 x61 : Value) (M : Store) (Q : KP) : Prop :=
  BR x61 (
  OP (lenV x0) fun t66 =>
  OP (binI .neq t66 (.int .i64 2)) fun t67 =>
  BR t67 (
  OP (bldS #[(.int .i64 0), (.int .i64 0), (.string ⟨#[]⟩)] [(0, 1), (1, 1), (2, 1)] []) fun t74 =>
  OP (st 3 x2 t74 M) fun M1 =>
  OP (ld 3 true x2 M1) fun r2 =>
  NTs [r2, (.bool false)] ∧ Q (.tuple #[r2, (.bool false)]) M1
  ) (
  OP (ixA 4 x0 (.int .i64 1)) fun t70 =>
  OP (fad 3 t70) fun t71 =>
  OP (ld 1 false t71 M) fun t72 =>
  BR t72 (
  OP (bldS #[(.int .i64 0), (.int .i64 0), (.string ⟨#[]⟩)] [(0, 1), (1, 1), (2, 1)] []) fun t74_1 =>
  OP (st 3 x2 t74_1 M) fun M2 =>
  OP (ld 3 true x2 M2) fun r2_1 =>
  NTs [r2_1, (.bool false)] ∧ Q (.tuple #[r2_1, (.bool false)]) M2
  ) (
  OP (ixA 4 x0 (.int .i64 1)) fun t77 =>
  OP (fad 0 t77) fun t78 =>
  OP (ld 1 false t78 M) fun t79 =>
  R F.r4_Number #[t79, (.int .i64 9)] M fun t80 M3 =>
  OP (tup t80 0) fun t81 =>
  OP (tup t80 1) fun t82 =>
  OP (fad 1 x6) fun t84 =>
  OP (st 1 t84 t81 M3) fun M4 =>
  OP (ld 3 true x6 M4) fun t85 =>
  OP (st 3 x2 t85 M4) fun M5 =>
  OP (ld 3 true x2 M5) fun r2_2 =>
  NTs [r2_2, t82] ∧ Q (.tuple #[r2_2, t82]) M5
  )
  )
  ) (
  OP (ld 3 true x6 M) fun t38 =>
  OP (lenV x0) fun t40 =>
  OP (binI .eql t40 (.int .i64 1)) fun t41 =>
  OP (st 3 x2 t38 M) fun M6 =>
  OP (ld 3 true x2 M6) fun r2_3 =>
  NTs [r2_3, t41] ∧ Q (.tuple #[r2_3, t41]) M6
  )
theorem T_r4_one_7 {x0 x2 x6 x61 : Value} {M : Store} {Q : KP} (h : S_r4_one_7 x0 x2 x6 x61 M Q) : P_r4_one_7 x0 x2 x6 x61 M Q := by
  intro f h0 h2 h6 h61; subst h0; subst h2; subst h6; subst h61
  unfold At
  exact rule (B := 1000) (N := 89) (ct := .no)
    [⟨1, fun a M => kfin Try.prog Try.f87.results.toList Q 1 a M, fun a M => kfin Try.prog Try.f87.results.toList Q 1 a M⟩]
    [] [1] (by kernel_rfl) (by kernel_rfl) (by kernel_rfl) (by kernel_rfl) (by kernel_rfl)
    ⟨fun _ _ _ h => h,
    trivial⟩
    (cast (by kernel_rfl) h)
def P_r4_OkAct_1 (x0 x3 : Value) (M : Store) (Q : KP) : Prop :=
  ∀ f : Nat → Value, f 0 = x0 → f 3 = x3 → At Try.prog Ex none Try.f88 [1, 0, 1, 0] ⟨⟨98, f⟩, []⟩ M Q
def P_r4_OkAct_2 (x0 x3 : Value) (M : Store) (Q : KP) : Prop :=
  ∀ f : Nat → Value, f 0 = x0 → f 3 = x3 → At Try.prog Ex none Try.f88 [1, 0, 1, 0, 0, 1] ⟨⟨98, f⟩, []⟩ M Q
def P_r4_OkAct_3 (x0 : Value) (M : Store) (Q : KP) : Prop :=
  ∀ f : Nat → Value, f 0 = x0 → At Try.prog Ex none Try.f88 [1, 1] ⟨⟨98, f⟩, []⟩ M Q
def P_r4_OkAct_4 (x0 x3 x4 x5 x6 x7 : Value) (M : Store) (Q : KP) : Prop :=
  ∀ f : Nat → Value, f 0 = x0 → f 3 = x3 → f 4 = x4 → f 5 = x5 → f 6 = x6 → f 7 = x7 → At Try.prog Ex none Try.f88 [1, 0, 1, 0, 0, 1, 0, 0, 1, 1, 1, 1, 1] ⟨⟨98, f⟩, []⟩ M Q
def P_r4_OkAct_5 (x0 x3 x4 x5 x6 x7 : Value) (M : Store) (Q : KP) : Prop :=
  ∀ f : Nat → Value, f 0 = x0 → f 3 = x3 → f 4 = x4 → f 5 = x5 → f 6 = x6 → f 7 = x7 → At Try.prog Ex none Try.f88 [1, 0, 1, 0, 0, 1, 0, 0, 1, 1, 1, 1, 1, 1] ⟨⟨98, f⟩, []⟩ M Q
def P_r4_OkAct_6 (x0 x3 : Value) (M : Store) (Q : KP) : Prop :=
  ∀ f : Nat → Value, f 0 = x0 → f 3 = x3 → At Try.prog Ex none Try.f88 [1, 0, 1, 0, 0, 1, 1] ⟨⟨98, f⟩, []⟩ M Q
def S_r4_OkAct (x0 : Value) (M : Store) (Q : KP) : Prop :=
  P_r4_OkAct_1 x0 (.int .i64 0) M Q
theorem T_r4_OkAct {x0 : Value} {M : Store} {Q : KP} (h : S_r4_OkAct x0 M Q) : R F.r4_OkAct #[x0] M Q := by
  refine runs_of (c := bodyOf Try.f88) Try.func88 rfl (by kernel_rfl) (by kernel_rfl) ?_
  unfold At
  exact rule (B := 1000) (N := 98) (ct := (.two .no (.two (.two .no (.two (.here 1000) .no)) (.here 1001))))
    [⟨1002, fun a M => dfr a.defers (P_r4_OkAct_1 (a.get 0) (a.get 3) M Q), fun a M => At Try.prog Ex none Try.f88 [1, 0, 1, 0] a M Q⟩,
    ⟨1003, fun _ _ => False, fun a M => At Try.prog Ex none Try.f88 [1, 1] a M Q⟩]
    [1000, 1001] [] (by kernel_rfl) (by kernel_rfl) (by kernel_rfl) (by kernel_rfl) (by kernel_rfl)
    ⟨fun a M hn h => by obtain ⟨⟨n, f⟩, ds⟩ := a; have hn : n = 98 := hn; subst hn; obtain ⟨hd, h⟩ := dfr_iff h; have hd : ds = [] := hd; subst hd; exact h f rfl rfl,
    fun _ _ _ h => h.elim,
    trivial⟩
    (cast (by kernel_rfl) h)
def S_r4_OkAct_1 (x0 x3 : Value) (M : Store) (Q : KP) : Prop :=
  OP (lenV x0) fun t10 =>
  OP (binI .lss x3 t10) fun t11 =>
  BR t11 (
  P_r4_OkAct_2 x0 x3 M Q
  ) (
  P_r4_OkAct_3 x0 M Q
  )
theorem T_r4_OkAct_1 {x0 x3 : Value} {M : Store} {Q : KP} (h : S_r4_OkAct_1 x0 x3 M Q) : P_r4_OkAct_1 x0 x3 M Q := by
  intro f h0 h3; subst h0; subst h3
  unfold At
  refine cast (by kernel_rfl) (CW.loop (P := Try.prog) (E := Ex) (rd := none) (x := sub (bodyOf Try.f88) [1, 0, 1, 0, 0]) (a := ⟨⟨98, f⟩, []⟩) (M := M) (K := kcont Try.prog Ex none (bodyOf Try.f88) [1, 0, 1, 0] (kfin Try.prog Try.f88.results.toList Q)) ?_)
  exact rule (B := 1000) (N := 98) (ct := (.two .no (.here 1000)))
    [⟨1002, fun a M => dfr a.defers (P_r4_OkAct_2 (a.get 0) (a.get 3) M Q), fun a M => At Try.prog Ex none Try.f88 [1, 0, 1, 0, 0, 1] a M Q⟩,
    ⟨2, fun a M => dfr a.defers (P_r4_OkAct_3 (a.get 0) M Q), fun a M => At Try.prog Ex none Try.f88 [1, 1] a M Q⟩]
    [1000] [2] (by kernel_rfl) (by kernel_rfl) (by kernel_rfl) (by kernel_rfl) (by kernel_rfl)
    ⟨fun a M hn h => by obtain ⟨⟨n, f⟩, ds⟩ := a; have hn : n = 98 := hn; subst hn; obtain ⟨hd, h⟩ := dfr_iff h; have hd : ds = [] := hd; subst hd; exact h f rfl rfl,
    fun a M hn h => by obtain ⟨⟨n, f⟩, ds⟩ := a; have hn : n = 98 := hn; subst hn; obtain ⟨hd, h⟩ := dfr_iff h; have hd : ds = [] := hd; subst hd; exact h f rfl,
    trivial⟩
    (cast (by kernel_rfl) h)
def S_r4_OkAct_2 (x0 x3 : Value) (M : Store) (Q : KP) : Prop :=
  OP (ixA 3 x0 x3) fun t16 =>
  OP (ld 3 true t16 M) fun t17 =>
  LT (.pointer (some ⟨M.n, 0, none⟩)) (M.push (some (.inl ([(.int .i64 0), (.int .i64 0), (.string ⟨#[]⟩)], Ty.api_Do, true)))) fun t4 M1 =>
  OP (st 3 t4 t17 M1) fun M2 =>
  OP (fad 0 t4) fun t18 =>
  OP (ld 1 false t18 M2) fun t19 =>
  OP (binI .eql t19 (.int .i64 1)) fun t20 =>
  BR t20 (
  OP (fad 0 t4) fun t31 =>
  OP (ld 1 false t31 M2) fun t32 =>
  OP (binI .eql t32 (.int .i64 1)) fun t33 =>
  BR t33 (
  OP (fad 0 t4) fun t39 =>
  OP (ld 1 false t39 M2) fun t40 =>
  OP (binI .eql t40 (.int .i64 2)) fun t41 =>
  BR t41 (
  P_r4_OkAct_4 x0 x3 t4 (.bool true) (.bool true) (.int .i64 15) M2 Q
  ) (
  P_r4_OkAct_4 x0 x3 t4 (.bool true) (.bool true) (.int .i64 0) M2 Q
  )
  ) (
  OP (fad 0 t4) fun t35 =>
  OP (ld 1 false t35 M2) fun t36 =>
  OP (binI .eql t36 (.int .i64 10)) fun t37 =>
  OP (fad 0 t4) fun t39_1 =>
  OP (ld 1 false t39_1 M2) fun t40_1 =>
  OP (binI .eql t40_1 (.int .i64 2)) fun t41_1 =>
  BR t41_1 (
  P_r4_OkAct_4 x0 x3 t4 (.bool true) t37 (.int .i64 15) M2 Q
  ) (
  P_r4_OkAct_4 x0 x3 t4 (.bool true) t37 (.int .i64 0) M2 Q
  )
  )
  ) (
  OP (fad 0 t4) fun t22 =>
  OP (ld 1 false t22 M2) fun t23 =>
  OP (binI .eql t23 (.int .i64 2)) fun t24 =>
  BR t24 (
  OP (fad 0 t4) fun t31_1 =>
  OP (ld 1 false t31_1 M2) fun t32_1 =>
  OP (binI .eql t32_1 (.int .i64 1)) fun t33_1 =>
  BR t33_1 (
  OP (fad 0 t4) fun t39_2 =>
  OP (ld 1 false t39_2 M2) fun t40_2 =>
  OP (binI .eql t40_2 (.int .i64 2)) fun t41_2 =>
  BR t41_2 (
  P_r4_OkAct_4 x0 x3 t4 (.bool true) (.bool true) (.int .i64 15) M2 Q
  ) (
  P_r4_OkAct_4 x0 x3 t4 (.bool true) (.bool true) (.int .i64 0) M2 Q
  )
  ) (
  OP (fad 0 t4) fun t35_1 =>
  OP (ld 1 false t35_1 M2) fun t36_1 =>
  OP (binI .eql t36_1 (.int .i64 10)) fun t37_1 =>
  OP (fad 0 t4) fun t39_3 =>
  OP (ld 1 false t39_3 M2) fun t40_3 =>
  OP (binI .eql t40_3 (.int .i64 2)) fun t41_3 =>
  BR t41_3 (
  P_r4_OkAct_4 x0 x3 t4 (.bool true) t37_1 (.int .i64 15) M2 Q
  ) (
  P_r4_OkAct_4 x0 x3 t4 (.bool true) t37_1 (.int .i64 0) M2 Q
  )
  )
  ) (
  OP (fad 0 t4) fun t27 =>
  OP (ld 1 false t27 M2) fun t28 =>
  OP (binI .eql t28 (.int .i64 3)) fun t29 =>
  OP (fad 0 t4) fun t31_2 =>
  OP (ld 1 false t31_2 M2) fun t32_2 =>
  OP (binI .eql t32_2 (.int .i64 1)) fun t33_2 =>
  BR t33_2 (
  OP (fad 0 t4) fun t39_4 =>
  OP (ld 1 false t39_4 M2) fun t40_4 =>
  OP (binI .eql t40_4 (.int .i64 2)) fun t41_4 =>
  BR t41_4 (
  P_r4_OkAct_4 x0 x3 t4 t29 (.bool true) (.int .i64 15) M2 Q
  ) (
  P_r4_OkAct_4 x0 x3 t4 t29 (.bool true) (.int .i64 0) M2 Q
  )
  ) (
  OP (fad 0 t4) fun t35_2 =>
  OP (ld 1 false t35_2 M2) fun t36_2 =>
  OP (binI .eql t36_2 (.int .i64 10)) fun t37_2 =>
  OP (fad 0 t4) fun t39_5 =>
  OP (ld 1 false t39_5 M2) fun t40_5 =>
  OP (binI .eql t40_5 (.int .i64 2)) fun t41_5 =>
  BR t41_5 (
  P_r4_OkAct_4 x0 x3 t4 t29 t37_2 (.int .i64 15) M2 Q
  ) (
  P_r4_OkAct_4 x0 x3 t4 t29 t37_2 (.int .i64 0) M2 Q
  )
  )
  )
  )
theorem T_r4_OkAct_2 {x0 x3 : Value} {M : Store} {Q : KP} (h : S_r4_OkAct_2 x0 x3 M Q) : P_r4_OkAct_2 x0 x3 M Q := by
  intro f h0 h3; subst h0; subst h3
  unfold At
  exact rule (B := 1000) (N := 98) (ct := (.two (.two (.two .no (.two .no (.two .no (.two .no (.two .no (.here 1000)))))) .no) (.here 1001)))
    [⟨1002, fun a M => dfr a.defers (P_r4_OkAct_4 (a.get 0) (a.get 3) (a.get 4) (a.get 5) (a.get 6) (a.get 7) M Q), fun a M => At Try.prog Ex none Try.f88 [1, 0, 1, 0, 0, 1, 0, 0, 1, 1, 1, 1, 1] a M Q⟩,
    ⟨1003, fun _ _ => False, fun a M => At Try.prog Ex none Try.f88 [1, 0, 1, 0, 0, 1, 1] a M Q⟩]
    [1000, 1001] [] (by kernel_rfl) (by kernel_rfl) (by kernel_rfl) (by kernel_rfl) (by kernel_rfl)
    ⟨fun a M hn h => by obtain ⟨⟨n, f⟩, ds⟩ := a; have hn : n = 98 := hn; subst hn; obtain ⟨hd, h⟩ := dfr_iff h; have hd : ds = [] := hd; subst hd; exact h f rfl rfl rfl rfl rfl rfl,
    fun _ _ _ h => h.elim,
    trivial⟩
    (cast (by kernel_rfl) h)
def S_r4_OkAct_3 (x0 : Value) (M : Store) (Q : KP) : Prop :=
  OP (lenV x0) fun t91 =>
  OP (binI .geq t91 (.int .i64 1)) fun t92 =>
  BR t92 (
  OP (lenV x0) fun t95 =>
  OP (binI .leq t95 (.int .i64 8)) fun t96 =>
  NTs [t96] ∧ Q t96 M
  ) (
  NTs [(.bool false)] ∧ Q (.bool false) M
  )
theorem T_r4_OkAct_3 {x0 : Value} {M : Store} {Q : KP} (h : S_r4_OkAct_3 x0 M Q) : P_r4_OkAct_3 x0 M Q := by
  intro f h0; subst h0
  unfold At
  exact rule (B := 1000) (N := 98) (ct := .no)
    [⟨1, fun a M => kfin Try.prog Try.f88.results.toList Q 1 a M, fun a M => kfin Try.prog Try.f88.results.toList Q 1 a M⟩]
    [] [1] (by kernel_rfl) (by kernel_rfl) (by kernel_rfl) (by kernel_rfl) (by kernel_rfl)
    ⟨fun _ _ _ h => h,
    trivial⟩
    (cast (by kernel_rfl) h)
def S_r4_OkAct_4 (x0 x3 x4 x5 x6 x7 : Value) (M : Store) (Q : KP) : Prop :=
  OP (fad 0 x4) fun t42 =>
  OP (ld 1 false t42 M) fun t43 =>
  OP (binI .eql t43 (.int .i64 7)) fun t44 =>
  BR t44 (
  P_r4_OkAct_5 x0 x3 x4 x5 x6 (.int .i64 999) M Q
  ) (
  OP (fad 0 x4) fun t46 =>
  OP (ld 1 false t46 M) fun t47 =>
  OP (binI .eql t47 (.int .i64 8)) fun t48 =>
  BR t48 (
  P_r4_OkAct_5 x0 x3 x4 x5 x6 (.int .i64 999) M Q
  ) (
  P_r4_OkAct_5 x0 x3 x4 x5 x6 x7 M Q
  )
  )
theorem T_r4_OkAct_4 {x0 x3 x4 x5 x6 x7 : Value} {M : Store} {Q : KP} (h : S_r4_OkAct_4 x0 x3 x4 x5 x6 x7 M Q) : P_r4_OkAct_4 x0 x3 x4 x5 x6 x7 M Q := by
  intro f h0 h3 h4 h5 h6 h7; subst h0; subst h3; subst h4; subst h5; subst h6; subst h7
  unfold At
  exact rule (B := 1000) (N := 98) (ct := (.two .no (.here 1000)))
    [⟨1002, fun a M => dfr a.defers (P_r4_OkAct_5 (a.get 0) (a.get 3) (a.get 4) (a.get 5) (a.get 6) (a.get 7) M Q), fun a M => At Try.prog Ex none Try.f88 [1, 0, 1, 0, 0, 1, 0, 0, 1, 1, 1, 1, 1, 1] a M Q⟩]
    [1000] [] (by kernel_rfl) (by kernel_rfl) (by kernel_rfl) (by kernel_rfl) (by kernel_rfl)
    ⟨fun a M hn h => by obtain ⟨⟨n, f⟩, ds⟩ := a; have hn : n = 98 := hn; subst hn; obtain ⟨hd, h⟩ := dfr_iff h; have hd : ds = [] := hd; subst hd; exact h f rfl rfl rfl rfl rfl rfl,
    trivial⟩
    (cast (by kernel_rfl) h)
def S_r4_OkAct_5 (x0 x3 x4 x5 x6 x7 : Value) (M : Store) (Q : KP) : Prop :=
  OP (fad 0 x4) fun t50 =>
  OP (ld 1 false t50 M) fun t51 =>
  OP (binI .lss t51 (.int .i64 1)) fun t52 =>
  BR t52 (
  NTs [(.bool false)] ∧ Q (.bool false) M
  ) (
  OP (fad 0 x4) fun t54 =>
  OP (ld 1 false t54 M) fun t55 =>
  OP (binI .gtr t55 (.int .i64 11)) fun t56 =>
  BR t56 (
  NTs [(.bool false)] ∧ Q (.bool false) M
  ) (
  OP (binI .eql x3 (.int .i64 0)) fun t61 =>
  OP (abin Try.prog false .neq Ty.bool x5 t61) fun t62 =>
  BR t62 (
  NTs [(.bool false)] ∧ Q (.bool false) M
  ) (
  OP (fad 1 x4) fun t65 =>
  OP (ld 1 false t65 M) fun t66 =>
  OP (binI .lss t66 (.int .i64 0)) fun t67 =>
  BR t67 (
  NTs [(.bool false)] ∧ Q (.bool false) M
  ) (
  OP (fad 1 x4) fun t70 =>
  OP (ld 1 false t70 M) fun t71 =>
  OP (binI .gtr t71 x7) fun t73 =>
  BR t73 (
  NTs [(.bool false)] ∧ Q (.bool false) M
  ) (
  OP (fad 2 x4) fun t76 =>
  OP (ld 1 false t76 M) fun t77 =>
  R F.r4_plain #[t77] M fun t78 M1 =>
  OP (aun .not t78) fun t79 =>
  BR t79 (
  NTs [(.bool false)] ∧ Q (.bool false) M1
  ) (
  OP (aun .not x6) fun t83 =>
  BR3 t83 (
  OP (fad 2 x4) fun t85 =>
  OP (ld 1 false t85 M1) fun t86 =>
  OP (binS .neq t86 (.string ⟨#[]⟩)) fun t87 =>
  BR t87 (
  NTs [(.bool false)] ∧ Q (.bool false) M1
  ) (
  P_r4_OkAct_6 x0 x3 M1 Q
  )
  ) (
  P_r4_OkAct_6 x0 x3 M1 Q
  ) (
  BR t83 (
  BR undef (
  NTs [(.bool false)] ∧ Q (.bool false) M1
  ) (
  P_r4_OkAct_6 x0 x3 M1 Q
  )
  ) (
  P_r4_OkAct_6 x0 x3 M1 Q
  )
  )
  )
  )
  )
  )
  )
  )
theorem T_r4_OkAct_5 {x0 x3 x4 x5 x6 x7 : Value} {M : Store} {Q : KP} (h : S_r4_OkAct_5 x0 x3 x4 x5 x6 x7 M Q) : P_r4_OkAct_5 x0 x3 x4 x5 x6 x7 M Q := by
  intro f h0 h3 h4 h5 h6 h7; subst h0; subst h3; subst h4; subst h5; subst h6; subst h7
  unfold At
  exact rule (B := 1000) (N := 98) (ct := .no)
    [⟨0, fun a M => dfr a.defers (P_r4_OkAct_6 (a.get 0) (a.get 3) M Q), fun a M => At Try.prog Ex none Try.f88 [1, 0, 1, 0, 0, 1, 1] a M Q⟩,
    ⟨1, fun a M => kfin Try.prog Try.f88.results.toList Q 1 a M, fun a M => kfin Try.prog Try.f88.results.toList Q 1 a M⟩]
    [] [0, 1] (by kernel_rfl) (by kernel_rfl) (by kernel_rfl) (by kernel_rfl) (by kernel_rfl)
    ⟨fun a M hn h => by obtain ⟨⟨n, f⟩, ds⟩ := a; have hn : n = 98 := hn; subst hn; obtain ⟨hd, h⟩ := dfr_iff h; have hd : ds = [] := hd; subst hd; exact h f rfl rfl,
    fun _ _ _ h => h,
    trivial⟩
    (cast (by kernel_rfl) h)
def S_r4_OkAct_6 (x0 x3 : Value) (M : Store) (Q : KP) : Prop :=
  OP (binI .add x3 (.int .i64 1)) fun t13 =>
  P_r4_OkAct_1 x0 t13 M Q
theorem T_r4_OkAct_6 {x0 x3 : Value} {M : Store} {Q : KP} (h : S_r4_OkAct_6 x0 x3 M Q) : P_r4_OkAct_6 x0 x3 M Q := by
  intro f h0 h3; subst h0; subst h3
  unfold At
  exact rule (B := 1000) (N := 98) (ct := .no)
    [⟨0, fun a M => dfr a.defers (P_r4_OkAct_1 (a.get 0) (a.get 3) M Q), fun a M => At Try.prog Ex none Try.f88 [1, 0, 1, 0] a M Q⟩]
    [] [0] (by kernel_rfl) (by kernel_rfl) (by kernel_rfl) (by kernel_rfl) (by kernel_rfl)
    ⟨fun a M hn h => by obtain ⟨⟨n, f⟩, ds⟩ := a; have hn : n = 98 := hn; subst hn; obtain ⟨hd, h⟩ := dfr_iff h; have hd : ds = [] := hd; subst hd; exact h f rfl rfl,
    trivial⟩
    (cast (by kernel_rfl) h)
def S_r4_words (M : Store) (Q : KP) : Prop :=
  OP (bldL (.string ⟨#[]⟩) 1 12 [(0, (.string ⟨#[]⟩)), (1, (.string ⟨#[116, 101, 120, 116]⟩)), (2, (.string ⟨#[105, 110]⟩)), (3, (.string ⟨#[97, 108, 108]⟩)), (4, (.string ⟨#[117, 112, 112, 101, 114]⟩)), (5, (.string ⟨#[108, 111, 119, 101, 114]⟩)), (6, (.string ⟨#[114, 101, 118]⟩)), (7, (.string ⟨#[116, 97, 107, 101]⟩)), (8, (.string ⟨#[100, 114, 111, 112]⟩)), (9, (.string ⟨#[116, 119, 105, 99, 101]⟩)), (10, (.string ⟨#[106, 111, 105, 110]⟩)), (11, (.string ⟨#[102, 97, 105, 108]⟩))]) fun c =>
  LT (.slice (some ⟨M.n, 0, none⟩) 12 12) (M.push (some (.inl (c, Ty.string, true)))) fun t1 M1 =>
  NTs [t1] ∧ Q t1 M1
theorem T_r4_words {M : Store} {Q : KP} (h : S_r4_words M Q) : R F.r4_words #[] M Q := by
  refine runs_of (c := bodyOf Try.f89) Try.func89 rfl (by kernel_rfl) (by kernel_rfl) ?_
  unfold At
  exact rule (B := 1000) (N := 2) (ct := .no)
    [⟨1, fun a M => kfin Try.prog Try.f89.results.toList Q 1 a M, fun a M => kfin Try.prog Try.f89.results.toList Q 1 a M⟩]
    [] [1] (by kernel_rfl) (by kernel_rfl) (by kernel_rfl) (by kernel_rfl) (by kernel_rfl)
    ⟨fun _ _ _ h => h,
    trivial⟩
    (cast (by kernel_rfl) h)
def P_r4_Number_1 (x0 x1 x6 x7 : Value) (M : Store) (Q : KP) : Prop :=
  ∀ f : Nat → Value, f 0 = x0 → f 1 = x1 → f 6 = x6 → f 7 = x7 → At Try.prog Ex none Try.f90 [1, 1, 0, 1, 0] ⟨⟨49, f⟩, []⟩ M Q
def P_r4_Number_2 (x0 x1 x6 x7 : Value) (M : Store) (Q : KP) : Prop :=
  ∀ f : Nat → Value, f 0 = x0 → f 1 = x1 → f 6 = x6 → f 7 = x7 → At Try.prog Ex none Try.f90 [1, 1, 0, 1, 0, 0, 1] ⟨⟨49, f⟩, []⟩ M Q
def P_r4_Number_3 (x0 x6 : Value) (M : Store) (Q : KP) : Prop :=
  ∀ f : Nat → Value, f 0 = x0 → f 6 = x6 → At Try.prog Ex none Try.f90 [1, 1, 1] ⟨⟨49, f⟩, []⟩ M Q
def S_r4_Number (x0 x1 : Value) (M : Store) (Q : KP) : Prop :=
  P_r4_Number_1 x0 x1 (.int .i64 0) (.int .i64 0) M Q
theorem T_r4_Number {x0 x1 : Value} {M : Store} {Q : KP} (h : S_r4_Number x0 x1 M Q) : R F.r4_Number #[x0, x1] M Q := by
  refine runs_of (c := bodyOf Try.f90) Try.func90 rfl (by kernel_rfl) (by kernel_rfl) ?_
  unfold At
  exact rule (B := 1000) (N := 49) (ct := (.two .no (.two .no (.two (.two .no (.two (.here 1000) .no)) (.here 1001)))))
    [⟨1002, fun a M => dfr a.defers (P_r4_Number_1 (a.get 0) (a.get 1) (a.get 6) (a.get 7) M Q), fun a M => At Try.prog Ex none Try.f90 [1, 1, 0, 1, 0] a M Q⟩,
    ⟨1003, fun _ _ => False, fun a M => At Try.prog Ex none Try.f90 [1, 1, 1] a M Q⟩]
    [1000, 1001] [] (by kernel_rfl) (by kernel_rfl) (by kernel_rfl) (by kernel_rfl) (by kernel_rfl)
    ⟨fun a M hn h => by obtain ⟨⟨n, f⟩, ds⟩ := a; have hn : n = 49 := hn; subst hn; obtain ⟨hd, h⟩ := dfr_iff h; have hd : ds = [] := hd; subst hd; exact h f rfl rfl rfl rfl,
    fun _ _ _ h => h.elim,
    trivial⟩
    (cast (by kernel_rfl) h)
def S_r4_Number_1 (x0 x1 x6 x7 : Value) (M : Store) (Q : KP) : Prop :=
  OP (lenS x0) fun t10 =>
  OP (binI .lss x7 t10) fun t11 =>
  BR t11 (
  P_r4_Number_2 x0 x1 x6 x7 M Q
  ) (
  P_r4_Number_3 x0 x6 M Q
  )
theorem T_r4_Number_1 {x0 x1 x6 x7 : Value} {M : Store} {Q : KP} (h : S_r4_Number_1 x0 x1 x6 x7 M Q) : P_r4_Number_1 x0 x1 x6 x7 M Q := by
  intro f h0 h1 h6 h7; subst h0; subst h1; subst h6; subst h7
  unfold At
  refine cast (by kernel_rfl) (CW.loop (P := Try.prog) (E := Ex) (rd := none) (x := sub (bodyOf Try.f90) [1, 1, 0, 1, 0, 0]) (a := ⟨⟨49, f⟩, []⟩) (M := M) (K := kcont Try.prog Ex none (bodyOf Try.f90) [1, 1, 0, 1, 0] (kfin Try.prog Try.f90.results.toList Q)) ?_)
  exact rule (B := 1000) (N := 49) (ct := (.two .no (.here 1000)))
    [⟨1002, fun a M => dfr a.defers (P_r4_Number_2 (a.get 0) (a.get 1) (a.get 6) (a.get 7) M Q), fun a M => At Try.prog Ex none Try.f90 [1, 1, 0, 1, 0, 0, 1] a M Q⟩,
    ⟨2, fun a M => dfr a.defers (P_r4_Number_3 (a.get 0) (a.get 6) M Q), fun a M => At Try.prog Ex none Try.f90 [1, 1, 1] a M Q⟩]
    [1000] [2] (by kernel_rfl) (by kernel_rfl) (by kernel_rfl) (by kernel_rfl) (by kernel_rfl)
    ⟨fun a M hn h => by obtain ⟨⟨n, f⟩, ds⟩ := a; have hn : n = 49 := hn; subst hn; obtain ⟨hd, h⟩ := dfr_iff h; have hd : ds = [] := hd; subst hd; exact h f rfl rfl rfl rfl,
    fun a M hn h => by obtain ⟨⟨n, f⟩, ds⟩ := a; have hn : n = 49 := hn; subst hn; obtain ⟨hd, h⟩ := dfr_iff h; have hd : ds = [] := hd; subst hd; exact h f rfl rfl,
    trivial⟩
    (cast (by kernel_rfl) h)
def S_r4_Number_2 (x0 x1 x6 x7 : Value) (M : Store) (Q : KP) : Prop :=
  OP (ixS x0 x7) fun t16 =>
  OP (binI .lss t16 (.int .u8 48)) fun t17 =>
  BR t17 (
  NTs [(.int .i64 0), (.bool false)] ∧ Q (.tuple #[(.int .i64 0), (.bool false)]) M
  ) (
  OP (ixS x0 x7) fun t21 =>
  OP (binI .gtr t21 (.int .u8 57)) fun t22 =>
  BR t22 (
  NTs [(.int .i64 0), (.bool false)] ∧ Q (.tuple #[(.int .i64 0), (.bool false)]) M
  ) (
  OP (binI .geq x7 x1) fun t27 =>
  BR t27 (
  NTs [(.int .i64 0), (.bool false)] ∧ Q (.tuple #[(.int .i64 0), (.bool false)]) M
  ) (
  OP (binI .mul (.int .i64 10) x6) fun t30 =>
  OP (ixS x0 x7) fun t33 =>
  OP (binI .sub t33 (.int .u8 48)) fun t34 =>
  OP (cvI .i64 t34) fun t35 =>
  OP (binI .add t30 t35) fun t36 =>
  OP (binI .add x7 (.int .i64 1)) fun t13 =>
  P_r4_Number_1 x0 x1 t36 t13 M Q
  )
  )
  )
theorem T_r4_Number_2 {x0 x1 x6 x7 : Value} {M : Store} {Q : KP} (h : S_r4_Number_2 x0 x1 x6 x7 M Q) : P_r4_Number_2 x0 x1 x6 x7 M Q := by
  intro f h0 h1 h6 h7; subst h0; subst h1; subst h6; subst h7
  unfold At
  exact rule (B := 1000) (N := 49) (ct := .no)
    [⟨0, fun a M => dfr a.defers (P_r4_Number_1 (a.get 0) (a.get 1) (a.get 6) (a.get 7) M Q), fun a M => At Try.prog Ex none Try.f90 [1, 1, 0, 1, 0] a M Q⟩,
    ⟨1, fun a M => kfin Try.prog Try.f90.results.toList Q 1 a M, fun a M => kfin Try.prog Try.f90.results.toList Q 1 a M⟩]
    [] [0, 1] (by kernel_rfl) (by kernel_rfl) (by kernel_rfl) (by kernel_rfl) (by kernel_rfl)
    ⟨fun a M hn h => by obtain ⟨⟨n, f⟩, ds⟩ := a; have hn : n = 49 := hn; subst hn; obtain ⟨hd, h⟩ := dfr_iff h; have hd : ds = [] := hd; subst hd; exact h f rfl rfl rfl rfl,
    fun _ _ _ h => h,
    trivial⟩
    (cast (by kernel_rfl) h)
def S_r4_Number_3 (x0 x6 : Value) (M : Store) (Q : KP) : Prop :=
  OP (binS .eql x0 (.string ⟨#[]⟩)) fun t38 =>
  BR t38 (
  NTs [(.int .i64 0), (.bool false)] ∧ Q (.tuple #[(.int .i64 0), (.bool false)]) M
  ) (
  OP (binS .neq x0 (.string ⟨#[48]⟩)) fun t41 =>
  BR3 t41 (
  OP (ixS x0 (.int .i64 0)) fun t44 =>
  OP (binI .eql t44 (.int .u8 48)) fun t45 =>
  BR t45 (
  NTs [(.int .i64 0), (.bool false)] ∧ Q (.tuple #[(.int .i64 0), (.bool false)]) M
  ) (
  NTs [x6, (.bool true)] ∧ Q (.tuple #[x6, (.bool true)]) M
  )
  ) (
  NTs [x6, (.bool true)] ∧ Q (.tuple #[x6, (.bool true)]) M
  ) (
  BR t41 (
  BR undef (
  NTs [(.int .i64 0), (.bool false)] ∧ Q (.tuple #[(.int .i64 0), (.bool false)]) M
  ) (
  NTs [x6, (.bool true)] ∧ Q (.tuple #[x6, (.bool true)]) M
  )
  ) (
  NTs [x6, (.bool true)] ∧ Q (.tuple #[x6, (.bool true)]) M
  )
  )
  )
theorem T_r4_Number_3 {x0 x6 : Value} {M : Store} {Q : KP} (h : S_r4_Number_3 x0 x6 M Q) : P_r4_Number_3 x0 x6 M Q := by
  intro f h0 h6; subst h0; subst h6
  unfold At
  exact rule (B := 1000) (N := 49) (ct := .no)
    [⟨1, fun a M => kfin Try.prog Try.f90.results.toList Q 1 a M, fun a M => kfin Try.prog Try.f90.results.toList Q 1 a M⟩]
    [] [1] (by kernel_rfl) (by kernel_rfl) (by kernel_rfl) (by kernel_rfl) (by kernel_rfl)
    ⟨fun _ _ _ h => h,
    trivial⟩
    (cast (by kernel_rfl) h)
def P_r4_plain_1 (x0 x3 : Value) (M : Store) (Q : KP) : Prop :=
  ∀ f : Nat → Value, f 0 = x0 → f 3 = x3 → At Try.prog Ex none Try.f91 [1, 0, 1, 0] ⟨⟨29, f⟩, []⟩ M Q
def P_r4_plain_2 (x0 x3 : Value) (M : Store) (Q : KP) : Prop :=
  ∀ f : Nat → Value, f 0 = x0 → f 3 = x3 → At Try.prog Ex none Try.f91 [1, 0, 1, 0, 0, 1] ⟨⟨29, f⟩, []⟩ M Q
def P_r4_plain_3 (x0 : Value) (M : Store) (Q : KP) : Prop :=
  ∀ f : Nat → Value, f 0 = x0 → At Try.prog Ex none Try.f91 [1, 1] ⟨⟨29, f⟩, []⟩ M Q
def S_r4_plain (x0 : Value) (M : Store) (Q : KP) : Prop :=
  P_r4_plain_1 x0 (.int .i64 0) M Q
theorem T_r4_plain {x0 : Value} {M : Store} {Q : KP} (h : S_r4_plain x0 M Q) : R F.r4_plain #[x0] M Q := by
  refine runs_of (c := bodyOf Try.f91) Try.func91 rfl (by kernel_rfl) (by kernel_rfl) ?_
  unfold At
  exact rule (B := 1000) (N := 29) (ct := (.two .no (.two (.two .no (.two (.here 1000) .no)) (.here 1001))))
    [⟨1002, fun a M => dfr a.defers (P_r4_plain_1 (a.get 0) (a.get 3) M Q), fun a M => At Try.prog Ex none Try.f91 [1, 0, 1, 0] a M Q⟩,
    ⟨1003, fun _ _ => False, fun a M => At Try.prog Ex none Try.f91 [1, 1] a M Q⟩]
    [1000, 1001] [] (by kernel_rfl) (by kernel_rfl) (by kernel_rfl) (by kernel_rfl) (by kernel_rfl)
    ⟨fun a M hn h => by obtain ⟨⟨n, f⟩, ds⟩ := a; have hn : n = 29 := hn; subst hn; obtain ⟨hd, h⟩ := dfr_iff h; have hd : ds = [] := hd; subst hd; exact h f rfl rfl,
    fun _ _ _ h => h.elim,
    trivial⟩
    (cast (by kernel_rfl) h)
def S_r4_plain_1 (x0 x3 : Value) (M : Store) (Q : KP) : Prop :=
  OP (lenS x0) fun t6 =>
  OP (binI .lss x3 t6) fun t7 =>
  BR t7 (
  P_r4_plain_2 x0 x3 M Q
  ) (
  P_r4_plain_3 x0 M Q
  )
theorem T_r4_plain_1 {x0 x3 : Value} {M : Store} {Q : KP} (h : S_r4_plain_1 x0 x3 M Q) : P_r4_plain_1 x0 x3 M Q := by
  intro f h0 h3; subst h0; subst h3
  unfold At
  refine cast (by kernel_rfl) (CW.loop (P := Try.prog) (E := Ex) (rd := none) (x := sub (bodyOf Try.f91) [1, 0, 1, 0, 0]) (a := ⟨⟨29, f⟩, []⟩) (M := M) (K := kcont Try.prog Ex none (bodyOf Try.f91) [1, 0, 1, 0] (kfin Try.prog Try.f91.results.toList Q)) ?_)
  exact rule (B := 1000) (N := 29) (ct := (.two .no (.here 1000)))
    [⟨1002, fun a M => dfr a.defers (P_r4_plain_2 (a.get 0) (a.get 3) M Q), fun a M => At Try.prog Ex none Try.f91 [1, 0, 1, 0, 0, 1] a M Q⟩,
    ⟨2, fun a M => dfr a.defers (P_r4_plain_3 (a.get 0) M Q), fun a M => At Try.prog Ex none Try.f91 [1, 1] a M Q⟩]
    [1000] [2] (by kernel_rfl) (by kernel_rfl) (by kernel_rfl) (by kernel_rfl) (by kernel_rfl)
    ⟨fun a M hn h => by obtain ⟨⟨n, f⟩, ds⟩ := a; have hn : n = 29 := hn; subst hn; obtain ⟨hd, h⟩ := dfr_iff h; have hd : ds = [] := hd; subst hd; exact h f rfl rfl,
    fun a M hn h => by obtain ⟨⟨n, f⟩, ds⟩ := a; have hn : n = 29 := hn; subst hn; obtain ⟨hd, h⟩ := dfr_iff h; have hd : ds = [] := hd; subst hd; exact h f rfl,
    trivial⟩
    (cast (by kernel_rfl) h)
def S_r4_plain_2 (x0 x3 : Value) (M : Store) (Q : KP) : Prop :=
  OP (ixS x0 x3) fun t12 =>
  OP (binI .lss t12 (.int .u8 32)) fun t13 =>
  BR t13 (
  NTs [(.bool false)] ∧ Q (.bool false) M
  ) (
  OP (ixS x0 x3) fun t17 =>
  OP (binI .gtr t17 (.int .u8 126)) fun t18 =>
  BR t18 (
  NTs [(.bool false)] ∧ Q (.bool false) M
  ) (
  OP (ixS x0 x3) fun t23 =>
  OP (binI .eql t23 (.int .u8 34)) fun t24 =>
  BR t24 (
  NTs [(.bool false)] ∧ Q (.bool false) M
  ) (
  OP (binI .add x3 (.int .i64 1)) fun t9 =>
  P_r4_plain_1 x0 t9 M Q
  )
  )
  )
theorem T_r4_plain_2 {x0 x3 : Value} {M : Store} {Q : KP} (h : S_r4_plain_2 x0 x3 M Q) : P_r4_plain_2 x0 x3 M Q := by
  intro f h0 h3; subst h0; subst h3
  unfold At
  exact rule (B := 1000) (N := 29) (ct := .no)
    [⟨0, fun a M => dfr a.defers (P_r4_plain_1 (a.get 0) (a.get 3) M Q), fun a M => At Try.prog Ex none Try.f91 [1, 0, 1, 0] a M Q⟩,
    ⟨1, fun a M => kfin Try.prog Try.f91.results.toList Q 1 a M, fun a M => kfin Try.prog Try.f91.results.toList Q 1 a M⟩]
    [] [0, 1] (by kernel_rfl) (by kernel_rfl) (by kernel_rfl) (by kernel_rfl) (by kernel_rfl)
    ⟨fun a M hn h => by obtain ⟨⟨n, f⟩, ds⟩ := a; have hn : n = 29 := hn; subst hn; obtain ⟨hd, h⟩ := dfr_iff h; have hd : ds = [] := hd; subst hd; exact h f rfl rfl,
    fun _ _ _ h => h,
    trivial⟩
    (cast (by kernel_rfl) h)
def S_r4_plain_3 (x0 : Value) (M : Store) (Q : KP) : Prop :=
  OP (lenS x0) fun t27 =>
  OP (binI .leq t27 (.int .i64 64)) fun t28 =>
  NTs [t28] ∧ Q t28 M
theorem T_r4_plain_3 {x0 : Value} {M : Store} {Q : KP} (h : S_r4_plain_3 x0 M Q) : P_r4_plain_3 x0 M Q := by
  intro f h0; subst h0
  unfold At
  exact rule (B := 1000) (N := 29) (ct := .no)
    [⟨1, fun a M => kfin Try.prog Try.f91.results.toList Q 1 a M, fun a M => kfin Try.prog Try.f91.results.toList Q 1 a M⟩]
    [] [1] (by kernel_rfl) (by kernel_rfl) (by kernel_rfl) (by kernel_rfl) (by kernel_rfl)
    ⟨fun _ _ _ h => h,
    trivial⟩
    (cast (by kernel_rfl) h)
end Go.G

open Go.RowKit
namespace Go.G
open Go.Ab Go.Proofs
set_option linter.unusedVariables false
set_option maxRecDepth 100000
def P_lM_1 (x0 x3 x4 x5 x6 x7 x8 : Value) (M : Store) (Q : KP) : Prop :=
  ∀ f : Nat → Value, f 0 = x0 → f 3 = x3 → f 4 = x4 → f 5 = x5 → f 6 = x6 → f 7 = x7 → f 8 = x8 → At Try.prog Ex none Try.f20 [1, 1, 1, 1, 1, 1, 0, 1, 0] ⟨⟨202, f⟩, []⟩ M Q
def P_lM_2 (x0 x3 x4 x5 x6 x7 x8 : Value) (M : Store) (Q : KP) : Prop :=
  ∀ f : Nat → Value, f 0 = x0 → f 3 = x3 → f 4 = x4 → f 5 = x5 → f 6 = x6 → f 7 = x7 → f 8 = x8 → At Try.prog Ex none Try.f20 [1, 1, 1, 1, 1, 1, 0, 1, 0, 0, 1] ⟨⟨202, f⟩, []⟩ M Q
def P_lM_3 (x6 : Value) (M : Store) (Q : KP) : Prop :=
  ∀ f : Nat → Value, f 6 = x6 → At Try.prog Ex none Try.f20 [1, 1, 1, 1, 1, 1, 1] ⟨⟨202, f⟩, []⟩ M Q
def P_lM_4 (x0 x3 x4 x5 x6 x7 x8 x9 x10 : Value) (M : Store) (Q : KP) : Prop :=
  ∀ f : Nat → Value, f 0 = x0 → f 3 = x3 → f 4 = x4 → f 5 = x5 → f 6 = x6 → f 7 = x7 → f 8 = x8 → f 9 = x9 → f 10 = x10 → At Try.prog Ex none Try.f20 [1, 1, 1, 1, 1, 1, 0, 1, 0, 0, 1, 0, 0, 1, 1, 1, 1] ⟨⟨202, f⟩, []⟩ M Q
def P_lM_5 (x0 x3 x4 x5 x6 x7 x8 x9 x10 x11 x12 x13 : Value) (M : Store) (Q : KP) : Prop :=
  ∀ f : Nat → Value, f 0 = x0 → f 3 = x3 → f 4 = x4 → f 5 = x5 → f 6 = x6 → f 7 = x7 → f 8 = x8 → f 9 = x9 → f 10 = x10 → f 11 = x11 → f 12 = x12 → f 13 = x13 → At Try.prog Ex none Try.f20 [1, 1, 1, 1, 1, 1, 0, 1, 0, 0, 1, 0, 0, 1, 1, 1, 1, 1, 0, 1, 0] ⟨⟨202, f⟩, []⟩ M Q
def P_lM_6 (x0 x3 x4 x5 x6 x7 x8 x9 x10 x11 x12 x13 : Value) (M : Store) (Q : KP) : Prop :=
  ∀ f : Nat → Value, f 0 = x0 → f 3 = x3 → f 4 = x4 → f 5 = x5 → f 6 = x6 → f 7 = x7 → f 8 = x8 → f 9 = x9 → f 10 = x10 → f 11 = x11 → f 12 = x12 → f 13 = x13 → At Try.prog Ex none Try.f20 [1, 1, 1, 1, 1, 1, 0, 1, 0, 0, 1, 0, 0, 1, 1, 1, 1, 1, 0, 1, 0, 0, 1] ⟨⟨202, f⟩, []⟩ M Q
def P_lM_7 (x0 x3 x4 x5 x6 x7 x8 x9 x10 x11 x12 : Value) (M : Store) (Q : KP) : Prop :=
  ∀ f : Nat → Value, f 0 = x0 → f 3 = x3 → f 4 = x4 → f 5 = x5 → f 6 = x6 → f 7 = x7 → f 8 = x8 → f 9 = x9 → f 10 = x10 → f 11 = x11 → f 12 = x12 → At Try.prog Ex none Try.f20 [1, 1, 1, 1, 1, 1, 0, 1, 0, 0, 1, 0, 0, 1, 1, 1, 1, 1, 1] ⟨⟨202, f⟩, []⟩ M Q
def P_lM_8 (x0 x3 x4 x5 x6 x7 x8 x9 x10 x11 x12 : Value) (M : Store) (Q : KP) : Prop :=
  ∀ f : Nat → Value, f 0 = x0 → f 3 = x3 → f 4 = x4 → f 5 = x5 → f 6 = x6 → f 7 = x7 → f 8 = x8 → f 9 = x9 → f 10 = x10 → f 11 = x11 → f 12 = x12 → At Try.prog Ex none Try.f20 [1, 1, 1, 1, 1, 1, 0, 1, 0, 0, 1, 0, 0, 1, 1, 1, 1, 1, 1, 1] ⟨⟨202, f⟩, []⟩ M Q
def P_lM_9 (x0 x3 x4 x5 x6 x7 x8 x9 x10 x11 x12 : Value) (M : Store) (Q : KP) : Prop :=
  ∀ f : Nat → Value, f 0 = x0 → f 3 = x3 → f 4 = x4 → f 5 = x5 → f 6 = x6 → f 7 = x7 → f 8 = x8 → f 9 = x9 → f 10 = x10 → f 11 = x11 → f 12 = x12 → At Try.prog Ex none Try.f20 [1, 1, 1, 1, 1, 1, 0, 1, 0, 0, 1, 0, 0, 1, 1, 1, 1, 1, 1, 1, 1] ⟨⟨202, f⟩, []⟩ M Q
def P_lM_10 (x0 x3 x4 x5 x6 x7 x8 x9 x10 x11 x12 x145 x146 x147 : Value) (M : Store) (Q : KP) : Prop :=
  ∀ f : Nat → Value, f 0 = x0 → f 3 = x3 → f 4 = x4 → f 5 = x5 → f 6 = x6 → f 7 = x7 → f 8 = x8 → f 9 = x9 → f 10 = x10 → f 11 = x11 → f 12 = x12 → f 145 = x145 → f 146 = x146 → f 147 = x147 → At Try.prog Ex none Try.f20 [1, 1, 1, 1, 1, 1, 0, 1, 0, 0, 1, 0, 0, 1, 1, 1, 1, 1, 1, 1, 1, 1, 0, 1, 0] ⟨⟨202, f⟩, []⟩ M Q
def P_lM_11 (x0 x3 x4 x5 x6 x7 x8 x9 x10 x11 x12 : Value) (M : Store) (Q : KP) : Prop :=
  ∀ f : Nat → Value, f 0 = x0 → f 3 = x3 → f 4 = x4 → f 5 = x5 → f 6 = x6 → f 7 = x7 → f 8 = x8 → f 9 = x9 → f 10 = x10 → f 11 = x11 → f 12 = x12 → At Try.prog Ex none Try.f20 [1, 1, 1, 1, 1, 1, 0, 1, 0, 0, 1, 0, 0, 1, 1, 1, 1, 1, 1, 1, 1, 1, 1] ⟨⟨202, f⟩, []⟩ M Q
def P_lM_12 (x0 x3 x4 x5 x6 x7 x8 x9 x164 x165 : Value) (M : Store) (Q : KP) : Prop :=
  ∀ f : Nat → Value, f 0 = x0 → f 3 = x3 → f 4 = x4 → f 5 = x5 → f 6 = x6 → f 7 = x7 → f 8 = x8 → f 9 = x9 → f 164 = x164 → f 165 = x165 → At Try.prog Ex none Try.f20 [1, 1, 1, 1, 1, 1, 0, 1, 0, 0, 1, 0, 0, 1, 1, 1, 1, 1, 1, 1, 1, 1, 1, 1, 0, 1, 0] ⟨⟨202, f⟩, []⟩ M Q
def P_lM_13 (x0 x3 x4 x5 x6 x7 x8 x9 x164 x165 : Value) (M : Store) (Q : KP) : Prop :=
  ∀ f : Nat → Value, f 0 = x0 → f 3 = x3 → f 4 = x4 → f 5 = x5 → f 6 = x6 → f 7 = x7 → f 8 = x8 → f 9 = x9 → f 164 = x164 → f 165 = x165 → At Try.prog Ex none Try.f20 [1, 1, 1, 1, 1, 1, 0, 1, 0, 0, 1, 0, 0, 1, 1, 1, 1, 1, 1, 1, 1, 1, 1, 1, 0, 1, 0, 0, 1, 1] ⟨⟨202, f⟩, []⟩ M Q
def P_lM_14 (x0 x3 x4 x5 x6 x7 x8 : Value) (M : Store) (Q : KP) : Prop :=
  ∀ f : Nat → Value, f 0 = x0 → f 3 = x3 → f 4 = x4 → f 5 = x5 → f 6 = x6 → f 7 = x7 → f 8 = x8 → At Try.prog Ex none Try.f20 [1, 1, 1, 1, 1, 1, 0, 1, 0, 0, 1, 0, 0, 1, 1, 1, 1, 1, 1, 1, 1, 1, 1, 1, 1] ⟨⟨202, f⟩, []⟩ M Q
def P_lM_15 (x0 x3 x4 x5 x6 x7 x8 x9 x17 x164 x165 : Value) (M : Store) (Q : KP) : Prop :=
  ∀ f : Nat → Value, f 0 = x0 → f 3 = x3 → f 4 = x4 → f 5 = x5 → f 6 = x6 → f 7 = x7 → f 8 = x8 → f 9 = x9 → f 17 = x17 → f 164 = x164 → f 165 = x165 → At Try.prog Ex none Try.f20 [1, 1, 1, 1, 1, 1, 0, 1, 0, 0, 1, 0, 0, 1, 1, 1, 1, 1, 1, 1, 1, 1, 1, 1, 0, 1, 0, 0, 1, 1, 0, 0, 1, 1] ⟨⟨202, f⟩, []⟩ M Q
def P_lM_16 (x0 x3 x4 x5 x6 x7 x8 : Value) (M : Store) (Q : KP) : Prop :=
  ∀ f : Nat → Value, f 0 = x0 → f 3 = x3 → f 4 = x4 → f 5 = x5 → f 6 = x6 → f 7 = x7 → f 8 = x8 → At Try.prog Ex none Try.f20 [1, 1, 1, 1, 1, 1, 0, 1, 0, 0, 1, 1] ⟨⟨202, f⟩, []⟩ M Q
def P_lM_17 (x0 x3 x4 x5 x6 x7 x8 x9 x164 x165 : Value) (M : Store) (Q : KP) : Prop :=
  ∀ f : Nat → Value, f 0 = x0 → f 3 = x3 → f 4 = x4 → f 5 = x5 → f 6 = x6 → f 7 = x7 → f 8 = x8 → f 9 = x9 → f 164 = x164 → f 165 = x165 → At Try.prog Ex none Try.f20 [1, 1, 1, 1, 1, 1, 0, 1, 0, 0, 1, 0, 0, 1, 1, 1, 1, 1, 1, 1, 1, 1, 1, 1, 0, 1, 0, 0, 1, 1, 1] ⟨⟨202, f⟩, []⟩ M Q
def S_lM (x0 : Value) (M : Store) (Q : KP) : Prop :=
  OP (bldL (.string ⟨#[]⟩) 1 8 [(0, (.string ⟨#[97]⟩)), (1, (.string ⟨#[98]⟩)), (2, (.string ⟨#[99]⟩)), (3, (.string ⟨#[100]⟩)), (4, (.string ⟨#[101]⟩)), (5, (.string ⟨#[102]⟩)), (6, (.string ⟨#[103]⟩)), (7, (.string ⟨#[104]⟩))]) fun c =>
  LT (.slice (some ⟨M.n, 0, none⟩) 8 8) (M.push (some (.inl (c, Ty.string, true)))) fun t19 M1 =>
  OP (bldL (.string ⟨#[]⟩) 1 3 [(0, (.string ⟨#[115]⟩)), (1, (.string ⟨#[116]⟩)), (2, (.string ⟨#[117]⟩))]) fun c_1 =>
  LT (.slice (some ⟨M1.n, 0, none⟩) 3 3) (M1.push (some (.inl (c_1, Ty.string, true)))) fun t20 M2 =>
  OP (bldL (.string ⟨#[]⟩) 1 8 [(0, (.string ⟨#[97, 108, 108]⟩)), (1, (.string ⟨#[97, 108, 108, 32, 59, 32, 117, 112, 112, 101, 114]⟩)), (2, (.string ⟨#[105, 110, 32, 48]⟩)), (3, (.string ⟨#[97, 108, 108, 32, 59, 32, 114, 101, 118]⟩)), (4, (.string ⟨#[116, 101, 120, 116, 32, 34, 107, 34]⟩)), (5, (.string ⟨#[97, 108, 108, 32, 59, 32, 116, 119, 105, 99, 101, 32, 59, 32, 116, 97, 107, 101, 32, 57]⟩)), (6, (.string ⟨#[97, 108, 108, 32, 59, 32, 106, 111, 105, 110, 32, 34, 46, 34, 32, 59, 32, 116, 97, 107, 101, 32, 50, 48]⟩)), (7, (.string ⟨#[97, 108, 108, 32, 59, 32, 102, 97, 105, 108]⟩))]) fun c_2 =>
  LT (.slice (some ⟨M2.n, 0, none⟩) 8 8) (M2.push (some (.inl (c_2, Ty.string, true)))) fun t21 M3 =>
  P_lM_1 x0 t19 t20 t21 (.string ⟨#[]⟩) (.int .i64 0) (.int .i64 0) M3 Q
theorem T_lM {x0 : Value} {M : Store} {Q : KP} (h : S_lM x0 M Q) : R F.lM #[x0] M Q := by
  refine runs_of (c := bodyOf Try.f20) Try.func20 rfl (by kernel_rfl) (by kernel_rfl) ?_
  unfold At
  exact rule (B := 1000) (N := 202) (ct := (.two .no (.two .no (.two .no (.two .no (.two .no (.two .no (.two (.two .no (.two (.here 1000) .no)) (.here 1001)))))))))
    [⟨1002, fun a M => dfr a.defers (P_lM_1 (a.get 0) (a.get 3) (a.get 4) (a.get 5) (a.get 6) (a.get 7) (a.get 8) M Q), fun a M => At Try.prog Ex none Try.f20 [1, 1, 1, 1, 1, 1, 0, 1, 0] a M Q⟩,
    ⟨1003, fun _ _ => False, fun a M => At Try.prog Ex none Try.f20 [1, 1, 1, 1, 1, 1, 1] a M Q⟩]
    [1000, 1001] [] (by kernel_rfl) (by kernel_rfl) (by kernel_rfl) (by kernel_rfl) (by kernel_rfl)
    ⟨fun a M hn h => by obtain ⟨⟨n, f⟩, ds⟩ := a; have hn : n = 202 := hn; subst hn; obtain ⟨hd, h⟩ := dfr_iff h; have hd : ds = [] := hd; subst hd; exact h f rfl rfl rfl rfl rfl rfl rfl,
    fun _ _ _ h => h.elim,
    trivial⟩
    (cast (by kernel_rfl) h)
def S_lM_1 (x0 x3 x4 x5 x6 x7 x8 : Value) (M : Store) (Q : KP) : Prop :=
  OP (lenV x0) fun t24 =>
  OP (binI .lss x8 t24) fun t25 =>
  BR t25 (
  OP (binI .lss x7 (.int .i64 7)) fun t28 =>
  BR t28 (
  OP (binI .lss x8 (.int .i64 7)) fun t32 =>
  BR t32 (
  P_lM_2 x0 x3 x4 x5 x6 x7 x8 M Q
  ) (
  P_lM_3 x6 M Q
  )
  ) (
  P_lM_3 x6 M Q
  )
  ) (
  P_lM_3 x6 M Q
  )
theorem T_lM_1 {x0 x3 x4 x5 x6 x7 x8 : Value} {M : Store} {Q : KP} (h : S_lM_1 x0 x3 x4 x5 x6 x7 x8 M Q) : P_lM_1 x0 x3 x4 x5 x6 x7 x8 M Q := by
  intro f h0 h3 h4 h5 h6 h7 h8; subst h0; subst h3; subst h4; subst h5; subst h6; subst h7; subst h8
  unfold At
  refine cast (by kernel_rfl) (CW.loop (P := Try.prog) (E := Ex) (rd := none) (x := sub (bodyOf Try.f20) [1, 1, 1, 1, 1, 1, 0, 1, 0, 0]) (a := ⟨⟨202, f⟩, []⟩) (M := M) (K := kcont Try.prog Ex none (bodyOf Try.f20) [1, 1, 1, 1, 1, 1, 0, 1, 0] (kfin Try.prog Try.f20.results.toList Q)) ?_)
  exact rule (B := 1000) (N := 202) (ct := (.two .no (.here 1000)))
    [⟨1002, fun a M => dfr a.defers (P_lM_2 (a.get 0) (a.get 3) (a.get 4) (a.get 5) (a.get 6) (a.get 7) (a.get 8) M Q), fun a M => At Try.prog Ex none Try.f20 [1, 1, 1, 1, 1, 1, 0, 1, 0, 0, 1] a M Q⟩,
    ⟨2, fun a M => dfr a.defers (P_lM_3 (a.get 6) M Q), fun a M => At Try.prog Ex none Try.f20 [1, 1, 1, 1, 1, 1, 1] a M Q⟩]
    [1000] [2] (by kernel_rfl) (by kernel_rfl) (by kernel_rfl) (by kernel_rfl) (by kernel_rfl)
    ⟨fun a M hn h => by obtain ⟨⟨n, f⟩, ds⟩ := a; have hn : n = 202 := hn; subst hn; obtain ⟨hd, h⟩ := dfr_iff h; have hd : ds = [] := hd; subst hd; exact h f rfl rfl rfl rfl rfl rfl rfl,
    fun a M hn h => by obtain ⟨⟨n, f⟩, ds⟩ := a; have hn : n = 202 := hn; subst hn; obtain ⟨hd, h⟩ := dfr_iff h; have hd : ds = [] := hd; subst hd; exact h f rfl,
    trivial⟩
    (cast (by kernel_rfl) h)
def S_lM_2 (x0 x3 x4 x5 x6 x7 x8 : Value) (M : Store) (Q : KP) : Prop :=
  OP (ixA 1 x0 x8) fun t38 =>
  OP (ld 1 false t38 M) fun t39 =>
  OP (ixA 1 x3 x7) fun t42 =>
  OP (ld 1 false t42 M) fun t43 =>
  OP (bldL (.string ⟨#[]⟩) 1 1 [(0, t43)]) fun c =>
  LT (.slice (some ⟨M.n, 0, none⟩) 1 1) (M.push (some (.inl (c, Ty.string, true)))) fun t44 M1 =>
  OP (binI .add x7 (.int .i64 1)) fun t46 =>
  OP (binI .and t39 (.int .i64 7)) fun t48 =>
  OP (binI .eql t48 (.int .i64 7)) fun t49 =>
  BR t49 (
  OP (binI .lss t46 (.int .i64 7)) fun t52 =>
  BR t52 (
  OP (ixA 1 x3 t46) fun t57 =>
  OP (ld 1 false t57 M1) fun t58 =>
  OP (bldL (.string ⟨#[]⟩) 1 1 [(0, t58)]) fun c_1 =>
  LT (.slice (some ⟨M1.n, 0, none⟩) 1 1) (M1.push (some (.inl (c_1, Ty.string, true)))) fun t59 M2 =>
  OP2 (appV 1 Ty.string t44 t59 M2) fun t60 M3 =>
  OP (binI .add t46 (.int .i64 1)) fun t62 =>
  P_lM_4 x0 x3 x4 x5 x6 t62 x8 t39 t60 M3 Q
  ) (
  P_lM_4 x0 x3 x4 x5 x6 t46 x8 t39 t44 M1 Q
  )
  ) (
  P_lM_4 x0 x3 x4 x5 x6 t46 x8 t39 t44 M1 Q
  )
theorem T_lM_2 {x0 x3 x4 x5 x6 x7 x8 : Value} {M : Store} {Q : KP} (h : S_lM_2 x0 x3 x4 x5 x6 x7 x8 M Q) : P_lM_2 x0 x3 x4 x5 x6 x7 x8 M Q := by
  intro f h0 h3 h4 h5 h6 h7 h8; subst h0; subst h3; subst h4; subst h5; subst h6; subst h7; subst h8
  unfold At
  exact rule (B := 1000) (N := 202) (ct := (.two (.two (.two .no (.two .no (.two .no (.two .no (.here 1000))))) .no) (.here 1001)))
    [⟨1002, fun a M => dfr a.defers (P_lM_4 (a.get 0) (a.get 3) (a.get 4) (a.get 5) (a.get 6) (a.get 7) (a.get 8) (a.get 9) (a.get 10) M Q), fun a M => At Try.prog Ex none Try.f20 [1, 1, 1, 1, 1, 1, 0, 1, 0, 0, 1, 0, 0, 1, 1, 1, 1] a M Q⟩,
    ⟨1003, fun _ _ => False, fun a M => At Try.prog Ex none Try.f20 [1, 1, 1, 1, 1, 1, 0, 1, 0, 0, 1, 1] a M Q⟩]
    [1000, 1001] [] (by kernel_rfl) (by kernel_rfl) (by kernel_rfl) (by kernel_rfl) (by kernel_rfl)
    ⟨fun a M hn h => by obtain ⟨⟨n, f⟩, ds⟩ := a; have hn : n = 202 := hn; subst hn; obtain ⟨hd, h⟩ := dfr_iff h; have hd : ds = [] := hd; subst hd; exact h f rfl rfl rfl rfl rfl rfl rfl rfl rfl,
    fun _ _ _ h => h.elim,
    trivial⟩
    (cast (by kernel_rfl) h)
def S_lM_3 (x6 : Value) (M : Store) (Q : KP) : Prop :=
  OP2 (cvSB Ty.uint8 x6 M) fun t201 M1 =>
  NTs [t201] ∧ Q t201 M1
theorem T_lM_3 {x6 : Value} {M : Store} {Q : KP} (h : S_lM_3 x6 M Q) : P_lM_3 x6 M Q := by
  intro f h6; subst h6
  unfold At
  exact rule (B := 1000) (N := 202) (ct := .no)
    [⟨1, fun a M => kfin Try.prog Try.f20.results.toList Q 1 a M, fun a M => kfin Try.prog Try.f20.results.toList Q 1 a M⟩]
    [] [1] (by kernel_rfl) (by kernel_rfl) (by kernel_rfl) (by kernel_rfl) (by kernel_rfl)
    ⟨fun _ _ _ h => h,
    trivial⟩
    (cast (by kernel_rfl) h)
def S_lM_4 (x0 x3 x4 x5 x6 x7 x8 x9 x10 : Value) (M : Store) (Q : KP) : Prop :=
  P_lM_5 x0 x3 x4 x5 x6 x7 x8 x9 x10 (.string ⟨#[]⟩) (.string ⟨#[]⟩) (.int .i64 0) M Q
theorem T_lM_4 {x0 x3 x4 x5 x6 x7 x8 x9 x10 : Value} {M : Store} {Q : KP} (h : S_lM_4 x0 x3 x4 x5 x6 x7 x8 x9 x10 M Q) : P_lM_4 x0 x3 x4 x5 x6 x7 x8 x9 x10 M Q := by
  intro f h0 h3 h4 h5 h6 h7 h8 h9 h10; subst h0; subst h3; subst h4; subst h5; subst h6; subst h7; subst h8; subst h9; subst h10
  unfold At
  exact rule (B := 1000) (N := 202) (ct := (.two .no (.two (.two .no (.two (.here 1000) .no)) (.here 1001))))
    [⟨1002, fun a M => dfr a.defers (P_lM_5 (a.get 0) (a.get 3) (a.get 4) (a.get 5) (a.get 6) (a.get 7) (a.get 8) (a.get 9) (a.get 10) (a.get 11) (a.get 12) (a.get 13) M Q), fun a M => At Try.prog Ex none Try.f20 [1, 1, 1, 1, 1, 1, 0, 1, 0, 0, 1, 0, 0, 1, 1, 1, 1, 1, 0, 1, 0] a M Q⟩,
    ⟨1003, fun _ _ => False, fun a M => At Try.prog Ex none Try.f20 [1, 1, 1, 1, 1, 1, 0, 1, 0, 0, 1, 0, 0, 1, 1, 1, 1, 1, 1] a M Q⟩]
    [1000, 1001] [] (by kernel_rfl) (by kernel_rfl) (by kernel_rfl) (by kernel_rfl) (by kernel_rfl)
    ⟨fun a M hn h => by obtain ⟨⟨n, f⟩, ds⟩ := a; have hn : n = 202 := hn; subst hn; obtain ⟨hd, h⟩ := dfr_iff h; have hd : ds = [] := hd; subst hd; exact h f rfl rfl rfl rfl rfl rfl rfl rfl rfl rfl rfl rfl,
    fun _ _ _ h => h.elim,
    trivial⟩
    (cast (by kernel_rfl) h)
def S_lM_5 (x0 x3 x4 x5 x6 x7 x8 x9 x10 x11 x12 x13 : Value) (M : Store) (Q : KP) : Prop :=
  OP (binI .shr x9 (.int .u64 3)) fun t65 =>
  OP (binI .and t65 (.int .i64 3)) fun t66 =>
  OP (binI .lss x13 t66) fun t67 =>
  BR t67 (
  P_lM_6 x0 x3 x4 x5 x6 x7 x8 x9 x10 x11 x12 x13 M Q
  ) (
  P_lM_7 x0 x3 x4 x5 x6 x7 x8 x9 x10 x11 x12 M Q
  )
theorem T_lM_5 {x0 x3 x4 x5 x6 x7 x8 x9 x10 x11 x12 x13 : Value} {M : Store} {Q : KP} (h : S_lM_5 x0 x3 x4 x5 x6 x7 x8 x9 x10 x11 x12 x13 M Q) : P_lM_5 x0 x3 x4 x5 x6 x7 x8 x9 x10 x11 x12 x13 M Q := by
  intro f h0 h3 h4 h5 h6 h7 h8 h9 h10 h11 h12 h13; subst h0; subst h3; subst h4; subst h5; subst h6; subst h7; subst h8; subst h9; subst h10; subst h11; subst h12; subst h13
  unfold At
  refine cast (by kernel_rfl) (CW.loop (P := Try.prog) (E := Ex) (rd := none) (x := sub (bodyOf Try.f20) [1, 1, 1, 1, 1, 1, 0, 1, 0, 0, 1, 0, 0, 1, 1, 1, 1, 1, 0, 1, 0, 0]) (a := ⟨⟨202, f⟩, []⟩) (M := M) (K := kcont Try.prog Ex none (bodyOf Try.f20) [1, 1, 1, 1, 1, 1, 0, 1, 0, 0, 1, 0, 0, 1, 1, 1, 1, 1, 0, 1, 0] (kfin Try.prog Try.f20.results.toList Q)) ?_)
  exact rule (B := 1000) (N := 202) (ct := (.two .no (.here 1000)))
    [⟨1002, fun a M => dfr a.defers (P_lM_6 (a.get 0) (a.get 3) (a.get 4) (a.get 5) (a.get 6) (a.get 7) (a.get 8) (a.get 9) (a.get 10) (a.get 11) (a.get 12) (a.get 13) M Q), fun a M => At Try.prog Ex none Try.f20 [1, 1, 1, 1, 1, 1, 0, 1, 0, 0, 1, 0, 0, 1, 1, 1, 1, 1, 0, 1, 0, 0, 1] a M Q⟩,
    ⟨4, fun a M => dfr a.defers (P_lM_7 (a.get 0) (a.get 3) (a.get 4) (a.get 5) (a.get 6) (a.get 7) (a.get 8) (a.get 9) (a.get 10) (a.get 11) (a.get 12) M Q), fun a M => At Try.prog Ex none Try.f20 [1, 1, 1, 1, 1, 1, 0, 1, 0, 0, 1, 0, 0, 1, 1, 1, 1, 1, 1] a M Q⟩]
    [1000] [4] (by kernel_rfl) (by kernel_rfl) (by kernel_rfl) (by kernel_rfl) (by kernel_rfl)
    ⟨fun a M hn h => by obtain ⟨⟨n, f⟩, ds⟩ := a; have hn : n = 202 := hn; subst hn; obtain ⟨hd, h⟩ := dfr_iff h; have hd : ds = [] := hd; subst hd; exact h f rfl rfl rfl rfl rfl rfl rfl rfl rfl rfl rfl rfl,
    fun a M hn h => by obtain ⟨⟨n, f⟩, ds⟩ := a; have hn : n = 202 := hn; subst hn; obtain ⟨hd, h⟩ := dfr_iff h; have hd : ds = [] := hd; subst hd; exact h f rfl rfl rfl rfl rfl rfl rfl rfl rfl rfl rfl,
    trivial⟩
    (cast (by kernel_rfl) h)
def S_lM_6 (x0 x3 x4 x5 x6 x7 x8 x9 x10 x11 x12 x13 : Value) (M : Store) (Q : KP) : Prop :=
  OP (binI .mul (.int .i64 4) x13) fun t72 =>
  OP (binI .add (.int .i64 5) t72) fun t73 =>
  OP (cvI .u64 t73) fun t74 =>
  OP (binI .shr x9 t74) fun t75 =>
  OP (binI .and t75 (.int .i64 15)) fun t76 =>
  OP (binI .lss t76 (.int .i64 8)) fun t78 =>
  BR t78 (
  OP (lenV x10) fun t82 =>
  OP (binI .gtr x7 t82) fun t83 =>
  BR t83 (
  OP (binS .add x11 (.string ⟨#[32]⟩)) fun t86 =>
  OP (lenV x10) fun t91 =>
  OP (binI .sub x7 t91) fun t92 =>
  OP (binI .rem t76 t92) fun t93 =>
  OP (ixA 1 x3 t93) fun t94 =>
  OP (ld 1 false t94 M) fun t95 =>
  OP (binS .add t86 t95) fun t96 =>
  OP (binI .add x13 (.int .i64 1)) fun t69 =>
  P_lM_5 x0 x3 x4 x5 x6 x7 x8 x9 x10 t96 x12 t69 M Q
  ) (
  OP (binS .add x11 (.string ⟨#[32]⟩)) fun t98 =>
  OP (binI .rem t76 (.int .i64 3)) fun t101 =>
  OP (ixA 1 x4 t101) fun t102 =>
  OP (ld 1 false t102 M) fun t103 =>
  OP (binS .add t98 t103) fun t104 =>
  OP (binI .add x13 (.int .i64 1)) fun t69_1 =>
  P_lM_5 x0 x3 x4 x5 x6 x7 x8 x9 x10 t104 x12 t69_1 M Q
  )
  ) (
  OP (binS .add x11 (.string ⟨#[32]⟩)) fun t98_1 =>
  OP (binI .rem t76 (.int .i64 3)) fun t101_1 =>
  OP (ixA 1 x4 t101_1) fun t102_1 =>
  OP (ld 1 false t102_1 M) fun t103_1 =>
  OP (binS .add t98_1 t103_1) fun t104_1 =>
  OP (binI .add x13 (.int .i64 1)) fun t69_2 =>
  P_lM_5 x0 x3 x4 x5 x6 x7 x8 x9 x10 t104_1 x12 t69_2 M Q
  )
theorem T_lM_6 {x0 x3 x4 x5 x6 x7 x8 x9 x10 x11 x12 x13 : Value} {M : Store} {Q : KP} (h : S_lM_6 x0 x3 x4 x5 x6 x7 x8 x9 x10 x11 x12 x13 M Q) : P_lM_6 x0 x3 x4 x5 x6 x7 x8 x9 x10 x11 x12 x13 M Q := by
  intro f h0 h3 h4 h5 h6 h7 h8 h9 h10 h11 h12 h13; subst h0; subst h3; subst h4; subst h5; subst h6; subst h7; subst h8; subst h9; subst h10; subst h11; subst h12; subst h13
  unfold At
  exact rule (B := 1000) (N := 202) (ct := .no)
    [⟨0, fun a M => dfr a.defers (P_lM_5 (a.get 0) (a.get 3) (a.get 4) (a.get 5) (a.get 6) (a.get 7) (a.get 8) (a.get 9) (a.get 10) (a.get 11) (a.get 12) (a.get 13) M Q), fun a M => At Try.prog Ex none Try.f20 [1, 1, 1, 1, 1, 1, 0, 1, 0, 0, 1, 0, 0, 1, 1, 1, 1, 1, 0, 1, 0] a M Q⟩]
    [] [0] (by kernel_rfl) (by kernel_rfl) (by kernel_rfl) (by kernel_rfl) (by kernel_rfl)
    ⟨fun a M hn h => by obtain ⟨⟨n, f⟩, ds⟩ := a; have hn : n = 202 := hn; subst hn; obtain ⟨hd, h⟩ := dfr_iff h; have hd : ds = [] := hd; subst hd; exact h f rfl rfl rfl rfl rfl rfl rfl rfl rfl rfl rfl rfl,
    trivial⟩
    (cast (by kernel_rfl) h)
def S_lM_7 (x0 x3 x4 x5 x6 x7 x8 x9 x10 x11 x12 : Value) (M : Store) (Q : KP) : Prop :=
  OP (binI .shr x9 (.int .u64 17)) fun t106 =>
  OP (binI .and t106 (.int .i64 3)) fun t107 =>
  OP (binI .eql t107 (.int .i64 0)) fun t108 =>
  BR t108 (
  OP (lenV x10) fun t112 =>
  OP (binI .gtr x7 t112) fun t113 =>
  BR t113 (
  OP (binI .shr x9 (.int .u64 19)) fun t117 =>
  OP (binI .and t117 (.int .i64 7)) fun t118 =>
  OP (lenV x10) fun t121 =>
  OP (binI .sub x7 t121) fun t122 =>
  OP (binI .rem t118 t122) fun t123 =>
  OP (ixA 1 x3 t123) fun t124 =>
  OP (ld 1 false t124 M) fun t125 =>
  OP (binS .add (.string ⟨#[32, 124, 32]⟩) t125) fun t126 =>
  P_lM_8 x0 x3 x4 x5 x6 x7 x8 x9 x10 x11 t126 M Q
  ) (
  P_lM_8 x0 x3 x4 x5 x6 x7 x8 x9 x10 x11 x12 M Q
  )
  ) (
  P_lM_8 x0 x3 x4 x5 x6 x7 x8 x9 x10 x11 x12 M Q
  )
theorem T_lM_7 {x0 x3 x4 x5 x6 x7 x8 x9 x10 x11 x12 : Value} {M : Store} {Q : KP} (h : S_lM_7 x0 x3 x4 x5 x6 x7 x8 x9 x10 x11 x12 M Q) : P_lM_7 x0 x3 x4 x5 x6 x7 x8 x9 x10 x11 x12 M Q := by
  intro f h0 h3 h4 h5 h6 h7 h8 h9 h10 h11 h12; subst h0; subst h3; subst h4; subst h5; subst h6; subst h7; subst h8; subst h9; subst h10; subst h11; subst h12
  unfold At
  exact rule (B := 1000) (N := 202) (ct := (.two .no (.here 1000)))
    [⟨1002, fun a M => dfr a.defers (P_lM_8 (a.get 0) (a.get 3) (a.get 4) (a.get 5) (a.get 6) (a.get 7) (a.get 8) (a.get 9) (a.get 10) (a.get 11) (a.get 12) M Q), fun a M => At Try.prog Ex none Try.f20 [1, 1, 1, 1, 1, 1, 0, 1, 0, 0, 1, 0, 0, 1, 1, 1, 1, 1, 1, 1] a M Q⟩]
    [1000] [] (by kernel_rfl) (by kernel_rfl) (by kernel_rfl) (by kernel_rfl) (by kernel_rfl)
    ⟨fun a M hn h => by obtain ⟨⟨n, f⟩, ds⟩ := a; have hn : n = 202 := hn; subst hn; obtain ⟨hd, h⟩ := dfr_iff h; have hd : ds = [] := hd; subst hd; exact h f rfl rfl rfl rfl rfl rfl rfl rfl rfl rfl rfl,
    trivial⟩
    (cast (by kernel_rfl) h)
def S_lM_8 (x0 x3 x4 x5 x6 x7 x8 x9 x10 x11 x12 : Value) (M : Store) (Q : KP) : Prop :=
  OP (binI .shr x9 (.int .u64 22)) fun t128 =>
  OP (binI .and t128 (.int .i64 7)) fun t129 =>
  OP (binI .eql t129 (.int .i64 0)) fun t130 =>
  BR t130 (
  OP (binS .add x6 (.string ⟨#[112, 104, 111, 110, 121, 32, 112]⟩)) fun t132 =>
  OP (binI .sub x7 (.int .i64 1)) fun t135 =>
  OP (ixA 1 x3 t135) fun t136 =>
  OP (ld 1 false t136 M) fun t137 =>
  OP (binS .add t132 t137) fun t138 =>
  OP (binS .add t138 (.string ⟨#[32, 58]⟩)) fun t139 =>
  OP (binS .add t139 x11) fun t141 =>
  OP (binS .add t141 (.string ⟨#[10]⟩)) fun t142 =>
  P_lM_9 x0 x3 x4 x5 t142 x7 x8 x9 x10 x11 x12 M Q
  ) (
  P_lM_9 x0 x3 x4 x5 x6 x7 x8 x9 x10 x11 x12 M Q
  )
theorem T_lM_8 {x0 x3 x4 x5 x6 x7 x8 x9 x10 x11 x12 : Value} {M : Store} {Q : KP} (h : S_lM_8 x0 x3 x4 x5 x6 x7 x8 x9 x10 x11 x12 M Q) : P_lM_8 x0 x3 x4 x5 x6 x7 x8 x9 x10 x11 x12 M Q := by
  intro f h0 h3 h4 h5 h6 h7 h8 h9 h10 h11 h12; subst h0; subst h3; subst h4; subst h5; subst h6; subst h7; subst h8; subst h9; subst h10; subst h11; subst h12
  unfold At
  exact rule (B := 1000) (N := 202) (ct := (.two .no (.here 1000)))
    [⟨1002, fun a M => dfr a.defers (P_lM_9 (a.get 0) (a.get 3) (a.get 4) (a.get 5) (a.get 6) (a.get 7) (a.get 8) (a.get 9) (a.get 10) (a.get 11) (a.get 12) M Q), fun a M => At Try.prog Ex none Try.f20 [1, 1, 1, 1, 1, 1, 0, 1, 0, 0, 1, 0, 0, 1, 1, 1, 1, 1, 1, 1, 1] a M Q⟩]
    [1000] [] (by kernel_rfl) (by kernel_rfl) (by kernel_rfl) (by kernel_rfl) (by kernel_rfl)
    ⟨fun a M hn h => by obtain ⟨⟨n, f⟩, ds⟩ := a; have hn : n = 202 := hn; subst hn; obtain ⟨hd, h⟩ := dfr_iff h; have hd : ds = [] := hd; subst hd; exact h f rfl rfl rfl rfl rfl rfl rfl rfl rfl rfl rfl,
    trivial⟩
    (cast (by kernel_rfl) h)
def S_lM_9 (x0 x3 x4 x5 x6 x7 x8 x9 x10 x11 x12 : Value) (M : Store) (Q : KP) : Prop :=
  OP (binS .add x6 (.string ⟨#[114, 117, 108, 101]⟩)) fun t144 =>
  OP (lenV x10) fun t146 =>
  P_lM_10 x0 x3 x4 x5 t144 x7 x8 x9 x10 x11 x12 x10 t146 (.int .i64 0) M Q
theorem T_lM_9 {x0 x3 x4 x5 x6 x7 x8 x9 x10 x11 x12 : Value} {M : Store} {Q : KP} (h : S_lM_9 x0 x3 x4 x5 x6 x7 x8 x9 x10 x11 x12 M Q) : P_lM_9 x0 x3 x4 x5 x6 x7 x8 x9 x10 x11 x12 M Q := by
  intro f h0 h3 h4 h5 h6 h7 h8 h9 h10 h11 h12; subst h0; subst h3; subst h4; subst h5; subst h6; subst h7; subst h8; subst h9; subst h10; subst h11; subst h12
  unfold At
  exact rule (B := 1000) (N := 202) (ct := (.two .no (.two (.two .no (.two (.here 1000) .no)) (.here 1001))))
    [⟨1002, fun a M => dfr a.defers (P_lM_10 (a.get 0) (a.get 3) (a.get 4) (a.get 5) (a.get 6) (a.get 7) (a.get 8) (a.get 9) (a.get 10) (a.get 11) (a.get 12) (a.get 145) (a.get 146) (a.get 147) M Q), fun a M => At Try.prog Ex none Try.f20 [1, 1, 1, 1, 1, 1, 0, 1, 0, 0, 1, 0, 0, 1, 1, 1, 1, 1, 1, 1, 1, 1, 0, 1, 0] a M Q⟩,
    ⟨1003, fun _ _ => False, fun a M => At Try.prog Ex none Try.f20 [1, 1, 1, 1, 1, 1, 0, 1, 0, 0, 1, 0, 0, 1, 1, 1, 1, 1, 1, 1, 1, 1, 1] a M Q⟩]
    [1000, 1001] [] (by kernel_rfl) (by kernel_rfl) (by kernel_rfl) (by kernel_rfl) (by kernel_rfl)
    ⟨fun a M hn h => by obtain ⟨⟨n, f⟩, ds⟩ := a; have hn : n = 202 := hn; subst hn; obtain ⟨hd, h⟩ := dfr_iff h; have hd : ds = [] := hd; subst hd; exact h f rfl rfl rfl rfl rfl rfl rfl rfl rfl rfl rfl rfl rfl rfl,
    fun _ _ _ h => h.elim,
    trivial⟩
    (cast (by kernel_rfl) h)
def S_lM_10 (x0 x3 x4 x5 x6 x7 x8 x9 x10 x11 x12 x145 x146 x147 : Value) (M : Store) (Q : KP) : Prop :=
  OP (binI .lss x147 x146) fun t148 =>
  BR t148 (
  OP (ixA 1 x145 x147) fun t149 =>
  OP (ld 1 false t149 M) fun t150 =>
  OP (binS .add x6 (.string ⟨#[32]⟩)) fun t152 =>
  OP (binS .add t152 t150) fun t154 =>
  OP (binI .add x147 (.int .i64 1)) fun t155 =>
  P_lM_10 x0 x3 x4 x5 t154 x7 x8 x9 x10 x11 x12 x145 x146 t155 M Q
  ) (
  P_lM_11 x0 x3 x4 x5 x6 x7 x8 x9 x10 x11 x12 M Q
  )
theorem T_lM_10 {x0 x3 x4 x5 x6 x7 x8 x9 x10 x11 x12 x145 x146 x147 : Value} {M : Store} {Q : KP} (h : S_lM_10 x0 x3 x4 x5 x6 x7 x8 x9 x10 x11 x12 x145 x146 x147 M Q) : P_lM_10 x0 x3 x4 x5 x6 x7 x8 x9 x10 x11 x12 x145 x146 x147 M Q := by
  intro f h0 h3 h4 h5 h6 h7 h8 h9 h10 h11 h12 h145 h146 h147; subst h0; subst h3; subst h4; subst h5; subst h6; subst h7; subst h8; subst h9; subst h10; subst h11; subst h12; subst h145; subst h146; subst h147
  unfold At
  refine cast (by kernel_rfl) (CW.loop (P := Try.prog) (E := Ex) (rd := none) (x := sub (bodyOf Try.f20) [1, 1, 1, 1, 1, 1, 0, 1, 0, 0, 1, 0, 0, 1, 1, 1, 1, 1, 1, 1, 1, 1, 0, 1, 0, 0]) (a := ⟨⟨202, f⟩, []⟩) (M := M) (K := kcont Try.prog Ex none (bodyOf Try.f20) [1, 1, 1, 1, 1, 1, 0, 1, 0, 0, 1, 0, 0, 1, 1, 1, 1, 1, 1, 1, 1, 1, 0, 1, 0] (kfin Try.prog Try.f20.results.toList Q)) ?_)
  exact rule (B := 1000) (N := 202) (ct := .no)
    [⟨0, fun a M => dfr a.defers (P_lM_10 (a.get 0) (a.get 3) (a.get 4) (a.get 5) (a.get 6) (a.get 7) (a.get 8) (a.get 9) (a.get 10) (a.get 11) (a.get 12) (a.get 145) (a.get 146) (a.get 147) M Q), fun a M => At Try.prog Ex none Try.f20 [1, 1, 1, 1, 1, 1, 0, 1, 0, 0, 1, 0, 0, 1, 1, 1, 1, 1, 1, 1, 1, 1, 0, 1, 0] a M Q⟩,
    ⟨6, fun a M => dfr a.defers (P_lM_11 (a.get 0) (a.get 3) (a.get 4) (a.get 5) (a.get 6) (a.get 7) (a.get 8) (a.get 9) (a.get 10) (a.get 11) (a.get 12) M Q), fun a M => At Try.prog Ex none Try.f20 [1, 1, 1, 1, 1, 1, 0, 1, 0, 0, 1, 0, 0, 1, 1, 1, 1, 1, 1, 1, 1, 1, 1] a M Q⟩]
    [] [0, 6] (by kernel_rfl) (by kernel_rfl) (by kernel_rfl) (by kernel_rfl) (by kernel_rfl)
    ⟨fun a M hn h => by obtain ⟨⟨n, f⟩, ds⟩ := a; have hn : n = 202 := hn; subst hn; obtain ⟨hd, h⟩ := dfr_iff h; have hd : ds = [] := hd; subst hd; exact h f rfl rfl rfl rfl rfl rfl rfl rfl rfl rfl rfl rfl rfl rfl,
    fun a M hn h => by obtain ⟨⟨n, f⟩, ds⟩ := a; have hn : n = 202 := hn; subst hn; obtain ⟨hd, h⟩ := dfr_iff h; have hd : ds = [] := hd; subst hd; exact h f rfl rfl rfl rfl rfl rfl rfl rfl rfl rfl rfl,
    trivial⟩
    (cast (by kernel_rfl) h)
def S_lM_11 (x0 x3 x4 x5 x6 x7 x8 x9 x10 x11 x12 : Value) (M : Store) (Q : KP) : Prop :=
  OP (binS .add x6 (.string ⟨#[32, 58]⟩)) fun t157 =>
  OP (binS .add t157 x11) fun t159 =>
  OP (binS .add t159 x12) fun t161 =>
  OP (binS .add t161 (.string ⟨#[32, 61]⟩)) fun t162 =>
  OP (lenV x10) fun t164 =>
  P_lM_12 x0 x3 x4 x5 t162 x7 x8 x9 t164 (.int .i64 0) M Q
theorem T_lM_11 {x0 x3 x4 x5 x6 x7 x8 x9 x10 x11 x12 : Value} {M : Store} {Q : KP} (h : S_lM_11 x0 x3 x4 x5 x6 x7 x8 x9 x10 x11 x12 M Q) : P_lM_11 x0 x3 x4 x5 x6 x7 x8 x9 x10 x11 x12 M Q := by
  intro f h0 h3 h4 h5 h6 h7 h8 h9 h10 h11 h12; subst h0; subst h3; subst h4; subst h5; subst h6; subst h7; subst h8; subst h9; subst h10; subst h11; subst h12
  unfold At
  exact rule (B := 1000) (N := 202) (ct := (.two .no (.two (.two .no (.two (.here 1000) .no)) (.here 1001))))
    [⟨1002, fun a M => dfr a.defers (P_lM_12 (a.get 0) (a.get 3) (a.get 4) (a.get 5) (a.get 6) (a.get 7) (a.get 8) (a.get 9) (a.get 164) (a.get 165) M Q), fun a M => At Try.prog Ex none Try.f20 [1, 1, 1, 1, 1, 1, 0, 1, 0, 0, 1, 0, 0, 1, 1, 1, 1, 1, 1, 1, 1, 1, 1, 1, 0, 1, 0] a M Q⟩,
    ⟨1003, fun _ _ => False, fun a M => At Try.prog Ex none Try.f20 [1, 1, 1, 1, 1, 1, 0, 1, 0, 0, 1, 0, 0, 1, 1, 1, 1, 1, 1, 1, 1, 1, 1, 1, 1] a M Q⟩]
    [1000, 1001] [] (by kernel_rfl) (by kernel_rfl) (by kernel_rfl) (by kernel_rfl) (by kernel_rfl)
    ⟨fun a M hn h => by obtain ⟨⟨n, f⟩, ds⟩ := a; have hn : n = 202 := hn; subst hn; obtain ⟨hd, h⟩ := dfr_iff h; have hd : ds = [] := hd; subst hd; exact h f rfl rfl rfl rfl rfl rfl rfl rfl rfl rfl,
    fun _ _ _ h => h.elim,
    trivial⟩
    (cast (by kernel_rfl) h)
def S_lM_12 (x0 x3 x4 x5 x6 x7 x8 x9 x164 x165 : Value) (M : Store) (Q : KP) : Prop :=
  OP (binI .lss x165 x164) fun t166 =>
  BR t166 (
  P_lM_13 x0 x3 x4 x5 x6 x7 x8 x9 x164 x165 M Q
  ) (
  P_lM_14 x0 x3 x4 x5 x6 x7 x8 M Q
  )
theorem T_lM_12 {x0 x3 x4 x5 x6 x7 x8 x9 x164 x165 : Value} {M : Store} {Q : KP} (h : S_lM_12 x0 x3 x4 x5 x6 x7 x8 x9 x164 x165 M Q) : P_lM_12 x0 x3 x4 x5 x6 x7 x8 x9 x164 x165 M Q := by
  intro f h0 h3 h4 h5 h6 h7 h8 h9 h164 h165; subst h0; subst h3; subst h4; subst h5; subst h6; subst h7; subst h8; subst h9; subst h164; subst h165
  unfold At
  refine cast (by kernel_rfl) (CW.loop (P := Try.prog) (E := Ex) (rd := none) (x := sub (bodyOf Try.f20) [1, 1, 1, 1, 1, 1, 0, 1, 0, 0, 1, 0, 0, 1, 1, 1, 1, 1, 1, 1, 1, 1, 1, 1, 0, 1, 0, 0]) (a := ⟨⟨202, f⟩, []⟩) (M := M) (K := kcont Try.prog Ex none (bodyOf Try.f20) [1, 1, 1, 1, 1, 1, 0, 1, 0, 0, 1, 0, 0, 1, 1, 1, 1, 1, 1, 1, 1, 1, 1, 1, 0, 1, 0] (kfin Try.prog Try.f20.results.toList Q)) ?_)
  exact rule (B := 1000) (N := 202) (ct := (.two .no (.two .no (.here 1000))))
    [⟨1002, fun a M => dfr a.defers (P_lM_13 (a.get 0) (a.get 3) (a.get 4) (a.get 5) (a.get 6) (a.get 7) (a.get 8) (a.get 9) (a.get 164) (a.get 165) M Q), fun a M => At Try.prog Ex none Try.f20 [1, 1, 1, 1, 1, 1, 0, 1, 0, 0, 1, 0, 0, 1, 1, 1, 1, 1, 1, 1, 1, 1, 1, 1, 0, 1, 0, 0, 1, 1] a M Q⟩,
    ⟨8, fun a M => dfr a.defers (P_lM_14 (a.get 0) (a.get 3) (a.get 4) (a.get 5) (a.get 6) (a.get 7) (a.get 8) M Q), fun a M => At Try.prog Ex none Try.f20 [1, 1, 1, 1, 1, 1, 0, 1, 0, 0, 1, 0, 0, 1, 1, 1, 1, 1, 1, 1, 1, 1, 1, 1, 1] a M Q⟩]
    [1000] [8] (by kernel_rfl) (by kernel_rfl) (by kernel_rfl) (by kernel_rfl) (by kernel_rfl)
    ⟨fun a M hn h => by obtain ⟨⟨n, f⟩, ds⟩ := a; have hn : n = 202 := hn; subst hn; obtain ⟨hd, h⟩ := dfr_iff h; have hd : ds = [] := hd; subst hd; exact h f rfl rfl rfl rfl rfl rfl rfl rfl rfl rfl,
    fun a M hn h => by obtain ⟨⟨n, f⟩, ds⟩ := a; have hn : n = 202 := hn; subst hn; obtain ⟨hd, h⟩ := dfr_iff h; have hd : ds = [] := hd; subst hd; exact h f rfl rfl rfl rfl rfl rfl rfl,
    trivial⟩
    (cast (by kernel_rfl) h)
def S_lM_13 (x0 x3 x4 x5 x6 x7 x8 x9 x164 x165 : Value) (M : Store) (Q : KP) : Prop :=
  OP (binI .gtr x165 (.int .i64 0)) fun t169 =>
  BR t169 (
  OP (binS .add x6 (.string ⟨#[32, 44]⟩)) fun t171 =>
  P_lM_15 x0 x3 x4 x5 t171 x7 x8 x9 x165 x164 x165 M Q
  ) (
  P_lM_15 x0 x3 x4 x5 x6 x7 x8 x9 x165 x164 x165 M Q
  )
theorem T_lM_13 {x0 x3 x4 x5 x6 x7 x8 x9 x164 x165 : Value} {M : Store} {Q : KP} (h : S_lM_13 x0 x3 x4 x5 x6 x7 x8 x9 x164 x165 M Q) : P_lM_13 x0 x3 x4 x5 x6 x7 x8 x9 x164 x165 M Q := by
  intro f h0 h3 h4 h5 h6 h7 h8 h9 h164 h165; subst h0; subst h3; subst h4; subst h5; subst h6; subst h7; subst h8; subst h9; subst h164; subst h165
  unfold At
  exact rule (B := 1000) (N := 202) (ct := (.two (.two (.two .no (.two .no (.here 1000))) .no) (.here 1001)))
    [⟨1002, fun a M => dfr a.defers (P_lM_15 (a.get 0) (a.get 3) (a.get 4) (a.get 5) (a.get 6) (a.get 7) (a.get 8) (a.get 9) (a.get 17) (a.get 164) (a.get 165) M Q), fun a M => At Try.prog Ex none Try.f20 [1, 1, 1, 1, 1, 1, 0, 1, 0, 0, 1, 0, 0, 1, 1, 1, 1, 1, 1, 1, 1, 1, 1, 1, 0, 1, 0, 0, 1, 1, 0, 0, 1, 1] a M Q⟩,
    ⟨1003, fun _ _ => False, fun a M => At Try.prog Ex none Try.f20 [1, 1, 1, 1, 1, 1, 0, 1, 0, 0, 1, 0, 0, 1, 1, 1, 1, 1, 1, 1, 1, 1, 1, 1, 0, 1, 0, 0, 1, 1, 1] a M Q⟩]
    [1000, 1001] [] (by kernel_rfl) (by kernel_rfl) (by kernel_rfl) (by kernel_rfl) (by kernel_rfl)
    ⟨fun a M hn h => by obtain ⟨⟨n, f⟩, ds⟩ := a; have hn : n = 202 := hn; subst hn; obtain ⟨hd, h⟩ := dfr_iff h; have hd : ds = [] := hd; subst hd; exact h f rfl rfl rfl rfl rfl rfl rfl rfl rfl rfl rfl,
    fun _ _ _ h => h.elim,
    trivial⟩
    (cast (by kernel_rfl) h)
def S_lM_14 (x0 x3 x4 x5 x6 x7 x8 : Value) (M : Store) (Q : KP) : Prop :=
  OP (binS .add x6 (.string ⟨#[10]⟩)) fun t199 =>
  P_lM_16 x0 x3 x4 x5 t199 x7 x8 M Q
theorem T_lM_14 {x0 x3 x4 x5 x6 x7 x8 : Value} {M : Store} {Q : KP} (h : S_lM_14 x0 x3 x4 x5 x6 x7 x8 M Q) : P_lM_14 x0 x3 x4 x5 x6 x7 x8 M Q := by
  intro f h0 h3 h4 h5 h6 h7 h8; subst h0; subst h3; subst h4; subst h5; subst h6; subst h7; subst h8
  unfold At
  exact rule (B := 1000) (N := 202) (ct := .no)
    [⟨0, fun a M => dfr a.defers (P_lM_16 (a.get 0) (a.get 3) (a.get 4) (a.get 5) (a.get 6) (a.get 7) (a.get 8) M Q), fun a M => At Try.prog Ex none Try.f20 [1, 1, 1, 1, 1, 1, 0, 1, 0, 0, 1, 1] a M Q⟩]
    [] [0] (by kernel_rfl) (by kernel_rfl) (by kernel_rfl) (by kernel_rfl) (by kernel_rfl)
    ⟨fun a M hn h => by obtain ⟨⟨n, f⟩, ds⟩ := a; have hn : n = 202 := hn; subst hn; obtain ⟨hd, h⟩ := dfr_iff h; have hd : ds = [] := hd; subst hd; exact h f rfl rfl rfl rfl rfl rfl rfl,
    trivial⟩
    (cast (by kernel_rfl) h)
def S_lM_15 (x0 x3 x4 x5 x6 x7 x8 x9 x17 x164 x165 : Value) (M : Store) (Q : KP) : Prop :=
  OP (binI .mul (.int .i64 2) x17) fun t175 =>
  OP (binI .add (.int .i64 24) t175) fun t176 =>
  OP (cvI .u64 t176) fun t177 =>
  OP (binI .shr x9 t177) fun t178 =>
  OP (binI .and t178 (.int .i64 7)) fun t179 =>
  OP (lenV x5) fun t181 =>
  OP (binI .rem t179 t181) fun t182 =>
  OP (ixA 1 x5 t182) fun t183 =>
  OP (ld 1 false t183 M) fun t184 =>
  OP (binI .shr x9 (.int .u64 28)) fun t186 =>
  OP (binI .and t186 (.int .i64 3)) fun t187 =>
  OP (binI .gtr t187 (.int .i64 0)) fun t188 =>
  BR t188 (
  OP (binS .eql t184 (.string ⟨#[97, 108, 108, 32, 59, 32, 102, 97, 105, 108]⟩)) fun t191 =>
  BR t191 (
  OP (binS .add x6 (.string ⟨#[32]⟩)) fun t194 =>
  OP (binS .add t194 (.string ⟨#[97, 108, 108]⟩)) fun t196 =>
  P_lM_17 x0 x3 x4 x5 t196 x7 x8 x9 x164 x165 M Q
  ) (
  OP (binS .add x6 (.string ⟨#[32]⟩)) fun t194_1 =>
  OP (binS .add t194_1 t184) fun t196_1 =>
  P_lM_17 x0 x3 x4 x5 t196_1 x7 x8 x9 x164 x165 M Q
  )
  ) (
  OP (binS .add x6 (.string ⟨#[32]⟩)) fun t194_2 =>
  OP (binS .add t194_2 t184) fun t196_2 =>
  P_lM_17 x0 x3 x4 x5 t196_2 x7 x8 x9 x164 x165 M Q
  )
theorem T_lM_15 {x0 x3 x4 x5 x6 x7 x8 x9 x17 x164 x165 : Value} {M : Store} {Q : KP} (h : S_lM_15 x0 x3 x4 x5 x6 x7 x8 x9 x17 x164 x165 M Q) : P_lM_15 x0 x3 x4 x5 x6 x7 x8 x9 x17 x164 x165 M Q := by
  intro f h0 h3 h4 h5 h6 h7 h8 h9 h17 h164 h165; subst h0; subst h3; subst h4; subst h5; subst h6; subst h7; subst h8; subst h9; subst h17; subst h164; subst h165
  unfold At
  exact rule (B := 1000) (N := 202) (ct := .no)
    [⟨0, fun a M => dfr a.defers (P_lM_17 (a.get 0) (a.get 3) (a.get 4) (a.get 5) (a.get 6) (a.get 7) (a.get 8) (a.get 9) (a.get 164) (a.get 165) M Q), fun a M => At Try.prog Ex none Try.f20 [1, 1, 1, 1, 1, 1, 0, 1, 0, 0, 1, 0, 0, 1, 1, 1, 1, 1, 1, 1, 1, 1, 1, 1, 0, 1, 0, 0, 1, 1, 1] a M Q⟩]
    [] [0] (by kernel_rfl) (by kernel_rfl) (by kernel_rfl) (by kernel_rfl) (by kernel_rfl)
    ⟨fun a M hn h => by obtain ⟨⟨n, f⟩, ds⟩ := a; have hn : n = 202 := hn; subst hn; obtain ⟨hd, h⟩ := dfr_iff h; have hd : ds = [] := hd; subst hd; exact h f rfl rfl rfl rfl rfl rfl rfl rfl rfl rfl,
    trivial⟩
    (cast (by kernel_rfl) h)
def S_lM_16 (x0 x3 x4 x5 x6 x7 x8 : Value) (M : Store) (Q : KP) : Prop :=
  OP (binI .add x8 (.int .i64 1)) fun t35 =>
  P_lM_1 x0 x3 x4 x5 x6 x7 t35 M Q
theorem T_lM_16 {x0 x3 x4 x5 x6 x7 x8 : Value} {M : Store} {Q : KP} (h : S_lM_16 x0 x3 x4 x5 x6 x7 x8 M Q) : P_lM_16 x0 x3 x4 x5 x6 x7 x8 M Q := by
  intro f h0 h3 h4 h5 h6 h7 h8; subst h0; subst h3; subst h4; subst h5; subst h6; subst h7; subst h8
  unfold At
  exact rule (B := 1000) (N := 202) (ct := .no)
    [⟨0, fun a M => dfr a.defers (P_lM_1 (a.get 0) (a.get 3) (a.get 4) (a.get 5) (a.get 6) (a.get 7) (a.get 8) M Q), fun a M => At Try.prog Ex none Try.f20 [1, 1, 1, 1, 1, 1, 0, 1, 0] a M Q⟩]
    [] [0] (by kernel_rfl) (by kernel_rfl) (by kernel_rfl) (by kernel_rfl) (by kernel_rfl)
    ⟨fun a M hn h => by obtain ⟨⟨n, f⟩, ds⟩ := a; have hn : n = 202 := hn; subst hn; obtain ⟨hd, h⟩ := dfr_iff h; have hd : ds = [] := hd; subst hd; exact h f rfl rfl rfl rfl rfl rfl rfl,
    trivial⟩
    (cast (by kernel_rfl) h)
def S_lM_17 (x0 x3 x4 x5 x6 x7 x8 x9 x164 x165 : Value) (M : Store) (Q : KP) : Prop :=
  OP (binI .add x165 (.int .i64 1)) fun t197 =>
  P_lM_12 x0 x3 x4 x5 x6 x7 x8 x9 x164 t197 M Q
theorem T_lM_17 {x0 x3 x4 x5 x6 x7 x8 x9 x164 x165 : Value} {M : Store} {Q : KP} (h : S_lM_17 x0 x3 x4 x5 x6 x7 x8 x9 x164 x165 M Q) : P_lM_17 x0 x3 x4 x5 x6 x7 x8 x9 x164 x165 M Q := by
  intro f h0 h3 h4 h5 h6 h7 h8 h9 h164 h165; subst h0; subst h3; subst h4; subst h5; subst h6; subst h7; subst h8; subst h9; subst h164; subst h165
  unfold At
  exact rule (B := 1000) (N := 202) (ct := .no)
    [⟨0, fun a M => dfr a.defers (P_lM_12 (a.get 0) (a.get 3) (a.get 4) (a.get 5) (a.get 6) (a.get 7) (a.get 8) (a.get 9) (a.get 164) (a.get 165) M Q), fun a M => At Try.prog Ex none Try.f20 [1, 1, 1, 1, 1, 1, 0, 1, 0, 0, 1, 0, 0, 1, 1, 1, 1, 1, 1, 1, 1, 1, 1, 1, 0, 1, 0] a M Q⟩]
    [] [0] (by kernel_rfl) (by kernel_rfl) (by kernel_rfl) (by kernel_rfl) (by kernel_rfl)
    ⟨fun a M hn h => by obtain ⟨⟨n, f⟩, ds⟩ := a; have hn : n = 202 := hn; subst hn; obtain ⟨hd, h⟩ := dfr_iff h; have hd : ds = [] := hd; subst hd; exact h f rfl rfl rfl rfl rfl rfl rfl rfl rfl rfl,
    trivial⟩
    (cast (by kernel_rfl) h)
end Go.G
