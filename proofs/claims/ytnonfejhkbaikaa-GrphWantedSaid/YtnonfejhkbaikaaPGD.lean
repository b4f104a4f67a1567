/-  -/
import Derived.Test.YtnonfejhkbaikaaPGN
open Go.RowKit
namespace Go.G
open Go.Ab Go.Proofs
set_option linter.unusedVariables false
set_option maxRecDepth 100000
def P_grph_Order_int_1 (x0 x1 x6 x22 x23 x24 : Value) (M : Store) (Q : KP) : Prop :=
  ∀ f : Nat → Value, f 0 = x0 → f 1 = x1 → f 6 = x6 → f 22 = x22 → f 23 = x23 → f 24 = x24 → At Try.prog Ex none Try.f13 [1, 1, 1, 0, 1, 0] ⟨⟨94, f⟩, []⟩ M Q
def P_grph_Order_int_2 (x0 x1 x6 : Value) (M : Store) (Q : KP) : Prop :=
  ∀ f : Nat → Value, f 0 = x0 → f 1 = x1 → f 6 = x6 → At Try.prog Ex none Try.f13 [1, 1, 1, 1] ⟨⟨94, f⟩, []⟩ M Q
def P_grph_Order_int_3 (x0 x1 x6 x9 x36 x37 x38 : Value) (M : Store) (Q : KP) : Prop :=
  ∀ f : Nat → Value, f 0 = x0 → f 1 = x1 → f 6 = x6 → f 9 = x9 → f 36 = x36 → f 37 = x37 → f 38 = x38 → At Try.prog Ex none Try.f13 [1, 1, 1, 1, 1, 0, 1, 0] ⟨⟨94, f⟩, []⟩ M Q
def P_grph_Order_int_4 (x0 x1 x6 x9 x10 x36 x37 x38 x45 x46 x47 : Value) (M : Store) (Q : KP) : Prop :=
  ∀ f : Nat → Value, f 0 = x0 → f 1 = x1 → f 6 = x6 → f 9 = x9 → f 10 = x10 → f 36 = x36 → f 37 = x37 → f 38 = x38 → f 45 = x45 → f 46 = x46 → f 47 = x47 → At Try.prog Ex none Try.f13 [1, 1, 1, 1, 1, 0, 1, 0, 0, 1, 1, 0, 0, 1, 1, 0] ⟨⟨94, f⟩, []⟩ M Q
def P_grph_Order_int_5 (x0 x9 : Value) (M : Store) (Q : KP) : Prop :=
  ∀ f : Nat → Value, f 0 = x0 → f 9 = x9 → At Try.prog Ex none Try.f13 [1, 1, 1, 1, 1, 1] ⟨⟨94, f⟩, []⟩ M Q
def P_grph_Order_int_6 (x0 x1 x6 x9 x10 x36 x37 x38 x45 x46 x47 : Value) (M : Store) (Q : KP) : Prop :=
  ∀ f : Nat → Value, f 0 = x0 → f 1 = x1 → f 6 = x6 → f 9 = x9 → f 10 = x10 → f 36 = x36 → f 37 = x37 → f 38 = x38 → f 45 = x45 → f 46 = x46 → f 47 = x47 → At Try.prog Ex none Try.f13 [1, 1, 1, 1, 1, 0, 1, 0, 0, 1, 1, 0, 0, 1, 1, 0, 0, 1, 1] ⟨⟨94, f⟩, []⟩ M Q
def P_grph_Order_int_7 (x0 x1 x6 x9 x36 x37 x38 : Value) (M : Store) (Q : KP) : Prop :=
  ∀ f : Nat → Value, f 0 = x0 → f 1 = x1 → f 6 = x6 → f 9 = x9 → f 36 = x36 → f 37 = x37 → f 38 = x38 → At Try.prog Ex none Try.f13 [1, 1, 1, 1, 1, 0, 1, 0, 0, 1, 1, 1] ⟨⟨94, f⟩, []⟩ M Q
def P_grph_Order_int_8 (x0 x9 x16 x17 x74 x75 : Value) (M : Store) (Q : KP) : Prop :=
  ∀ f : Nat → Value, f 0 = x0 → f 9 = x9 → f 16 = x16 → f 17 = x17 → f 74 = x74 → f 75 = x75 → At Try.prog Ex none Try.f13 [1, 1, 1, 1, 1, 1, 1, 1, 0, 1, 0] ⟨⟨94, f⟩, []⟩ M Q
def P_grph_Order_int_9 (x0 x9 x16 x17 x74 x75 : Value) (M : Store) (Q : KP) : Prop :=
  ∀ f : Nat → Value, f 0 = x0 → f 9 = x9 → f 16 = x16 → f 17 = x17 → f 74 = x74 → f 75 = x75 → At Try.prog Ex none Try.f13 [1, 1, 1, 1, 1, 1, 1, 1, 0, 1, 0, 0, 1, 1] ⟨⟨94, f⟩, []⟩ M Q
def P_grph_Order_int_10 (x17 : Value) (M : Store) (Q : KP) : Prop :=
  ∀ f : Nat → Value, f 17 = x17 → At Try.prog Ex none Try.f13 [1, 1, 1, 1, 1, 1, 1, 1, 1] ⟨⟨94, f⟩, []⟩ M Q
def S_grph_Order_int (x0 x1 : Value) (M : Store) (Q : KP) : Prop :=
  R F.grph_unlike_int #[x0] M fun t20 M1 =>
  LT (.map (some M1.n)) (M1.push (some (.inr (.inl [])))) fun t21 M2 =>
  OP (lenV t20) fun t23 =>
  P_grph_Order_int_1 t20 x1 t21 t20 t23 (.int .i64 0) M2 Q
theorem T_grph_Order_int {x0 x1 : Value} {M : Store} {Q : KP} (h : S_grph_Order_int x0 x1 M Q) : R F.grph_Order_int #[x0, x1] M Q := by
  refine runs_of (c := bodyOf Try.f13) Try.func13 rfl (by kernel_rfl) (by kernel_rfl) ?_
  unfold At
  exact rule (B := 1000) (N := 94) (ct := (.two .no (.two .no (.two .no (.two (.two .no (.two (.here 1000) .no)) (.here 1001))))))
    [⟨1002, fun a M => dfr a.defers (P_grph_Order_int_1 (a.get 0) (a.get 1) (a.get 6) (a.get 22) (a.get 23) (a.get 24) M Q), fun a M => At Try.prog Ex none Try.f13 [1, 1, 1, 0, 1, 0] a M Q⟩,
    ⟨1003, fun _ _ => False, fun a M => At Try.prog Ex none Try.f13 [1, 1, 1, 1] a M Q⟩]
    [1000, 1001] [] (by kernel_rfl) (by kernel_rfl) (by kernel_rfl) (by kernel_rfl) (by kernel_rfl)
    ⟨fun a M hn h => by obtain ⟨⟨n, f⟩, ds⟩ := a; have hn : n = 94 := hn; subst hn; obtain ⟨hd, h⟩ := dfr_iff h; have hd : ds = [] := hd; subst hd; exact h f rfl rfl rfl rfl rfl rfl,
    fun _ _ _ h => h.elim,
    trivial⟩
    (cast (by kernel_rfl) h)
def S_grph_Order_int_1 (x0 x1 x6 x22 x23 x24 : Value) (M : Store) (Q : KP) : Prop :=
  OP (binI .lss x24 x23) fun t25 =>
  BR t25 (
  OP (ixA 1 x22 x24) fun t27 =>
  OP (ld 1 false t27 M) fun t28 =>
  OP (mup (.int .i64) x6 t28 x24 M) fun M1 =>
  OP (binI .add x24 (.int .i64 1)) fun t32 =>
  P_grph_Order_int_1 x0 x1 x6 x22 x23 t32 M1 Q
  ) (
  P_grph_Order_int_2 x0 x1 x6 M Q
  )
theorem T_grph_Order_int_1 {x0 x1 x6 x22 x23 x24 : Value} {M : Store} {Q : KP} (h : S_grph_Order_int_1 x0 x1 x6 x22 x23 x24 M Q) : P_grph_Order_int_1 x0 x1 x6 x22 x23 x24 M Q := by
  intro f h0 h1 h6 h22 h23 h24; subst h0; subst h1; subst h6; subst h22; subst h23; subst h24
  unfold At
  refine cast (by kernel_rfl) (CW.loop (P := Try.prog) (E := Ex) (rd := none) (x := sub (bodyOf Try.f13) [1, 1, 1, 0, 1, 0, 0]) (a := ⟨⟨94, f⟩, []⟩) (M := M) (K := kcont Try.prog Ex none (bodyOf Try.f13) [1, 1, 1, 0, 1, 0] (kfin Try.prog Try.f13.results.toList Q)) ?_)
  exact rule (B := 1000) (N := 94) (ct := .no)
    [⟨0, fun a M => dfr a.defers (P_grph_Order_int_1 (a.get 0) (a.get 1) (a.get 6) (a.get 22) (a.get 23) (a.get 24) M Q), fun a M => At Try.prog Ex none Try.f13 [1, 1, 1, 0, 1, 0] a M Q⟩,
    ⟨2, fun a M => dfr a.defers (P_grph_Order_int_2 (a.get 0) (a.get 1) (a.get 6) M Q), fun a M => At Try.prog Ex none Try.f13 [1, 1, 1, 1] a M Q⟩]
    [] [0, 2] (by kernel_rfl) (by kernel_rfl) (by kernel_rfl) (by kernel_rfl) (by kernel_rfl)
    ⟨fun a M hn h => by obtain ⟨⟨n, f⟩, ds⟩ := a; have hn : n = 94 := hn; subst hn; obtain ⟨hd, h⟩ := dfr_iff h; have hd : ds = [] := hd; subst hd; exact h f rfl rfl rfl rfl rfl rfl,
    fun a M hn h => by obtain ⟨⟨n, f⟩, ds⟩ := a; have hn : n = 94 := hn; subst hn; obtain ⟨hd, h⟩ := dfr_iff h; have hd : ds = [] := hd; subst hd; exact h f rfl rfl rfl,
    trivial⟩
    (cast (by kernel_rfl) h)
def S_grph_Order_int_2 (x0 x1 x6 : Value) (M : Store) (Q : KP) : Prop :=
  OP (lenV x0) fun t34 =>
  OP2 (mkS (.slice none 0 0) 1 24 Ty.sl_int t34 t34 M) fun t35 M1 =>
  OP (lenV x0) fun t37 =>
  P_grph_Order_int_3 x0 x1 x6 t35 x0 t37 (.int .i64 0) M1 Q
theorem T_grph_Order_int_2 {x0 x1 x6 : Value} {M : Store} {Q : KP} (h : S_grph_Order_int_2 x0 x1 x6 M Q) : P_grph_Order_int_2 x0 x1 x6 M Q := by
  intro f h0 h1 h6; subst h0; subst h1; subst h6
  unfold At
  exact rule (B := 1000) (N := 94) (ct := (.two .no (.two (.two .no (.two (.here 1000) .no)) (.here 1001))))
    [⟨1002, fun a M => dfr a.defers (P_grph_Order_int_3 (a.get 0) (a.get 1) (a.get 6) (a.get 9) (a.get 36) (a.get 37) (a.get 38) M Q), fun a M => At Try.prog Ex none Try.f13 [1, 1, 1, 1, 1, 0, 1, 0] a M Q⟩,
    ⟨1003, fun _ _ => False, fun a M => At Try.prog Ex none Try.f13 [1, 1, 1, 1, 1, 1] a M Q⟩]
    [1000, 1001] [] (by kernel_rfl) (by kernel_rfl) (by kernel_rfl) (by kernel_rfl) (by kernel_rfl)
    ⟨fun a M hn h => by obtain ⟨⟨n, f⟩, ds⟩ := a; have hn : n = 94 := hn; subst hn; obtain ⟨hd, h⟩ := dfr_iff h; have hd : ds = [] := hd; subst hd; exact h f rfl rfl rfl rfl rfl rfl rfl,
    fun _ _ _ h => h.elim,
    trivial⟩
    (cast (by kernel_rfl) h)
def S_grph_Order_int_3 (x0 x1 x6 x9 x36 x37 x38 : Value) (M : Store) (Q : KP) : Prop :=
  OP (binI .lss x38 x37) fun t39 =>
  BR t39 (
  OP (ixA 1 x36 x38) fun t41 =>
  OP (ld 1 false t41 M) fun t42 =>
  KC x1 [t42] M fun t45 M1 =>
  OP (lenV t45) fun t46 =>
  P_grph_Order_int_4 x0 x1 x6 x9 x38 x36 x37 x38 t45 t46 (.int .i64 0) M1 Q
  ) (
  P_grph_Order_int_5 x0 x9 M Q
  )
theorem T_grph_Order_int_3 {x0 x1 x6 x9 x36 x37 x38 : Value} {M : Store} {Q : KP} (h : S_grph_Order_int_3 x0 x1 x6 x9 x36 x37 x38 M Q) : P_grph_Order_int_3 x0 x1 x6 x9 x36 x37 x38 M Q := by
  intro f h0 h1 h6 h9 h36 h37 h38; subst h0; subst h1; subst h6; subst h9; subst h36; subst h37; subst h38
  unfold At
  refine cast (by kernel_rfl) (CW.loop (P := Try.prog) (E := Ex) (rd := none) (x := sub (bodyOf Try.f13) [1, 1, 1, 1, 1, 0, 1, 0, 0]) (a := ⟨⟨94, f⟩, []⟩) (M := M) (K := kcont Try.prog Ex none (bodyOf Try.f13) [1, 1, 1, 1, 1, 0, 1, 0] (kfin Try.prog Try.f13.results.toList Q)) ?_)
  exact rule (B := 1000) (N := 94) (ct := (.two .no (.two .no (.two (.two (.two .no (.two .no (.two (.here 1000) .no))) .no) (.here 1001)))))
    [⟨1002, fun a M => dfr a.defers (P_grph_Order_int_4 (a.get 0) (a.get 1) (a.get 6) (a.get 9) (a.get 10) (a.get 36) (a.get 37) (a.get 38) (a.get 45) (a.get 46) (a.get 47) M Q), fun a M => At Try.prog Ex none Try.f13 [1, 1, 1, 1, 1, 0, 1, 0, 0, 1, 1, 0, 0, 1, 1, 0] a M Q⟩,
    ⟨1003, fun _ _ => False, fun a M => At Try.prog Ex none Try.f13 [1, 1, 1, 1, 1, 0, 1, 0, 0, 1, 1, 1] a M Q⟩,
    ⟨4, fun a M => dfr a.defers (P_grph_Order_int_5 (a.get 0) (a.get 9) M Q), fun a M => At Try.prog Ex none Try.f13 [1, 1, 1, 1, 1, 1] a M Q⟩]
    [1000, 1001] [4] (by kernel_rfl) (by kernel_rfl) (by kernel_rfl) (by kernel_rfl) (by kernel_rfl)
    ⟨fun a M hn h => by obtain ⟨⟨n, f⟩, ds⟩ := a; have hn : n = 94 := hn; subst hn; obtain ⟨hd, h⟩ := dfr_iff h; have hd : ds = [] := hd; subst hd; exact h f rfl rfl rfl rfl rfl rfl rfl rfl rfl rfl rfl,
    fun _ _ _ h => h.elim,
    fun a M hn h => by obtain ⟨⟨n, f⟩, ds⟩ := a; have hn : n = 94 := hn; subst hn; obtain ⟨hd, h⟩ := dfr_iff h; have hd : ds = [] := hd; subst hd; exact h f rfl rfl,
    trivial⟩
    (cast (by kernel_rfl) h)
def S_grph_Order_int_4 (x0 x1 x6 x9 x10 x36 x37 x38 x45 x46 x47 : Value) (M : Store) (Q : KP) : Prop :=
  OP (binI .lss x47 x46) fun t48 =>
  BR t48 (
  P_grph_Order_int_6 x0 x1 x6 x9 x10 x36 x37 x38 x45 x46 x47 M Q
  ) (
  P_grph_Order_int_7 x0 x1 x6 x9 x36 x37 x38 M Q
  )
theorem T_grph_Order_int_4 {x0 x1 x6 x9 x10 x36 x37 x38 x45 x46 x47 : Value} {M : Store} {Q : KP} (h : S_grph_Order_int_4 x0 x1 x6 x9 x10 x36 x37 x38 x45 x46 x47 M Q) : P_grph_Order_int_4 x0 x1 x6 x9 x10 x36 x37 x38 x45 x46 x47 M Q := by
  intro f h0 h1 h6 h9 h10 h36 h37 h38 h45 h46 h47; subst h0; subst h1; subst h6; subst h9; subst h10; subst h36; subst h37; subst h38; subst h45; subst h46; subst h47
  unfold At
  refine cast (by kernel_rfl) (CW.loop (P := Try.prog) (E := Ex) (rd := none) (x := sub (bodyOf Try.f13) [1, 1, 1, 1, 1, 0, 1, 0, 0, 1, 1, 0, 0, 1, 1, 0, 0]) (a := ⟨⟨94, f⟩, []⟩) (M := M) (K := kcont Try.prog Ex none (bodyOf Try.f13) [1, 1, 1, 1, 1, 0, 1, 0, 0, 1, 1, 0, 0, 1, 1, 0] (kfin Try.prog Try.f13.results.toList Q)) ?_)
  exact rule (B := 1000) (N := 94) (ct := (.two .no (.two .no (.here 1000))))
    [⟨1002, fun a M => dfr a.defers (P_grph_Order_int_6 (a.get 0) (a.get 1) (a.get 6) (a.get 9) (a.get 10) (a.get 36) (a.get 37) (a.get 38) (a.get 45) (a.get 46) (a.get 47) M Q), fun a M => At Try.prog Ex none Try.f13 [1, 1, 1, 1, 1, 0, 1, 0, 0, 1, 1, 0, 0, 1, 1, 0, 0, 1, 1] a M Q⟩,
    ⟨6, fun a M => dfr a.defers (P_grph_Order_int_7 (a.get 0) (a.get 1) (a.get 6) (a.get 9) (a.get 36) (a.get 37) (a.get 38) M Q), fun a M => At Try.prog Ex none Try.f13 [1, 1, 1, 1, 1, 0, 1, 0, 0, 1, 1, 1] a M Q⟩]
    [1000] [6] (by kernel_rfl) (by kernel_rfl) (by kernel_rfl) (by kernel_rfl) (by kernel_rfl)
    ⟨fun a M hn h => by obtain ⟨⟨n, f⟩, ds⟩ := a; have hn : n = 94 := hn; subst hn; obtain ⟨hd, h⟩ := dfr_iff h; have hd : ds = [] := hd; subst hd; exact h f rfl rfl rfl rfl rfl rfl rfl rfl rfl rfl rfl,
    fun a M hn h => by obtain ⟨⟨n, f⟩, ds⟩ := a; have hn : n = 94 := hn; subst hn; obtain ⟨hd, h⟩ := dfr_iff h; have hd : ds = [] := hd; subst hd; exact h f rfl rfl rfl rfl rfl rfl rfl,
    trivial⟩
    (cast (by kernel_rfl) h)
def S_grph_Order_int_5 (x0 x9 : Value) (M : Store) (Q : KP) : Prop :=
  OP (lenV x0) fun t71 =>
  OP2 (mkS (.bool false) 1 1 Ty.bool t71 t71 M) fun t72 M1 =>
  OP (lenV x0) fun t74 =>
  P_grph_Order_int_8 x0 x9 t72 (.slice none 0 0) t74 (.int .i64 0) M1 Q
theorem T_grph_Order_int_5 {x0 x9 : Value} {M : Store} {Q : KP} (h : S_grph_Order_int_5 x0 x9 M Q) : P_grph_Order_int_5 x0 x9 M Q := by
  intro f h0 h9; subst h0; subst h9
  unfold At
  exact rule (B := 1000) (N := 94) (ct := (.two .no (.two .no (.two (.two .no (.two (.here 1000) .no)) (.here 1001)))))
    [⟨1002, fun a M => dfr a.defers (P_grph_Order_int_8 (a.get 0) (a.get 9) (a.get 16) (a.get 17) (a.get 74) (a.get 75) M Q), fun a M => At Try.prog Ex none Try.f13 [1, 1, 1, 1, 1, 1, 1, 1, 0, 1, 0] a M Q⟩,
    ⟨1003, fun _ _ => False, fun a M => At Try.prog Ex none Try.f13 [1, 1, 1, 1, 1, 1, 1, 1, 1] a M Q⟩]
    [1000, 1001] [] (by kernel_rfl) (by kernel_rfl) (by kernel_rfl) (by kernel_rfl) (by kernel_rfl)
    ⟨fun a M hn h => by obtain ⟨⟨n, f⟩, ds⟩ := a; have hn : n = 94 := hn; subst hn; obtain ⟨hd, h⟩ := dfr_iff h; have hd : ds = [] := hd; subst hd; exact h f rfl rfl rfl rfl rfl rfl,
    fun _ _ _ h => h.elim,
    trivial⟩
    (cast (by kernel_rfl) h)
def S_grph_Order_int_6 (x0 x1 x6 x9 x10 x36 x37 x38 x45 x46 x47 : Value) (M : Store) (Q : KP) : Prop :=
  OP (ixA 1 x45 x47) fun t49 =>
  OP (ld 1 false t49 M) fun t50 =>
  OP (lku (.int .i64) (.int .i64 0) x6 t50 true M) fun t54 =>
  OP (tup t54 0) fun t55 =>
  OP (tup t54 1) fun t56 =>
  BR t56 (
  OP (ixA 1 x9 x10) fun t62 =>
  OP (ld 1 false t62 M) fun t63 =>
  OP (bldL (.int .i64 0) 1 1 [(0, t55)]) fun c =>
  LT (.slice (some ⟨M.n, 0, none⟩) 1 1) (M.push (some (.inl (c, Ty.int, true)))) fun t65 M1 =>
  OP2 (appV 1 Ty.int t63 t65 M1) fun t66 M2 =>
  OP (ixA 1 x9 x10) fun t67 =>
  OP (st 1 t67 t66 M2) fun M3 =>
  OP (binI .add x47 (.int .i64 1)) fun t68 =>
  P_grph_Order_int_4 x0 x1 x6 x9 x10 x36 x37 x38 x45 x46 t68 M3 Q
  ) (
  OP (binI .add x47 (.int .i64 1)) fun t68_1 =>
  P_grph_Order_int_4 x0 x1 x6 x9 x10 x36 x37 x38 x45 x46 t68_1 M Q
  )
theorem T_grph_Order_int_6 {x0 x1 x6 x9 x10 x36 x37 x38 x45 x46 x47 : Value} {M : Store} {Q : KP} (h : S_grph_Order_int_6 x0 x1 x6 x9 x10 x36 x37 x38 x45 x46 x47 M Q) : P_grph_Order_int_6 x0 x1 x6 x9 x10 x36 x37 x38 x45 x46 x47 M Q := by
  intro f h0 h1 h6 h9 h10 h36 h37 h38 h45 h46 h47; subst h0; subst h1; subst h6; subst h9; subst h10; subst h36; subst h37; subst h38; subst h45; subst h46; subst h47
  unfold At
  exact rule (B := 1000) (N := 94) (ct := .no)
    [⟨0, fun a M => dfr a.defers (P_grph_Order_int_4 (a.get 0) (a.get 1) (a.get 6) (a.get 9) (a.get 10) (a.get 36) (a.get 37) (a.get 38) (a.get 45) (a.get 46) (a.get 47) M Q), fun a M => At Try.prog Ex none Try.f13 [1, 1, 1, 1, 1, 0, 1, 0, 0, 1, 1, 0, 0, 1, 1, 0] a M Q⟩]
    [] [0] (by kernel_rfl) (by kernel_rfl) (by kernel_rfl) (by kernel_rfl) (by kernel_rfl)
    ⟨fun a M hn h => by obtain ⟨⟨n, f⟩, ds⟩ := a; have hn : n = 94 := hn; subst hn; obtain ⟨hd, h⟩ := dfr_iff h; have hd : ds = [] := hd; subst hd; exact h f rfl rfl rfl rfl rfl rfl rfl rfl rfl rfl rfl,
    trivial⟩
    (cast (by kernel_rfl) h)
def S_grph_Order_int_7 (x0 x1 x6 x9 x36 x37 x38 : Value) (M : Store) (Q : KP) : Prop :=
  OP (binI .add x38 (.int .i64 1)) fun t69 =>
  P_grph_Order_int_3 x0 x1 x6 x9 x36 x37 t69 M Q
theorem T_grph_Order_int_7 {x0 x1 x6 x9 x36 x37 x38 : Value} {M : Store} {Q : KP} (h : S_grph_Order_int_7 x0 x1 x6 x9 x36 x37 x38 M Q) : P_grph_Order_int_7 x0 x1 x6 x9 x36 x37 x38 M Q := by
  intro f h0 h1 h6 h9 h36 h37 h38; subst h0; subst h1; subst h6; subst h9; subst h36; subst h37; subst h38
  unfold At
  exact rule (B := 1000) (N := 94) (ct := .no)
    [⟨0, fun a M => dfr a.defers (P_grph_Order_int_3 (a.get 0) (a.get 1) (a.get 6) (a.get 9) (a.get 36) (a.get 37) (a.get 38) M Q), fun a M => At Try.prog Ex none Try.f13 [1, 1, 1, 1, 1, 0, 1, 0] a M Q⟩]
    [] [0] (by kernel_rfl) (by kernel_rfl) (by kernel_rfl) (by kernel_rfl) (by kernel_rfl)
    ⟨fun a M hn h => by obtain ⟨⟨n, f⟩, ds⟩ := a; have hn : n = 94 := hn; subst hn; obtain ⟨hd, h⟩ := dfr_iff h; have hd : ds = [] := hd; subst hd; exact h f rfl rfl rfl rfl rfl rfl rfl,
    trivial⟩
    (cast (by kernel_rfl) h)
def S_grph_Order_int_8 (x0 x9 x16 x17 x74 x75 : Value) (M : Store) (Q : KP) : Prop :=
  OP (binI .lss x75 x74) fun t76 =>
  BR t76 (
  P_grph_Order_int_9 x0 x9 x16 x17 x74 x75 M Q
  ) (
  P_grph_Order_int_10 x17 M Q
  )
theorem T_grph_Order_int_8 {x0 x9 x16 x17 x74 x75 : Value} {M : Store} {Q : KP} (h : S_grph_Order_int_8 x0 x9 x16 x17 x74 x75 M Q) : P_grph_Order_int_8 x0 x9 x16 x17 x74 x75 M Q := by
  intro f h0 h9 h16 h17 h74 h75; subst h0; subst h9; subst h16; subst h17; subst h74; subst h75
  unfold At
  refine cast (by kernel_rfl) (CW.loop (P := Try.prog) (E := Ex) (rd := none) (x := sub (bodyOf Try.f13) [1, 1, 1, 1, 1, 1, 1, 1, 0, 1, 0, 0]) (a := ⟨⟨94, f⟩, []⟩) (M := M) (K := kcont Try.prog Ex none (bodyOf Try.f13) [1, 1, 1, 1, 1, 1, 1, 1, 0, 1, 0] (kfin Try.prog Try.f13.results.toList Q)) ?_)
  exact rule (B := 1000) (N := 94) (ct := (.two .no (.two .no (.here 1000))))
    [⟨1002, fun a M => dfr a.defers (P_grph_Order_int_9 (a.get 0) (a.get 9) (a.get 16) (a.get 17) (a.get 74) (a.get 75) M Q), fun a M => At Try.prog Ex none Try.f13 [1, 1, 1, 1, 1, 1, 1, 1, 0, 1, 0, 0, 1, 1] a M Q⟩,
    ⟨8, fun a M => dfr a.defers (P_grph_Order_int_10 (a.get 17) M Q), fun a M => At Try.prog Ex none Try.f13 [1, 1, 1, 1, 1, 1, 1, 1, 1] a M Q⟩]
    [1000] [8] (by kernel_rfl) (by kernel_rfl) (by kernel_rfl) (by kernel_rfl) (by kernel_rfl)
    ⟨fun a M hn h => by obtain ⟨⟨n, f⟩, ds⟩ := a; have hn : n = 94 := hn; subst hn; obtain ⟨hd, h⟩ := dfr_iff h; have hd : ds = [] := hd; subst hd; exact h f rfl rfl rfl rfl rfl rfl,
    fun a M hn h => by obtain ⟨⟨n, f⟩, ds⟩ := a; have hn : n = 94 := hn; subst hn; obtain ⟨hd, h⟩ := dfr_iff h; have hd : ds = [] := hd; subst hd; exact h f rfl,
    trivial⟩
    (cast (by kernel_rfl) h)
def S_grph_Order_int_9 (x0 x9 x16 x17 x74 x75 : Value) (M : Store) (Q : KP) : Prop :=
  R F.grph_next #[x9, x16] M fun t79 M1 =>
  OP (binI .lss t79 (.int .i64 0)) fun t81 =>
  BR t81 (
  NTs [(.slice none 0 0), (.bool false)] ∧ Q (.tuple #[(.slice none 0 0), (.bool false)]) M1
  ) (
  OP (ixA 1 x16 t79) fun t84 =>
  OP (st 1 t84 (.bool true) M1) fun M2 =>
  OP (ixA 1 x0 t79) fun t88 =>
  OP (ld 1 false t88 M2) fun t89 =>
  OP (bldL (.int .i64 0) 1 1 [(0, t89)]) fun c =>
  LT (.slice (some ⟨M2.n, 0, none⟩) 1 1) (M2.push (some (.inl (c, Ty.int, true)))) fun t90 M3 =>
  OP2 (appV 1 Ty.int x17 t90 M3) fun t91 M4 =>
  OP (binI .add x75 (.int .i64 1)) fun t92 =>
  P_grph_Order_int_8 x0 x9 x16 t91 x74 t92 M4 Q
  )
theorem T_grph_Order_int_9 {x0 x9 x16 x17 x74 x75 : Value} {M : Store} {Q : KP} (h : S_grph_Order_int_9 x0 x9 x16 x17 x74 x75 M Q) : P_grph_Order_int_9 x0 x9 x16 x17 x74 x75 M Q := by
  intro f h0 h9 h16 h17 h74 h75; subst h0; subst h9; subst h16; subst h17; subst h74; subst h75
  unfold At
  exact rule (B := 1000) (N := 94) (ct := .no)
    [⟨0, fun a M => dfr a.defers (P_grph_Order_int_8 (a.get 0) (a.get 9) (a.get 16) (a.get 17) (a.get 74) (a.get 75) M Q), fun a M => At Try.prog Ex none Try.f13 [1, 1, 1, 1, 1, 1, 1, 1, 0, 1, 0] a M Q⟩,
    ⟨1, fun a M => kfin Try.prog Try.f13.results.toList Q 1 a M, fun a M => kfin Try.prog Try.f13.results.toList Q 1 a M⟩]
    [] [0, 1] (by kernel_rfl) (by kernel_rfl) (by kernel_rfl) (by kernel_rfl) (by kernel_rfl)
    ⟨fun a M hn h => by obtain ⟨⟨n, f⟩, ds⟩ := a; have hn : n = 94 := hn; subst hn; obtain ⟨hd, h⟩ := dfr_iff h; have hd : ds = [] := hd; subst hd; exact h f rfl rfl rfl rfl rfl rfl,
    fun _ _ _ h => h,
    trivial⟩
    (cast (by kernel_rfl) h)
def S_grph_Order_int_10 (x17 : Value) (M : Store) (Q : KP) : Prop :=
  NTs [x17, (.bool true)] ∧ Q (.tuple #[x17, (.bool true)]) M
theorem T_grph_Order_int_10 {x17 : Value} {M : Store} {Q : KP} (h : S_grph_Order_int_10 x17 M Q) : P_grph_Order_int_10 x17 M Q := by
  intro f h17; subst h17
  unfold At
  exact rule (B := 1000) (N := 94) (ct := .no)
    [⟨1, fun a M => kfin Try.prog Try.f13.results.toList Q 1 a M, fun a M => kfin Try.prog Try.f13.results.toList Q 1 a M⟩]
    [] [1] (by kernel_rfl) (by kernel_rfl) (by kernel_rfl) (by kernel_rfl) (by kernel_rfl)
    ⟨fun _ _ _ h => h,
    trivial⟩
    (cast (by kernel_rfl) h)
def S_grph_Reach_int (x0 x1 : Value) (M : Store) (Q : KP) : Prop :=
  OP (boxv x0) fun c =>
  LT (.pointer (some ⟨M.n, 0, none⟩)) (M.push (some (.inl (c, Ty.sl_int, true)))) fun t2 M1 =>
  OP (boxv x1) fun c_1 =>
  LT (.pointer (some ⟨M1.n, 0, none⟩)) (M1.push (some (.inl (c_1, Ty.func_int_sl_int, true)))) fun t3 M2 =>
  OP (ld 1 false t2 M2) fun t5 =>
  R F.sCloneI #[t5] M2 fun t6 M3 =>
  OP (st 1 t2 t6 M3) fun M4 =>
  OP (mkF (.func F.grph_Reach_int_c1) [] [t2, t3]) fun t7 =>
  NTs [t7] ∧ Q t7 M4
theorem T_grph_Reach_int {x0 x1 : Value} {M : Store} {Q : KP} (h : S_grph_Reach_int x0 x1 M Q) : R F.grph_Reach_int #[x0, x1] M Q := by
  refine runs_of (c := bodyOf Try.f15) Try.func15 rfl (by kernel_rfl) (by kernel_rfl) ?_
  unfold At
  exact rule (B := 1000) (N := 8) (ct := .no)
    [⟨1, fun a M => kfin Try.prog Try.f15.results.toList Q 1 a M, fun a M => kfin Try.prog Try.f15.results.toList Q 1 a M⟩]
    [] [1] (by kernel_rfl) (by kernel_rfl) (by kernel_rfl) (by kernel_rfl) (by kernel_rfl)
    ⟨fun _ _ _ h => h,
    trivial⟩
    (cast (by kernel_rfl) h)
def P_grph_next_1 (x3 x7 x8 x9 : Value) (M : Store) (Q : KP) : Prop :=
  ∀ f : Nat → Value, f 3 = x3 → f 7 = x7 → f 8 = x8 → f 9 = x9 → At Try.prog Ex none Try.f38 [1, 0, 1, 0] ⟨⟨27, f⟩, []⟩ M Q
def P_grph_next_2 (x3 x7 x8 x9 : Value) (M : Store) (Q : KP) : Prop :=
  ∀ f : Nat → Value, f 3 = x3 → f 7 = x7 → f 8 = x8 → f 9 = x9 → At Try.prog Ex none Try.f38 [1, 0, 1, 0, 0, 1, 1] ⟨⟨27, f⟩, []⟩ M Q
def P_grph_next_3 (M : Store) (Q : KP) : Prop :=
  ∀ f : Nat → Value, At Try.prog Ex none Try.f38 [1, 1] ⟨⟨27, f⟩, []⟩ M Q
def S_grph_next (x0 x1 : Value) (M : Store) (Q : KP) : Prop :=
  OP (boxv x1) fun c =>
  LT (.pointer (some ⟨M.n, 0, none⟩)) (M.push (some (.inl (c, Ty.sl_bool, true)))) fun t3 M1 =>
  OP (lenV x0) fun t8 =>
  P_grph_next_1 t3 x0 t8 (.int .i64 0) M1 Q
theorem T_grph_next {x0 x1 : Value} {M : Store} {Q : KP} (h : S_grph_next x0 x1 M Q) : R F.grph_next #[x0, x1] M Q := by
  refine runs_of (c := bodyOf Try.f38) Try.func38 rfl (by kernel_rfl) (by kernel_rfl) ?_
  unfold At
  exact rule (B := 1000) (N := 27) (ct := (.two .no (.two (.two .no (.two (.here 1000) .no)) (.here 1001))))
    [⟨1002, fun a M => dfr a.defers (P_grph_next_1 (a.get 3) (a.get 7) (a.get 8) (a.get 9) M Q), fun a M => At Try.prog Ex none Try.f38 [1, 0, 1, 0] a M Q⟩,
    ⟨1003, fun _ _ => False, fun a M => At Try.prog Ex none Try.f38 [1, 1] a M Q⟩]
    [1000, 1001] [] (by kernel_rfl) (by kernel_rfl) (by kernel_rfl) (by kernel_rfl) (by kernel_rfl)
    ⟨fun a M hn h => by obtain ⟨⟨n, f⟩, ds⟩ := a; have hn : n = 27 := hn; subst hn; obtain ⟨hd, h⟩ := dfr_iff h; have hd : ds = [] := hd; subst hd; exact h f rfl rfl rfl rfl,
    fun _ _ _ h => h.elim,
    trivial⟩
    (cast (by kernel_rfl) h)
def S_grph_next_1 (x3 x7 x8 x9 : Value) (M : Store) (Q : KP) : Prop :=
  OP (binI .lss x9 x8) fun t10 =>
  BR t10 (
  P_grph_next_2 x3 x7 x8 x9 M Q
  ) (
  P_grph_next_3 M Q
  )
theorem T_grph_next_1 {x3 x7 x8 x9 : Value} {M : Store} {Q : KP} (h : S_grph_next_1 x3 x7 x8 x9 M Q) : P_grph_next_1 x3 x7 x8 x9 M Q := by
  intro f h3 h7 h8 h9; subst h3; subst h7; subst h8; subst h9
  unfold At
  refine cast (by kernel_rfl) (CW.loop (P := Try.prog) (E := Ex) (rd := none) (x := sub (bodyOf Try.f38) [1, 0, 1, 0, 0]) (a := ⟨⟨27, f⟩, []⟩) (M := M) (K := kcont Try.prog Ex none (bodyOf Try.f38) [1, 0, 1, 0] (kfin Try.prog Try.f38.results.toList Q)) ?_)
  exact rule (B := 1000) (N := 27) (ct := (.two .no (.two .no (.here 1000))))
    [⟨1002, fun a M => dfr a.defers (P_grph_next_2 (a.get 3) (a.get 7) (a.get 8) (a.get 9) M Q), fun a M => At Try.prog Ex none Try.f38 [1, 0, 1, 0, 0, 1, 1] a M Q⟩,
    ⟨2, fun a M => dfr a.defers (P_grph_next_3 M Q), fun a M => At Try.prog Ex none Try.f38 [1, 1] a M Q⟩]
    [1000] [2] (by kernel_rfl) (by kernel_rfl) (by kernel_rfl) (by kernel_rfl) (by kernel_rfl)
    ⟨fun a M hn h => by obtain ⟨⟨n, f⟩, ds⟩ := a; have hn : n = 27 := hn; subst hn; obtain ⟨hd, h⟩ := dfr_iff h; have hd : ds = [] := hd; subst hd; exact h f rfl rfl rfl rfl,
    fun a M hn h => by obtain ⟨⟨n, f⟩, ds⟩ := a; have hn : n = 27 := hn; subst hn; obtain ⟨hd, h⟩ := dfr_iff h; have hd : ds = [] := hd; subst hd; exact h f,
    trivial⟩
    (cast (by kernel_rfl) h)
def S_grph_next_2 (x3 x7 x8 x9 : Value) (M : Store) (Q : KP) : Prop :=
  OP (ixA 1 x7 x9) fun t12 =>
  OP (ld 1 false t12 M) fun t13 =>
  OP (ld 1 false x3 M) fun t14 =>
  OP (ixA 1 t14 x9) fun t16 =>
  OP (ld 1 false t16 M) fun t17 =>
  OP (aun .not t17) fun t18 =>
  BR t18 (
  OP (mkF (.func F.grph_next_c1) [] [x3]) fun t21 =>
  R F.sContainsFuncI #[t13, t21] M fun t22 M1 =>
  OP (aun .not t22) fun t23 =>
  BR t23 (
  NTs [x9] ∧ Q x9 M1
  ) (
  OP (binI .add x9 (.int .i64 1)) fun t26 =>
  P_grph_next_1 x3 x7 x8 t26 M1 Q
  )
  ) (
  OP (binI .add x9 (.int .i64 1)) fun t26_1 =>
  P_grph_next_1 x3 x7 x8 t26_1 M Q
  )
theorem T_grph_next_2 {x3 x7 x8 x9 : Value} {M : Store} {Q : KP} (h : S_grph_next_2 x3 x7 x8 x9 M Q) : P_grph_next_2 x3 x7 x8 x9 M Q := by
  intro f h3 h7 h8 h9; subst h3; subst h7; subst h8; subst h9
  unfold At
  exact rule (B := 1000) (N := 27) (ct := .no)
    [⟨0, fun a M => dfr a.defers (P_grph_next_1 (a.get 3) (a.get 7) (a.get 8) (a.get 9) M Q), fun a M => At Try.prog Ex none Try.f38 [1, 0, 1, 0] a M Q⟩,
    ⟨1, fun a M => kfin Try.prog Try.f38.results.toList Q 1 a M, fun a M => kfin Try.prog Try.f38.results.toList Q 1 a M⟩]
    [] [0, 1] (by kernel_rfl) (by kernel_rfl) (by kernel_rfl) (by kernel_rfl) (by kernel_rfl)
    ⟨fun a M hn h => by obtain ⟨⟨n, f⟩, ds⟩ := a; have hn : n = 27 := hn; subst hn; obtain ⟨hd, h⟩ := dfr_iff h; have hd : ds = [] := hd; subst hd; exact h f rfl rfl rfl rfl,
    fun _ _ _ h => h,
    trivial⟩
    (cast (by kernel_rfl) h)
def S_grph_next_3 (M : Store) (Q : KP) : Prop :=
  NTs [(.int .i64 (-1))] ∧ Q (.int .i64 (-1)) M
theorem T_grph_next_3 {M : Store} {Q : KP} (h : S_grph_next_3 M Q) : P_grph_next_3 M Q := by
  intro f 
  unfold At
  exact rule (B := 1000) (N := 27) (ct := .no)
    [⟨1, fun a M => kfin Try.prog Try.f38.results.toList Q 1 a M, fun a M => kfin Try.prog Try.f38.results.toList Q 1 a M⟩]
    [] [1] (by kernel_rfl) (by kernel_rfl) (by kernel_rfl) (by kernel_rfl) (by kernel_rfl)
    ⟨fun _ _ _ h => h,
    trivial⟩
    (cast (by kernel_rfl) h)
def P_grph_unlike_int_1 (x3 x4 x10 x11 x12 : Value) (M : Store) (Q : KP) : Prop :=
  ∀ f : Nat → Value, f 3 = x3 → f 4 = x4 → f 10 = x10 → f 11 = x11 → f 12 = x12 → At Try.prog Ex none Try.f39 [1, 1, 1, 0, 1, 0] ⟨⟨32, f⟩, []⟩ M Q
def P_grph_unlike_int_2 (x3 x4 x10 x11 x12 : Value) (M : Store) (Q : KP) : Prop :=
  ∀ f : Nat → Value, f 3 = x3 → f 4 = x4 → f 10 = x10 → f 11 = x11 → f 12 = x12 → At Try.prog Ex none Try.f39 [1, 1, 1, 0, 1, 0, 0, 1, 1] ⟨⟨32, f⟩, []⟩ M Q
def P_grph_unlike_int_3 (x4 : Value) (M : Store) (Q : KP) : Prop :=
  ∀ f : Nat → Value, f 4 = x4 → At Try.prog Ex none Try.f39 [1, 1, 1, 1] ⟨⟨32, f⟩, []⟩ M Q
def S_grph_unlike_int (x0 : Value) (M : Store) (Q : KP) : Prop :=
  LT (.map (some M.n)) (M.push (some (.inr (.inl [])))) fun t9 M1 =>
  OP (lenV x0) fun t11 =>
  P_grph_unlike_int_1 t9 (.slice none 0 0) x0 t11 (.int .i64 0) M1 Q
theorem T_grph_unlike_int {x0 : Value} {M : Store} {Q : KP} (h : S_grph_unlike_int x0 M Q) : R F.grph_unlike_int #[x0] M Q := by
  refine runs_of (c := bodyOf Try.f39) Try.func39 rfl (by kernel_rfl) (by kernel_rfl) ?_
  unfold At
  exact rule (B := 1000) (N := 32) (ct := (.two .no (.two .no (.two .no (.two (.two .no (.two (.here 1000) .no)) (.here 1001))))))
    [⟨1002, fun a M => dfr a.defers (P_grph_unlike_int_1 (a.get 3) (a.get 4) (a.get 10) (a.get 11) (a.get 12) M Q), fun a M => At Try.prog Ex none Try.f39 [1, 1, 1, 0, 1, 0] a M Q⟩,
    ⟨1003, fun _ _ => False, fun a M => At Try.prog Ex none Try.f39 [1, 1, 1, 1] a M Q⟩]
    [1000, 1001] [] (by kernel_rfl) (by kernel_rfl) (by kernel_rfl) (by kernel_rfl) (by kernel_rfl)
    ⟨fun a M hn h => by obtain ⟨⟨n, f⟩, ds⟩ := a; have hn : n = 32 := hn; subst hn; obtain ⟨hd, h⟩ := dfr_iff h; have hd : ds = [] := hd; subst hd; exact h f rfl rfl rfl rfl rfl,
    fun _ _ _ h => h.elim,
    trivial⟩
    (cast (by kernel_rfl) h)
def S_grph_unlike_int_1 (x3 x4 x10 x11 x12 : Value) (M : Store) (Q : KP) : Prop :=
  OP (binI .lss x12 x11) fun t13 =>
  BR t13 (
  P_grph_unlike_int_2 x3 x4 x10 x11 x12 M Q
  ) (
  P_grph_unlike_int_3 x4 M Q
  )
theorem T_grph_unlike_int_1 {x3 x4 x10 x11 x12 : Value} {M : Store} {Q : KP} (h : S_grph_unlike_int_1 x3 x4 x10 x11 x12 M Q) : P_grph_unlike_int_1 x3 x4 x10 x11 x12 M Q := by
  intro f h3 h4 h10 h11 h12; subst h3; subst h4; subst h10; subst h11; subst h12
  unfold At
  refine cast (by kernel_rfl) (CW.loop (P := Try.prog) (E := Ex) (rd := none) (x := sub (bodyOf Try.f39) [1, 1, 1, 0, 1, 0, 0]) (a := ⟨⟨32, f⟩, []⟩) (M := M) (K := kcont Try.prog Ex none (bodyOf Try.f39) [1, 1, 1, 0, 1, 0] (kfin Try.prog Try.f39.results.toList Q)) ?_)
  exact rule (B := 1000) (N := 32) (ct := (.two .no (.two .no (.here 1000))))
    [⟨1002, fun a M => dfr a.defers (P_grph_unlike_int_2 (a.get 3) (a.get 4) (a.get 10) (a.get 11) (a.get 12) M Q), fun a M => At Try.prog Ex none Try.f39 [1, 1, 1, 0, 1, 0, 0, 1, 1] a M Q⟩,
    ⟨2, fun a M => dfr a.defers (P_grph_unlike_int_3 (a.get 4) M Q), fun a M => At Try.prog Ex none Try.f39 [1, 1, 1, 1] a M Q⟩]
    [1000] [2] (by kernel_rfl) (by kernel_rfl) (by kernel_rfl) (by kernel_rfl) (by kernel_rfl)
    ⟨fun a M hn h => by obtain ⟨⟨n, f⟩, ds⟩ := a; have hn : n = 32 := hn; subst hn; obtain ⟨hd, h⟩ := dfr_iff h; have hd : ds = [] := hd; subst hd; exact h f rfl rfl rfl rfl rfl,
    fun a M hn h => by obtain ⟨⟨n, f⟩, ds⟩ := a; have hn : n = 32 := hn; subst hn; obtain ⟨hd, h⟩ := dfr_iff h; have hd : ds = [] := hd; subst hd; exact h f rfl,
    trivial⟩
    (cast (by kernel_rfl) h)
def S_grph_unlike_int_2 (x3 x4 x10 x11 x12 : Value) (M : Store) (Q : KP) : Prop :=
  OP (ixA 1 x10 x12) fun t14 =>
  OP (ld 1 false t14 M) fun t15 =>
  OP (lku (.int .i64) (.int .i64 0) x3 t15 true M) fun t19 =>
  OP (tup t19 0) fun t20 =>
  OP (tup t19 1) fun t21 =>
  OP (aun .not t21) fun t23 =>
  BR t23 (
  OP (mup (.int .i64) x3 t15 (.int .i64 1) M) fun M1 =>
  OP (bldL (.int .i64 0) 1 1 [(0, t15)]) fun c =>
  LT (.slice (some ⟨M1.n, 0, none⟩) 1 1) (M1.push (some (.inl (c, Ty.int, true)))) fun t28 M2 =>
  OP2 (appV 1 Ty.int x4 t28 M2) fun t29 M3 =>
  OP (binI .add x12 (.int .i64 1)) fun t30 =>
  P_grph_unlike_int_1 x3 t29 x10 x11 t30 M3 Q
  ) (
  OP (binI .add x12 (.int .i64 1)) fun t30_1 =>
  P_grph_unlike_int_1 x3 x4 x10 x11 t30_1 M Q
  )
theorem T_grph_unlike_int_2 {x3 x4 x10 x11 x12 : Value} {M : Store} {Q : KP} (h : S_grph_unlike_int_2 x3 x4 x10 x11 x12 M Q) : P_grph_unlike_int_2 x3 x4 x10 x11 x12 M Q := by
  intro f h3 h4 h10 h11 h12; subst h3; subst h4; subst h10; subst h11; subst h12
  unfold At
  exact rule (B := 1000) (N := 32) (ct := .no)
    [⟨0, fun a M => dfr a.defers (P_grph_unlike_int_1 (a.get 3) (a.get 4) (a.get 10) (a.get 11) (a.get 12) M Q), fun a M => At Try.prog Ex none Try.f39 [1, 1, 1, 0, 1, 0] a M Q⟩]
    [] [0] (by kernel_rfl) (by kernel_rfl) (by kernel_rfl) (by kernel_rfl) (by kernel_rfl)
    ⟨fun a M hn h => by obtain ⟨⟨n, f⟩, ds⟩ := a; have hn : n = 32 := hn; subst hn; obtain ⟨hd, h⟩ := dfr_iff h; have hd : ds = [] := hd; subst hd; exact h f rfl rfl rfl rfl rfl,
    trivial⟩
    (cast (by kernel_rfl) h)
def S_grph_unlike_int_3 (x4 : Value) (M : Store) (Q : KP) : Prop :=
  NTs [x4] ∧ Q x4 M
theorem T_grph_unlike_int_3 {x4 : Value} {M : Store} {Q : KP} (h : S_grph_unlike_int_3 x4 M Q) : P_grph_unlike_int_3 x4 M Q := by
  intro f h4; subst h4
  unfold At
  exact rule (B := 1000) (N := 32) (ct := .no)
    [⟨1, fun a M => kfin Try.prog Try.f39.results.toList Q 1 a M, fun a M => kfin Try.prog Try.f39.results.toList Q 1 a M⟩]
    [] [1] (by kernel_rfl) (by kernel_rfl) (by kernel_rfl) (by kernel_rfl) (by kernel_rfl)
    ⟨fun _ _ _ h => h,
    trivial⟩
    (cast (by kernel_rfl) h)
def S_sCloneI (x0 : Value) (M : Store) (Q : KP) : Prop :=
  OP (abin Try.prog true .eql Ty.sl_int x0 (.slice none 0 0)) fun t4 =>
  BR t4 (
  NTs [(.slice none 0 0)] ∧ Q (.slice none 0 0) M
  ) (
  OP (bldL (.int .i64 0) 1 0 []) fun c =>
  LT (.slice (some ⟨M.n, 0, none⟩) 0 0) (M.push (some (.inl (c, Ty.int, true)))) fun t5 M1 =>
  OP2 (appV 1 Ty.int t5 x0 M1) fun t7 M2 =>
  NTs [t7] ∧ Q t7 M2
  )
theorem T_sCloneI {x0 : Value} {M : Store} {Q : KP} (h : S_sCloneI x0 M Q) : R F.sCloneI #[x0] M Q := by
  refine runs_of (c := bodyOf Try.f40) Try.func40 rfl (by kernel_rfl) (by kernel_rfl) ?_
  unfold At
  exact rule (B := 1000) (N := 8) (ct := .no)
    [⟨1, fun a M => kfin Try.prog Try.f40.results.toList Q 1 a M, fun a M => kfin Try.prog Try.f40.results.toList Q 1 a M⟩]
    [] [1] (by kernel_rfl) (by kernel_rfl) (by kernel_rfl) (by kernel_rfl) (by kernel_rfl)
    ⟨fun _ _ _ h => h,
    trivial⟩
    (cast (by kernel_rfl) h)
def P_grph_Reach_int_c1_1 (x0 x2 x4 x5 x16 x17 x18 : Value) (M : Store) (Q : KP) : Prop :=
  ∀ f : Nat → Value, f 0 = x0 → f 2 = x2 → f 4 = x4 → f 5 = x5 → f 16 = x16 → f 17 = x17 → f 18 = x18 → At Try.prog Ex none Try.f41 [1, 1, 0, 1, 0] ⟨⟨64, f⟩, []⟩ M Q
def P_grph_Reach_int_c1_2 (x0 x2 x4 x5 : Value) (M : Store) (Q : KP) : Prop :=
  ∀ f : Nat → Value, f 0 = x0 → f 2 = x2 → f 4 = x4 → f 5 = x5 → At Try.prog Ex none Try.f41 [1, 1, 1] ⟨⟨64, f⟩, []⟩ M Q
def P_grph_Reach_int_c1_3 (x0 x2 x4 x5 x8 : Value) (M : Store) (Q : KP) : Prop :=
  ∀ f : Nat → Value, f 0 = x0 → f 2 = x2 → f 4 = x4 → f 5 = x5 → f 8 = x8 → At Try.prog Ex none Try.f41 [1, 1, 1, 1, 0] ⟨⟨64, f⟩, []⟩ M Q
def P_grph_Reach_int_c1_4 (x0 x2 x4 x5 x8 : Value) (M : Store) (Q : KP) : Prop :=
  ∀ f : Nat → Value, f 0 = x0 → f 2 = x2 → f 4 = x4 → f 5 = x5 → f 8 = x8 → At Try.prog Ex none Try.f41 [1, 1, 1, 1, 0, 0, 1] ⟨⟨64, f⟩, []⟩ M Q
def P_grph_Reach_int_c1_5 (x0 x2 x4 x5 x8 x43 x44 x45 : Value) (M : Store) (Q : KP) : Prop :=
  ∀ f : Nat → Value, f 0 = x0 → f 2 = x2 → f 4 = x4 → f 5 = x5 → f 8 = x8 → f 43 = x43 → f 44 = x44 → f 45 = x45 → At Try.prog Ex none Try.f41 [1, 1, 1, 1, 0, 0, 1, 0, 0, 1, 1, 0] ⟨⟨64, f⟩, []⟩ M Q
def P_grph_Reach_int_c1_6 (x0 x2 x4 x5 x8 x43 x44 x45 : Value) (M : Store) (Q : KP) : Prop :=
  ∀ f : Nat → Value, f 0 = x0 → f 2 = x2 → f 4 = x4 → f 5 = x5 → f 8 = x8 → f 43 = x43 → f 44 = x44 → f 45 = x45 → At Try.prog Ex none Try.f41 [1, 1, 1, 1, 0, 0, 1, 0, 0, 1, 1, 0, 0, 1, 1] ⟨⟨64, f⟩, []⟩ M Q
def P_grph_Reach_int_c1_7 (x0 x2 x4 x5 x8 : Value) (M : Store) (Q : KP) : Prop :=
  ∀ f : Nat → Value, f 0 = x0 → f 2 = x2 → f 4 = x4 → f 5 = x5 → f 8 = x8 → At Try.prog Ex none Try.f41 [1, 1, 1, 1, 0, 0, 1, 1] ⟨⟨64, f⟩, []⟩ M Q
def S_grph_Reach_int_c1 (x0 x1 x2 : Value) (M : Store) (Q : KP) : Prop :=
  OP (ld 1 false x1 M) fun t13 =>
  R F.grph_unlike_int #[t13] M fun t14 M1 =>
  LT (.map (some M1.n)) (M1.push (some (.inr (.inl [])))) fun t15 M2 =>
  OP (lenV t14) fun t17 =>
  P_grph_Reach_int_c1_1 x0 x2 t14 t15 t14 t17 (.int .i64 0) M2 Q
theorem T_grph_Reach_int_c1 {x0 x1 x2 : Value} {M : Store} {Q : KP} (h : S_grph_Reach_int_c1 x0 x1 x2 M Q) : R F.grph_Reach_int_c1 #[x0, x1, x2] M Q := by
  refine runs_of (c := bodyOf Try.f41) Try.func41 rfl (by kernel_rfl) (by kernel_rfl) ?_
  unfold At
  exact rule (B := 1000) (N := 64) (ct := (.two .no (.two .no (.two (.two .no (.two (.here 1000) .no)) (.here 1001)))))
    [⟨1002, fun a M => dfr a.defers (P_grph_Reach_int_c1_1 (a.get 0) (a.get 2) (a.get 4) (a.get 5) (a.get 16) (a.get 17) (a.get 18) M Q), fun a M => At Try.prog Ex none Try.f41 [1, 1, 0, 1, 0] a M Q⟩,
    ⟨1003, fun _ _ => False, fun a M => At Try.prog Ex none Try.f41 [1, 1, 1] a M Q⟩]
    [1000, 1001] [] (by kernel_rfl) (by kernel_rfl) (by kernel_rfl) (by kernel_rfl) (by kernel_rfl)
    ⟨fun a M hn h => by obtain ⟨⟨n, f⟩, ds⟩ := a; have hn : n = 64 := hn; subst hn; obtain ⟨hd, h⟩ := dfr_iff h; have hd : ds = [] := hd; subst hd; exact h f rfl rfl rfl rfl rfl rfl rfl,
    fun _ _ _ h => h.elim,
    trivial⟩
    (cast (by kernel_rfl) h)
def S_grph_Reach_int_c1_1 (x0 x2 x4 x5 x16 x17 x18 : Value) (M : Store) (Q : KP) : Prop :=
  OP (binI .lss x18 x17) fun t19 =>
  BR t19 (
  OP (ixA 1 x16 x18) fun t20 =>
  OP (ld 1 false t20 M) fun t21 =>
  OP (mup (.int .i64) x5 t21 (.int .i64 1) M) fun M1 =>
  OP (binI .add x18 (.int .i64 1)) fun t24 =>
  P_grph_Reach_int_c1_1 x0 x2 x4 x5 x16 x17 t24 M1 Q
  ) (
  P_grph_Reach_int_c1_2 x0 x2 x4 x5 M Q
  )
theorem T_grph_Reach_int_c1_1 {x0 x2 x4 x5 x16 x17 x18 : Value} {M : Store} {Q : KP} (h : S_grph_Reach_int_c1_1 x0 x2 x4 x5 x16 x17 x18 M Q) : P_grph_Reach_int_c1_1 x0 x2 x4 x5 x16 x17 x18 M Q := by
  intro f h0 h2 h4 h5 h16 h17 h18; subst h0; subst h2; subst h4; subst h5; subst h16; subst h17; subst h18
  unfold At
  refine cast (by kernel_rfl) (CW.loop (P := Try.prog) (E := Ex) (rd := none) (x := sub (bodyOf Try.f41) [1, 1, 0, 1, 0, 0]) (a := ⟨⟨64, f⟩, []⟩) (M := M) (K := kcont Try.prog Ex none (bodyOf Try.f41) [1, 1, 0, 1, 0] (kfin Try.prog Try.f41.results.toList Q)) ?_)
  exact rule (B := 1000) (N := 64) (ct := .no)
    [⟨0, fun a M => dfr a.defers (P_grph_Reach_int_c1_1 (a.get 0) (a.get 2) (a.get 4) (a.get 5) (a.get 16) (a.get 17) (a.get 18) M Q), fun a M => At Try.prog Ex none Try.f41 [1, 1, 0, 1, 0] a M Q⟩,
    ⟨2, fun a M => dfr a.defers (P_grph_Reach_int_c1_2 (a.get 0) (a.get 2) (a.get 4) (a.get 5) M Q), fun a M => At Try.prog Ex none Try.f41 [1, 1, 1] a M Q⟩]
    [] [0, 2] (by kernel_rfl) (by kernel_rfl) (by kernel_rfl) (by kernel_rfl) (by kernel_rfl)
    ⟨fun a M hn h => by obtain ⟨⟨n, f⟩, ds⟩ := a; have hn : n = 64 := hn; subst hn; obtain ⟨hd, h⟩ := dfr_iff h; have hd : ds = [] := hd; subst hd; exact h f rfl rfl rfl rfl rfl rfl rfl,
    fun a M hn h => by obtain ⟨⟨n, f⟩, ds⟩ := a; have hn : n = 64 := hn; subst hn; obtain ⟨hd, h⟩ := dfr_iff h; have hd : ds = [] := hd; subst hd; exact h f rfl rfl rfl rfl,
    trivial⟩
    (cast (by kernel_rfl) h)
def S_grph_Reach_int_c1_2 (x0 x2 x4 x5 : Value) (M : Store) (Q : KP) : Prop :=
  P_grph_Reach_int_c1_3 x0 x2 x4 x5 (.int .i64 0) M Q
theorem T_grph_Reach_int_c1_2 {x0 x2 x4 x5 : Value} {M : Store} {Q : KP} (h : S_grph_Reach_int_c1_2 x0 x2 x4 x5 M Q) : P_grph_Reach_int_c1_2 x0 x2 x4 x5 M Q := by
  intro f h0 h2 h4 h5; subst h0; subst h2; subst h4; subst h5
  unfold At
  exact rule (B := 1000) (N := 64) (ct := (.two .no (.two (.here 1000) .no)))
    [⟨1002, fun a M => dfr a.defers (P_grph_Reach_int_c1_3 (a.get 0) (a.get 2) (a.get 4) (a.get 5) (a.get 8) M Q), fun a M => At Try.prog Ex none Try.f41 [1, 1, 1, 1, 0] a M Q⟩]
    [1000] [] (by kernel_rfl) (by kernel_rfl) (by kernel_rfl) (by kernel_rfl) (by kernel_rfl)
    ⟨fun a M hn h => by obtain ⟨⟨n, f⟩, ds⟩ := a; have hn : n = 64 := hn; subst hn; obtain ⟨hd, h⟩ := dfr_iff h; have hd : ds = [] := hd; subst hd; exact h f rfl rfl rfl rfl rfl,
    trivial⟩
    (cast (by kernel_rfl) h)
def S_grph_Reach_int_c1_3 (x0 x2 x4 x5 x8 : Value) (M : Store) (Q : KP) : Prop :=
  OP (lenV x4) fun t27 =>
  OP (binI .lss x8 t27) fun t28 =>
  BR t28 (
  P_grph_Reach_int_c1_4 x0 x2 x4 x5 x8 M Q
  ) (
  NTs [] ∧ Q (.tuple #[]) M
  )
theorem T_grph_Reach_int_c1_3 {x0 x2 x4 x5 x8 : Value} {M : Store} {Q : KP} (h : S_grph_Reach_int_c1_3 x0 x2 x4 x5 x8 M Q) : P_grph_Reach_int_c1_3 x0 x2 x4 x5 x8 M Q := by
  intro f h0 h2 h4 h5 h8; subst h0; subst h2; subst h4; subst h5; subst h8
  unfold At
  refine cast (by kernel_rfl) (CW.loop (P := Try.prog) (E := Ex) (rd := none) (x := sub (bodyOf Try.f41) [1, 1, 1, 1, 0, 0]) (a := ⟨⟨64, f⟩, []⟩) (M := M) (K := kcont Try.prog Ex none (bodyOf Try.f41) [1, 1, 1, 1, 0] (kfin Try.prog Try.f41.results.toList Q)) ?_)
  exact rule (B := 1000) (N := 64) (ct := (.two .no (.here 1000)))
    [⟨1002, fun a M => dfr a.defers (P_grph_Reach_int_c1_4 (a.get 0) (a.get 2) (a.get 4) (a.get 5) (a.get 8) M Q), fun a M => At Try.prog Ex none Try.f41 [1, 1, 1, 1, 0, 0, 1] a M Q⟩,
    ⟨4, fun a M => kfin Try.prog Try.f41.results.toList Q 0 a M, fun a M => kfin Try.prog Try.f41.results.toList Q 0 a M⟩]
    [1000] [4] (by kernel_rfl) (by kernel_rfl) (by kernel_rfl) (by kernel_rfl) (by kernel_rfl)
    ⟨fun a M hn h => by obtain ⟨⟨n, f⟩, ds⟩ := a; have hn : n = 64 := hn; subst hn; obtain ⟨hd, h⟩ := dfr_iff h; have hd : ds = [] := hd; subst hd; exact h f rfl rfl rfl rfl rfl,
    fun _ _ _ h => h,
    trivial⟩
    (cast (by kernel_rfl) h)
def S_grph_Reach_int_c1_4 (x0 x2 x4 x5 x8 : Value) (M : Store) (Q : KP) : Prop :=
  OP (ixA 1 x4 x8) fun t34 =>
  OP (ld 1 false t34 M) fun t35 =>
  KC x0 [t35] M fun t36 M1 =>
  OP (aun .not t36) fun t37 =>
  BR t37 (
  NTs [] ∧ Q (.tuple #[]) M1
  ) (
  OP (ld 1 false x2 M1) fun t38 =>
  OP (ixA 1 x4 x8) fun t41 =>
  OP (ld 1 false t41 M1) fun t42 =>
  KC t38 [t42] M1 fun t43 M2 =>
  TDx [0, 0, 0, 6, 14, 31, 63, 0] [M1.n, M1.n, M1.n, M1.n, M1.n, M1.n] 5 M1 M2 ∧
  OP (lenV t43) fun t44 =>
  P_grph_Reach_int_c1_5 x0 x2 x4 x5 x8 t43 t44 (.int .i64 0) M2 Q
  )
theorem T_grph_Reach_int_c1_4 {x0 x2 x4 x5 x8 : Value} {M : Store} {Q : KP} (h : S_grph_Reach_int_c1_4 x0 x2 x4 x5 x8 M Q) : P_grph_Reach_int_c1_4 x0 x2 x4 x5 x8 M Q := by
  intro f h0 h2 h4 h5 h8; subst h0; subst h2; subst h4; subst h5; subst h8
  unfold At
  exact rule (B := 1000) (N := 64) (ct := (.two (.two (.two .no (.two .no (.two (.here 1000) .no))) .no) (.here 1001)))
    [⟨1002, fun a M => dfr a.defers (P_grph_Reach_int_c1_5 (a.get 0) (a.get 2) (a.get 4) (a.get 5) (a.get 8) (a.get 43) (a.get 44) (a.get 45) M Q), fun a M => At Try.prog Ex none Try.f41 [1, 1, 1, 1, 0, 0, 1, 0, 0, 1, 1, 0] a M Q⟩,
    ⟨1003, fun _ _ => False, fun a M => At Try.prog Ex none Try.f41 [1, 1, 1, 1, 0, 0, 1, 1] a M Q⟩,
    ⟨1, fun a M => kfin Try.prog Try.f41.results.toList Q 1 a M, fun a M => kfin Try.prog Try.f41.results.toList Q 1 a M⟩]
    [1000, 1001] [1] (by kernel_rfl) (by kernel_rfl) (by kernel_rfl) (by kernel_rfl) (by kernel_rfl)
    ⟨fun a M hn h => by obtain ⟨⟨n, f⟩, ds⟩ := a; have hn : n = 64 := hn; subst hn; obtain ⟨hd, h⟩ := dfr_iff h; have hd : ds = [] := hd; subst hd; exact h f rfl rfl rfl rfl rfl rfl rfl rfl,
    fun _ _ _ h => h.elim,
    fun _ _ _ h => h,
    trivial⟩
    (cast (by kernel_rfl) h)
def S_grph_Reach_int_c1_5 (x0 x2 x4 x5 x8 x43 x44 x45 : Value) (M : Store) (Q : KP) : Prop :=
  OP (binI .lss x45 x44) fun t46 =>
  BR t46 (
  P_grph_Reach_int_c1_6 x0 x2 x4 x5 x8 x43 x44 x45 M Q
  ) (
  P_grph_Reach_int_c1_7 x0 x2 x4 x5 x8 M Q
  )
theorem T_grph_Reach_int_c1_5 {x0 x2 x4 x5 x8 x43 x44 x45 : Value} {M : Store} {Q : KP} (h : S_grph_Reach_int_c1_5 x0 x2 x4 x5 x8 x43 x44 x45 M Q) : P_grph_Reach_int_c1_5 x0 x2 x4 x5 x8 x43 x44 x45 M Q := by
  intro f h0 h2 h4 h5 h8 h43 h44 h45; subst h0; subst h2; subst h4; subst h5; subst h8; subst h43; subst h44; subst h45
  unfold At
  refine cast (by kernel_rfl) (CW.loop (P := Try.prog) (E := Ex) (rd := none) (x := sub (bodyOf Try.f41) [1, 1, 1, 1, 0, 0, 1, 0, 0, 1, 1, 0, 0]) (a := ⟨⟨64, f⟩, []⟩) (M := M) (K := kcont Try.prog Ex none (bodyOf Try.f41) [1, 1, 1, 1, 0, 0, 1, 0, 0, 1, 1, 0] (kfin Try.prog Try.f41.results.toList Q)) ?_)
  exact rule (B := 1000) (N := 64) (ct := (.two .no (.two .no (.here 1000))))
    [⟨1002, fun a M => dfr a.defers (P_grph_Reach_int_c1_6 (a.get 0) (a.get 2) (a.get 4) (a.get 5) (a.get 8) (a.get 43) (a.get 44) (a.get 45) M Q), fun a M => At Try.prog Ex none Try.f41 [1, 1, 1, 1, 0, 0, 1, 0, 0, 1, 1, 0, 0, 1, 1] a M Q⟩,
    ⟨6, fun a M => dfr a.defers (P_grph_Reach_int_c1_7 (a.get 0) (a.get 2) (a.get 4) (a.get 5) (a.get 8) M Q), fun a M => At Try.prog Ex none Try.f41 [1, 1, 1, 1, 0, 0, 1, 1] a M Q⟩]
    [1000] [6] (by kernel_rfl) (by kernel_rfl) (by kernel_rfl) (by kernel_rfl) (by kernel_rfl)
    ⟨fun a M hn h => by obtain ⟨⟨n, f⟩, ds⟩ := a; have hn : n = 64 := hn; subst hn; obtain ⟨hd, h⟩ := dfr_iff h; have hd : ds = [] := hd; subst hd; exact h f rfl rfl rfl rfl rfl rfl rfl rfl,
    fun a M hn h => by obtain ⟨⟨n, f⟩, ds⟩ := a; have hn : n = 64 := hn; subst hn; obtain ⟨hd, h⟩ := dfr_iff h; have hd : ds = [] := hd; subst hd; exact h f rfl rfl rfl rfl rfl,
    trivial⟩
    (cast (by kernel_rfl) h)
def S_grph_Reach_int_c1_6 (x0 x2 x4 x5 x8 x43 x44 x45 : Value) (M : Store) (Q : KP) : Prop :=
  OP (ixA 1 x43 x45) fun t47 =>
  OP (ld 1 false t47 M) fun t48 =>
  OP (lku (.int .i64) (.int .i64 0) x5 t48 true M) fun t52 =>
  OP (tup t52 0) fun t53 =>
  OP (tup t52 1) fun t54 =>
  OP (aun .not t54) fun t56 =>
  BR t56 (
  OP (mup (.int .i64) x5 t48 (.int .i64 1) M) fun M1 =>
  OP (bldL (.int .i64 0) 1 1 [(0, t48)]) fun c =>
  LT (.slice (some ⟨M1.n, 0, none⟩) 1 1) (M1.push (some (.inl (c, Ty.int, true)))) fun t61 M2 =>
  OP2 (appV 1 Ty.int x4 t61 M2) fun t62 M3 =>
  OP (binI .add x45 (.int .i64 1)) fun t63 =>
  P_grph_Reach_int_c1_5 x0 x2 t62 x5 x8 x43 x44 t63 M3 Q
  ) (
  OP (binI .add x45 (.int .i64 1)) fun t63_1 =>
  P_grph_Reach_int_c1_5 x0 x2 x4 x5 x8 x43 x44 t63_1 M Q
  )
theorem T_grph_Reach_int_c1_6 {x0 x2 x4 x5 x8 x43 x44 x45 : Value} {M : Store} {Q : KP} (h : S_grph_Reach_int_c1_6 x0 x2 x4 x5 x8 x43 x44 x45 M Q) : P_grph_Reach_int_c1_6 x0 x2 x4 x5 x8 x43 x44 x45 M Q := by
  intro f h0 h2 h4 h5 h8 h43 h44 h45; subst h0; subst h2; subst h4; subst h5; subst h8; subst h43; subst h44; subst h45
  unfold At
  exact rule (B := 1000) (N := 64) (ct := .no)
    [⟨0, fun a M => dfr a.defers (P_grph_Reach_int_c1_5 (a.get 0) (a.get 2) (a.get 4) (a.get 5) (a.get 8) (a.get 43) (a.get 44) (a.get 45) M Q), fun a M => At Try.prog Ex none Try.f41 [1, 1, 1, 1, 0, 0, 1, 0, 0, 1, 1, 0] a M Q⟩]
    [] [0] (by kernel_rfl) (by kernel_rfl) (by kernel_rfl) (by kernel_rfl) (by kernel_rfl)
    ⟨fun a M hn h => by obtain ⟨⟨n, f⟩, ds⟩ := a; have hn : n = 64 := hn; subst hn; obtain ⟨hd, h⟩ := dfr_iff h; have hd : ds = [] := hd; subst hd; exact h f rfl rfl rfl rfl rfl rfl rfl rfl,
    trivial⟩
    (cast (by kernel_rfl) h)
def S_grph_Reach_int_c1_7 (x0 x2 x4 x5 x8 : Value) (M : Store) (Q : KP) : Prop :=
  OP (binI .add x8 (.int .i64 1)) fun t30 =>
  P_grph_Reach_int_c1_3 x0 x2 x4 x5 t30 M Q
theorem T_grph_Reach_int_c1_7 {x0 x2 x4 x5 x8 : Value} {M : Store} {Q : KP} (h : S_grph_Reach_int_c1_7 x0 x2 x4 x5 x8 M Q) : P_grph_Reach_int_c1_7 x0 x2 x4 x5 x8 M Q := by
  intro f h0 h2 h4 h5 h8; subst h0; subst h2; subst h4; subst h5; subst h8
  unfold At
  exact rule (B := 1000) (N := 64) (ct := .no)
    [⟨0, fun a M => dfr a.defers (P_grph_Reach_int_c1_3 (a.get 0) (a.get 2) (a.get 4) (a.get 5) (a.get 8) M Q), fun a M => At Try.prog Ex none Try.f41 [1, 1, 1, 1, 0] a M Q⟩]
    [] [0] (by kernel_rfl) (by kernel_rfl) (by kernel_rfl) (by kernel_rfl) (by kernel_rfl)
    ⟨fun a M hn h => by obtain ⟨⟨n, f⟩, ds⟩ := a; have hn : n = 64 := hn; subst hn; obtain ⟨hd, h⟩ := dfr_iff h; have hd : ds = [] := hd; subst hd; exact h f rfl rfl rfl rfl rfl,
    trivial⟩
    (cast (by kernel_rfl) h)
def S_sContainsFuncI (x0 x1 : Value) (M : Store) (Q : KP) : Prop :=
  R F.sIndexFuncI #[x0, x1] M fun t7 M1 =>
  OP (binI .geq t7 (.int .i64 0)) fun t8 =>
  NTs [t8] ∧ Q t8 M1
theorem T_sContainsFuncI {x0 x1 : Value} {M : Store} {Q : KP} (h : S_sContainsFuncI x0 x1 M Q) : R F.sContainsFuncI #[x0, x1] M Q := by
  refine runs_of (c := bodyOf Try.f57) Try.func57 rfl (by kernel_rfl) (by kernel_rfl) ?_
  unfold At
  exact rule (B := 1000) (N := 9) (ct := .no)
    [⟨1, fun a M => kfin Try.prog Try.f57.results.toList Q 1 a M, fun a M => kfin Try.prog Try.f57.results.toList Q 1 a M⟩]
    [] [1] (by kernel_rfl) (by kernel_rfl) (by kernel_rfl) (by kernel_rfl) (by kernel_rfl)
    ⟨fun _ _ _ h => h,
    trivial⟩
    (cast (by kernel_rfl) h)
def S_grph_next_c1 (x0 x1 : Value) (M : Store) (Q : KP) : Prop :=
  OP (ld 1 false x1 M) fun t4 =>
  OP (ixA 1 t4 x0) fun t6 =>
  OP (ld 1 false t6 M) fun t7 =>
  OP (aun .not t7) fun t8 =>
  NTs [t8] ∧ Q t8 M
theorem T_grph_next_c1 {x0 x1 : Value} {M : Store} {Q : KP} (h : S_grph_next_c1 x0 x1 M Q) : R F.grph_next_c1 #[x0, x1] M Q := by
  refine runs_of (c := bodyOf Try.f61) Try.func61 rfl (by kernel_rfl) (by kernel_rfl) ?_
  unfold At
  exact rule (B := 1000) (N := 9) (ct := .no)
    [⟨1, fun a M => kfin Try.prog Try.f61.results.toList Q 1 a M, fun a M => kfin Try.prog Try.f61.results.toList Q 1 a M⟩]
    [] [1] (by kernel_rfl) (by kernel_rfl) (by kernel_rfl) (by kernel_rfl) (by kernel_rfl)
    ⟨fun _ _ _ h => h,
    trivial⟩
    (cast (by kernel_rfl) h)
def P_sIndexFuncI_1 (x0 x1 x7 x8 : Value) (M : Store) (Q : KP) : Prop :=
  ∀ f : Nat → Value, f 0 = x0 → f 1 = x1 → f 7 = x7 → f 8 = x8 → At Try.prog Ex none Try.f76 [1, 0, 1, 0] ⟨⟨19, f⟩, []⟩ M Q
def P_sIndexFuncI_2 (M : Store) (Q : KP) : Prop :=
  ∀ f : Nat → Value, At Try.prog Ex none Try.f76 [1, 1] ⟨⟨19, f⟩, []⟩ M Q
def S_sIndexFuncI (x0 x1 : Value) (M : Store) (Q : KP) : Prop :=
  OP (lenV x0) fun t7 =>
  P_sIndexFuncI_1 x0 x1 t7 (.int .i64 0) M Q
theorem T_sIndexFuncI {x0 x1 : Value} {M : Store} {Q : KP} (h : S_sIndexFuncI x0 x1 M Q) : R F.sIndexFuncI #[x0, x1] M Q := by
  refine runs_of (c := bodyOf Try.f76) Try.func76 rfl (by kernel_rfl) (by kernel_rfl) ?_
  unfold At
  exact rule (B := 1000) (N := 19) (ct := (.two .no (.two (.two .no (.two (.here 1000) .no)) (.here 1001))))
    [⟨1002, fun a M => dfr a.defers (P_sIndexFuncI_1 (a.get 0) (a.get 1) (a.get 7) (a.get 8) M Q), fun a M => At Try.prog Ex none Try.f76 [1, 0, 1, 0] a M Q⟩,
    ⟨1003, fun _ _ => False, fun a M => At Try.prog Ex none Try.f76 [1, 1] a M Q⟩]
    [1000, 1001] [] (by kernel_rfl) (by kernel_rfl) (by kernel_rfl) (by kernel_rfl) (by kernel_rfl)
    ⟨fun a M hn h => by obtain ⟨⟨n, f⟩, ds⟩ := a; have hn : n = 19 := hn; subst hn; obtain ⟨hd, h⟩ := dfr_iff h; have hd : ds = [] := hd; subst hd; exact h f rfl rfl rfl rfl,
    fun _ _ _ h => h.elim,
    trivial⟩
    (cast (by kernel_rfl) h)
def S_sIndexFuncI_1 (x0 x1 x7 x8 : Value) (M : Store) (Q : KP) : Prop :=
  OP (binI .lss x8 x7) fun t9 =>
  BR t9 (
  OP (ixA 1 x0 x8) fun t14 =>
  OP (ld 1 false t14 M) fun t15 =>
  KC x1 [t15] M fun t16 M1 =>
  BR t16 (
  NTs [x8] ∧ Q x8 M1
  ) (
  OP (binI .add x8 (.int .i64 1)) fun t18 =>
  P_sIndexFuncI_1 x0 x1 x7 t18 M1 Q
  )
  ) (
  P_sIndexFuncI_2 M Q
  )
theorem T_sIndexFuncI_1 {x0 x1 x7 x8 : Value} {M : Store} {Q : KP} (h : S_sIndexFuncI_1 x0 x1 x7 x8 M Q) : P_sIndexFuncI_1 x0 x1 x7 x8 M Q := by
  intro f h0 h1 h7 h8; subst h0; subst h1; subst h7; subst h8
  unfold At
  refine cast (by kernel_rfl) (CW.loop (P := Try.prog) (E := Ex) (rd := none) (x := sub (bodyOf Try.f76) [1, 0, 1, 0, 0]) (a := ⟨⟨19, f⟩, []⟩) (M := M) (K := kcont Try.prog Ex none (bodyOf Try.f76) [1, 0, 1, 0] (kfin Try.prog Try.f76.results.toList Q)) ?_)
  exact rule (B := 1000) (N := 19) (ct := .no)
    [⟨0, fun a M => dfr a.defers (P_sIndexFuncI_1 (a.get 0) (a.get 1) (a.get 7) (a.get 8) M Q), fun a M => At Try.prog Ex none Try.f76 [1, 0, 1, 0] a M Q⟩,
    ⟨1, fun a M => kfin Try.prog Try.f76.results.toList Q 1 a M, fun a M => kfin Try.prog Try.f76.results.toList Q 1 a M⟩,
    ⟨2, fun a M => dfr a.defers (P_sIndexFuncI_2 M Q), fun a M => At Try.prog Ex none Try.f76 [1, 1] a M Q⟩]
    [] [0, 1, 2] (by kernel_rfl) (by kernel_rfl) (by kernel_rfl) (by kernel_rfl) (by kernel_rfl)
    ⟨fun a M hn h => by obtain ⟨⟨n, f⟩, ds⟩ := a; have hn : n = 19 := hn; subst hn; obtain ⟨hd, h⟩ := dfr_iff h; have hd : ds = [] := hd; subst hd; exact h f rfl rfl rfl rfl,
    fun _ _ _ h => h,
    fun a M hn h => by obtain ⟨⟨n, f⟩, ds⟩ := a; have hn : n = 19 := hn; subst hn; obtain ⟨hd, h⟩ := dfr_iff h; have hd : ds = [] := hd; subst hd; exact h f,
    trivial⟩
    (cast (by kernel_rfl) h)
def S_sIndexFuncI_2 (M : Store) (Q : KP) : Prop :=
  NTs [(.int .i64 (-1))] ∧ Q (.int .i64 (-1)) M
theorem T_sIndexFuncI_2 {M : Store} {Q : KP} (h : S_sIndexFuncI_2 M Q) : P_sIndexFuncI_2 M Q := by
  intro f 
  unfold At
  exact rule (B := 1000) (N := 19) (ct := .no)
    [⟨1, fun a M => kfin Try.prog Try.f76.results.toList Q 1 a M, fun a M => kfin Try.prog Try.f76.results.toList Q 1 a M⟩]
    [] [1] (by kernel_rfl) (by kernel_rfl) (by kernel_rfl) (by kernel_rfl) (by kernel_rfl)
    ⟨fun _ _ _ h => h,
    trivial⟩
    (cast (by kernel_rfl) h)
end Go.G
