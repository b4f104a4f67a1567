/- Layer 15: rows of numbers compared; which names are made; nil or not. -/
import Derived.Test.YtpacolplhcfamaaPY15d
import Derived.Test.YtpacolplhcfamaaPGF
import Derived.Test.YtpacolplhcfamaaPU3
import Derived.Test.YtpacolplhcfamaaPAW
namespace Go.G
open Go.Ab Go.Proofs Go.RowKit
set_option linter.unusedVariables false
set_option linter.unusedSimpArgs false
set_option maxRecDepth 100000

theorem awake15_ok {M : Store} {Q : Value → Store → Prop} (hQ : Q (tv true) M) : R F.fettlelaw15_awake #[] M Q := R_told (g := yes0) (by kernel_rfl) rfl hQ
theorem abin_ptr {t e : TypeId} {cst : Bool} (h : Try.prog.underlying t = some (.pointer e)) (a : Addr) (K : Value → Prop) : OP (abin Try.prog cst .eql t (.pointer (some a)) (.pointer none)) K = K (.bool false) := by
  simp [abin, aeq, h, OP]
def madeP (s : List UInt8) : Bool := decide (s = [97]) || decide (s = [98])
abbrev mvF : Value := .func (.func F.fettlelaw15_made) #[] #[]
theorem made_run (s : List UInt8) (M : Store) {Q : Value → Store → Prop} (hQ : Q (tv (madeP s)) M) : R F.fettlelaw15_made #[sv s] M Q := by
  apply T_fettlelaw15_made
  unfold S_fettlelaw15_made
  show OP (binS .eql (sv s) (sv [97])) _
  rw [sv_eq, BR_dec]
  split
  · rename_i h
    have : madeP s = true := by unfold madeP; simp [h]
    rw [this] at hQ; exact ⟨rfl, hQ⟩
  · rename_i h
    show OP (binS .eql (sv s) (sv [98])) _
    rw [sv_eq]
    have : madeP s = decide (s = [98]) := by unfold madeP; simp [h]
    rw [this] at hQ; exact ⟨rfl, hQ⟩
theorem made_ok (L : List (List UInt8)) : MadeOk mvF madeP L := fun s _ M Q hQ => made_run s M hQ
theorem name_s : nameOk [115] := fun M => by kernel_rfl
theorem name_t : nameOk [116] := fun M => by kernel_rfl
theorem name_a : nameOk [97] := fun M => by kernel_rfl
theorem name_b : nameOk [98] := fun M => by kernel_rfl
section
variable {M : Store} {x y : Value} {l k : List Nat}
theorem SameN_loop (hx : LV nv Ty.int M x l) (hy : LV nv Ty.int M y k) (hl : l.length ≤ 2 ^ 26) (he : l.length = k.length) {Q : Value → Store → Prop} : ∀ (d i : Nat), d + i = l.length → Q (tv (decide (l.drop i = k.drop i))) M → P_fettleref1_SameInts_1 x y (nv i) M Q := by
  intro d
  induction d with
  | zero =>
    intro i hi h
    apply T_fettleref1_SameInts_1
    unfold S_fettleref1_SameInts_1
    rw [hx.len, OP_some, lss_n, BR_dec, if_neg (by omega)]
    apply T_fettleref1_SameInts_3
    rw [List.drop_of_length_le (by omega), List.drop_of_length_le (by omega)] at h
    exact ⟨rfl, h⟩
  | succ d ih =>
    intro i hi h
    have h1 : i < l.length := by omega
    have h2 : i < k.length := by omega
    apply T_fettleref1_SameInts_1
    unfold S_fettleref1_SameInts_1
    rw [hx.len, OP_some, lss_n, BR_dec, if_pos h1]
    apply T_fettleref1_SameInts_2
    unfold S_fettleref1_SameInts_2
    obtain ⟨p, e1, e2⟩ := hx.at h1 .i64
    obtain ⟨q, e3, e4⟩ := hy.at h2 .i64
    rw [e1, OP_some, e2, OP_some, e3, OP_some, e4, OP_some, neq_n, BR_dec]
    have g1 : l.drop i = l[i] :: l.drop (i + 1) := List.drop_eq_getElem_cons h1
    have g2 : k.drop i = k[i] :: k.drop (i + 1) := List.drop_eq_getElem_cons h2
    split
    · rename_i hne
      have : ¬ (l.drop i = k.drop i) := by rw [g1, g2]; intro e; injection e with e _; exact hne e
      rw [decide_eq_false this] at h; exact ⟨rfl, h⟩
    · rename_i hne
      have heq : l[i] = k[i] := Classical.not_not.1 hne
      rw [add1_n _ (by omega)]
      refine ih (i + 1) (by omega) ?_
      have : (l.drop i = k.drop i) = (l.drop (i + 1) = k.drop (i + 1)) := by rw [g1, g2, heq, List.cons.injEq]; simp only [true_and]
      simp only [this] at h; exact h
theorem SameN_ok (hx : LV nv Ty.int M x l) (hy : LV nv Ty.int M y k) (hl : l.length ≤ 2 ^ 26) : R F.fettleref1_SameInts #[x, y] M fun v M' => M' = M ∧ v = tv (decide (l = k)) := by
  refine R.cps fun Q hQ => ?_
  apply T_fettleref1_SameInts
  unfold S_fettleref1_SameInts
  rw [hx.len, OP_some, hy.len, OP_some, neq_n, BR_dec]
  split
  · rename_i h
    have : l ≠ k := fun e => h (by rw [e])
    exact ⟨rfl, hQ _ _ ⟨rfl, by rw [decide_eq_false this]⟩⟩
  · rename_i h
    exact SameN_loop hx hy hl (by omega) l.length 0 rfl (hQ _ _ ⟨rfl, rfl⟩)
end
/-- Steps, one behind the other. -/
def itS (fl : Fl) (p : List UInt8 → Bool) : Nat → RSt → RSt
  | 0, st => st
  | n + 1, st => itS fl p n (stepS fl p st).1
theorem stepS_L (fl : Fl) (p : List UInt8 → Bool) (st : RSt) : (stepS fl p st).1.L = st.L := by
  unfold stepS
  split
  · rfl
  split
  · rfl
  split
  · unfold lookS
    split
    · rfl
    split <;> rfl
  · unfold readS
    split
    · rfl
    split
    · rfl
    split
    · rfl
    · unfold RSt.more; split <;> rfl
end Go.G
