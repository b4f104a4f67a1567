/- Layer 4, plainly: decimals, and names of files under way. -/
import Derived.Test.YtnonfejhkbaikaaPCutF
import Derived.Test.YtnonfejhkbaikaaPKE
namespace Go.G
open Go.Ab
set_option linter.unusedVariables false
set_option linter.unusedSimpArgs false
def isDig (c : UInt8) : Bool := decide (48 ≤ c) && decide (c ≤ 57)
theorem isDig_nat {c : UInt8} : isDig c = true ↔ 48 ≤ c.toNat ∧ c.toNat ≤ 57 := by
  simp only [isDig, Bool.and_eq_true, decide_eq_true_eq, UInt8.le_iff_toNat_le]
  exact Iff.rfl
def dgt (c : UInt8) : Nat := c.toNat - 48
def stepV (a : Nat) (c : UInt8) : Nat := 10 * a + dgt c
def valF (acc : Nat) (l : List UInt8) : Nat := l.foldl stepV acc
theorem valF_nil (acc : Nat) : valF acc [] = acc := rfl
theorem valF_cons (acc : Nat) (c : UInt8) (r : List UInt8) : valF acc (c :: r) = valF (10 * acc + (c.toNat - 48)) r := by
  unfold valF; rw [List.foldl_cons]; unfold stepV dgt; exact Eq.refl _
theorem valF_snoc : ∀ (l : List UInt8) (acc : Nat) (c : UInt8), valF acc (l ++ [c]) = 10 * valF acc l + (c.toNat - 48)
  | [], acc, c => by rw [List.nil_append, valF_cons, valF_nil, valF_nil]
  | d :: l, acc, c => by rw [List.cons_append, valF_cons, valF_cons, valF_snoc l]
def numF (d : Nat) (x : List UInt8) : Option Nat :=
  if x.all isDig = true ∧ x.length ≤ d ∧ x ≠ [] ∧ (x = [48] ∨ x.head? ≠ some 48) then some (valF 0 x) else none
theorem valF_lt : ∀ (l : List UInt8) (acc : Nat), l.all isDig = true → valF acc l < (acc + 1) * 10 ^ l.length
  | [], acc, _ => by rw [valF_nil]; simp
  | c :: l, acc, h => by
    rw [List.all_cons, Bool.and_eq_true] at h
    have hc := isDig_nat.1 h.1
    rw [valF_cons, List.length_cons, Nat.pow_succ]
    refine Nat.lt_of_lt_of_le (valF_lt l _ h.2) ?_
    have : (10 * acc + (c.toNat - 48) + 1) ≤ (acc + 1) * 10 := by omega
    calc (10 * acc + (c.toNat - 48) + 1) * 10 ^ l.length ≤ ((acc + 1) * 10) * 10 ^ l.length := Nat.mul_le_mul_right _ this
      _ = (acc + 1) * (10 ^ l.length * 10) := by rw [Nat.mul_assoc, Nat.mul_comm 10]
def letB (c : UInt8) : Bool := (decide (97 ≤ c) && decide (c ≤ 122)) || ((decide (48 ≤ c) && decide (c ≤ 57)) || (c == 46 || (c == 45 || c == 95)))
def okF (s : List UInt8) : Bool := s.all letB && (decide (1 ≤ s.length) && decide (s.length ≤ 16))
end Go.G
