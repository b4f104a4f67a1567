/- Layer 4, plainly: decimals, and names of files under way. -/
import Derived.Test.YtnonfejhkbaikaaPN0
import Derived.Test.YtnonfejhkbaikaaPKC
import Derived.Test.YtnonfejhkbaikaaPKE
namespace Go.G
open Go.Ab
set_option linter.unusedVariables false
set_option linter.unusedSimpArgs false
def kG (c : UInt8) : Bool := decide (48 ≤ c) && decide (c ≤ 57)
theorem sG {c : UInt8} : kG c = true ↔ 48 ≤ c.toNat ∧ c.toNat ≤ 57 := by
 simp only [kG, Bool.and_eq_true, decide_eq_true_eq, UInt8.le_iff_toNat_le]
 exact Iff.rfl
def dgt (c : UInt8) : Nat := c.toNat - 48
def G4 (a : Nat) (c : UInt8) : Nat := 10 * a + dgt c
def pY (acc : Nat) (l : List UInt8) : Nat := l.foldl G4 acc
theorem uW (acc : Nat) : pY acc [] = acc := rfl
theorem nz (acc : Nat) (c : UInt8) (r : List UInt8) : pY acc (c :: r) = pY (10 * acc + (c.toNat - 48)) r := by
 unfold pY; rw [List.foldl_cons]; unfold G4 dgt; exact Eq.refl _
theorem yz : ∀ (l : List UInt8) (acc : Nat) (c : UInt8), pY acc (l ++ [c]) = 10 * pY acc l + (c.toNat - 48)
 | [], acc, c => by rw [List.nil_append, nz, uW, uW]
 | d :: l, acc, c => by rw [List.cons_append, nz, nz, yz l]
def sL (d : Nat) (x : List UInt8) : Option Nat :=
 if x.all kG = true ∧ x.length ≤ d ∧ x ≠ [] ∧ (x = [48] ∨ x.head? ≠ some 48) then some (pY 0 x) else none
theorem CD : ∀ (l : List UInt8) (acc : Nat), l.all kG = true → pY acc l < (acc + 1) * 10 ^ l.length
 | [], acc, _ => by rw [uW]; simp
 | c :: l, acc, h => by
  rw [List.all_cons, Bool.and_eq_true] at h
  have hc := sG.1 h.1
  rw [nz, List.length_cons, Nat.pow_succ]
  refine Nat.lt_of_lt_of_le (CD l _ h.2) ?_
  have : (10 * acc + (c.toNat - 48) + 1) ≤ (acc + 1) * 10 := by omega
  calc (10 * acc + (c.toNat - 48) + 1) * 10 ^ l.length ≤ ((acc + 1) * 10) * 10 ^ l.length := Nat.mul_le_mul_right _ this
   _ = (acc + 1) * (10 ^ l.length * 10) := by rw [Nat.mul_assoc, Nat.mul_comm 10]
def gL (c : UInt8) : Bool := (decide (97 ≤ c) && decide (c ≤ 122)) || ((decide (48 ≤ c) && decide (c ≤ 57)) || (c == 46 || (c == 45 || c == 95)))
def okF (s : List UInt8) : Bool := s.all gL && (decide (1 ≤ s.length) && decide (s.length ≤ 16))
end Go.G
