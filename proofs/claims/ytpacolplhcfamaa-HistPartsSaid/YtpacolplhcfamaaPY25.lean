/- Layer 25, plainly: what was last, what is honest, what is a part. -/
import Derived.Test.YtpacolplhcfamaaPY10
import Derived.Test.YtpacolplhcfamaaPU3
namespace Go.G
open Go.Ab Go.Proofs Go.RowKit
set_option linter.unusedVariables false
set_option linter.unusedSimpArgs false

/-- A commit: who, target, bytes, drop. -/
abbrev Cm := Int × List UInt8 × List UInt8 × Bool
/-- What is told: target, who, inc, print. -/
abbrev Dm := List UInt8 × Int × Int × List UInt8
def lastS (t : List UInt8) (o : Option (List UInt8)) (c : Cm) : Option (List UInt8) := if c.2.1 = t then (if c.2.2.2 = true then none else some c.2.2.1) else o
def lastF (t : List UInt8) (l : List Cm) : Option (List UInt8) := l.foldl (lastS t) none
theorem lastF_snoc (t : List UInt8) (l : List Cm) (c : Cm) : lastF t (l ++ [c]) = lastS t (lastF t l) c := by
  unfold lastF
  rw [List.foldl_append]; rfl
theorem lastF_none {t : List UInt8} : ∀ {l : List Cm}, (∀ c ∈ l, c.2.1 ≠ t) → lastF t l = none := by
  intro l h
  have : ∀ (l : List Cm) (o : Option (List UInt8)), (∀ c ∈ l, c.2.1 ≠ t) → l.foldl (lastS t) o = o := by
    intro l
    induction l with
    | nil => intro o _; rfl
    | cons c l ih =>
      intro o h
      rw [List.foldl_cons]
      have : lastS t o c = o := by unfold lastS; rw [if_neg (h c (by simp))]
      rw [this, ih o fun d hd => h d (by simp [hd])]
  exact this l none h
def tellsF (d : Dm) (c : Cm) : Bool := match openF c.2.2.1 with
  | none => false
  | some p => !c.2.2.2 && (decide (d.1 = c.2.1) && (decide (d.2.1 = c.1) && decide (d.2.2.2 = p.1)))
def withF : List Dm → List Cm → Bool
  | d, [] => d.isEmpty
  | [], _ :: _ => true
  | x :: d, c :: l => if tellsF x c = true then withF d l else withF (x :: d) l
theorem withF_nil (l : List Cm) : withF [] l = true := by cases l <;> rfl
theorem withF_end (x : Dm) (d : List Dm) : withF (x :: d) [] = false := rfl
def honF (c : Cm) : Bool := c.2.2.2 || (match openF c.2.2.1 with
  | none => false
  | some p => decide (valO 4000 256 p.1 = some p.2))
end Go.G
