/- The abstract machine's temporaries: how many there are, and what each holds. -/
import Derived.WalkKit
set_option linter.unusedVariables false
set_option linter.unusedSimpArgs false
namespace Go.Ab

structure PT where
  n : Nat
  f : Nat → Value

def PT.get (t : PT) (i : Nat) : Value := bif Nat.blt i t.n then t.f i else undef
def PT.has (t : PT) (i : Nat) : Bool := Nat.blt i t.n
def PT.put (t : PT) (i : Nat) (v : Value) : PT := ⟨t.n, fun j => bif Nat.beq j i then v else t.f j⟩
/-- n places. -/
def PT.fill (_ n : Nat) : PT := ⟨n, fun _ => undef⟩

theorem PT.has_put (t : PT) (i : Nat) (v : Value) (j : Nat) : (t.put i v).has j = t.has j := rfl
theorem PT.get_put (t : PT) (i : Nat) (v : Value) (j : Nat) : (t.put i v).get j = if i = j ∧ t.has j = true then v else t.get j := by
  simp only [PT.put, PT.get, PT.has]
  rcases Bool.eq_false_or_eq_true (Nat.blt j t.n) with h2 | h2
  rotate_left
  · simp only [h2]; simp
  · simp only [h2]
    cases h1 : Nat.beq j i
    · rw [if_neg]
      · rfl
      rintro ⟨rfl, _⟩
      simp at h1
    · obtain rfl := Nat.eq_of_beq_eq_true h1
      simp
theorem PT.has_fill (k n i : Nat) (h : n ≤ k) : (PT.fill k n).has i = true ↔ i < n := by simp only [PT.has, PT.fill, Nat.blt_eq]
theorem PT.get_fill (k n i : Nat) : (PT.fill k n).get i = undef := by simp only [PT.get, PT.fill]; cases Nat.blt i n <;> rfl
theorem PT.get_none (t : PT) (i : Nat) (h : t.has i = false) : t.get i = undef := by simp only [PT.get]; simp only [PT.has] at h; rw [h]; rfl

/-- An activation: its temporaries, its deferred calls. -/
structure AAct where
  t : PT
  defers : List Deferred

def AAct.get (a : AAct) (i : Nat) : Value := a.t.get i
def AAct.put (a : AAct) (d : Option Tmp) (v : Value) : AAct :=
  match d with
  | none => a
  | some d => { a with t := a.t.put d v }
def AAct.eval (a : AAct) : Operand → Value
  | .tmp t => a.t.get t
  | .const v => v
  | .global g => .pointer (some ⟨g, 0, none⟩)
  | .func f => .func (.func f) #[] #[]
def AAct.enter (n : Nat) (args : List Value) : AAct := ⟨(args.foldl (fun (p : Nat × PT) v => (p.1 + 1, p.2.put p.1 v)) (0, PT.fill (max n args.length) (max n args.length))).2, []⟩

end Go.Ab
