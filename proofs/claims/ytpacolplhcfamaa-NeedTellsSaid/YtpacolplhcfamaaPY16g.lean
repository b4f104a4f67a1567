/- NeedTells, plainly: what stands in an output, and whether it is old. -/
import Derived.Test.YtpacolplhcfamaaPY16h
import Derived.Test.YtpacolplhcfamaaPE11b
namespace Go.G
open Go.Ab Go.Proofs Go.RowKit
set_option linter.unusedVariables false
set_option linter.unusedSimpArgs false
set_option maxRecDepth 100000

def prW (i : Nat) (x : List UInt8) : List UInt8 := printF (ruA.getD i []) [x]
theorem actB_0 : (actB [dAll]).length = 24 := by kernel_rfl
theorem actB_1 : (actB [dAll, dUp]).length = 42 := by kernel_rfl
theorem prW_len {i : Nat} (hi : i < 2) (x : List UInt8) : (prW i x).length = 42 + 18 * i + x.length := by
  have : i = 0 ∨ i = 1 := by omega
  rcases this with rfl | rfl
  · show (printF [dAll] [x]).length = _
    unfold printF
    simp only [List.length_append, be_length, actB_0]
    simp [insB, be_length]
    omega
  · show (printF [dAll, dUp] [x]).length = _
    unfold printF
    simp only [List.length_append, be_length, actB_1]
    simp [insB, be_length]
    omega
abbrev noneS : List UInt8 := [110, 111, 110, 101]
abbrev spoilS : List UInt8 := [115, 112, 111, 105, 108, 101, 100]
theorem open_noneS : openF noneS = none := by kernel_rfl
def oldK (k : Nat) : Bool := decide (k = 3) || (decide (k = 4) || (decide (k = 5) || decide (k = 6)))
/-- What is put there. -/
def FileOk (i k : Nat) (inn : List UInt8) (o : Option (List UInt8)) : Prop :=
  (k < 3 ∧ ∃ v, v.length ≤ 256 ∧ o = some (makeF (prW i inn) v)) ∨ (k = 3 ∧ o = none) ∨ (k = 4 ∧ o = some noneS) ∨
  (k = 5 ∧ ∃ v, v.length ≤ 256 ∧ o = some (makeF (prW i (1 :: inn)) v)) ∨ (k = 6 ∧ ∃ v, v.length ≤ 256 ∧ o = some (makeF (prW (1 - i) inn) v)) ∨ (7 ≤ k ∧ o = some (makeF (prW i inn) spoilS))
theorem old_of {fl : Fl} {s inn : List UInt8} {i k : Nat} (hi : i < 2) (hin : inn.length ≤ 256) (h : FileOk i k inn ((fl s).map (·.1))) : oldF fl s (prW i inn) = oldK k := by
  have l1 := prW_len hi inn
  have l2 := prW_len hi (1 :: inn)
  have l3 := prW_len (show 1 - i < 2 by omega) inn
  rw [List.length_cons] at l2
  have made : ∀ (x v : List UInt8), x.length ≤ 4000 → v.length ≤ 256 → (fl s).map (·.1) = some (makeF x v) → oldF fl s (prW i inn) = !decide (x = prW i inn) := by
    intro x v hx hv e
    cases hfl : fl s with
    | none => rw [hfl] at e; cases e
    | some q =>
      rw [hfl] at e
      have e : q.1 = makeF x v := by simpa using e
      unfold oldF
      rw [hfl]
      simp only
      rw [e, openF_make _ _ hx hv]
  rcases h with ⟨hk, v, hv, e⟩ | ⟨hk, e⟩ | ⟨hk, e⟩ | ⟨hk, v, hv, e⟩ | ⟨hk, v, hv, e⟩ | ⟨hk, e⟩
  · rw [made _ _ (by omega) hv e, decide_eq_true rfl]
    unfold oldK
    rw [decide_eq_false (by omega), decide_eq_false (by omega), decide_eq_false (by omega), decide_eq_false (by omega)]; rfl
  · have : fl s = none := by
      cases hfl : fl s with
      | none => rfl
      | some q => rw [hfl] at e; cases e
    unfold oldF; rw [this, hk]; rfl
  · subst hk
    cases hfl : fl s with
    | none => rw [hfl] at e; cases e
    | some q =>
      rw [hfl] at e
      have e : q.1 = noneS := by simpa using e
      unfold oldF
      rw [hfl]
      simp only
      rw [e, open_noneS]; rfl
  · rw [made _ _ (by omega) hv e, decide_eq_false (fun e => by have := congrArg List.length e; omega), hk]; rfl
  · rw [made _ _ (by omega) hv e, decide_eq_false (fun e => by have := congrArg List.length e; omega), hk]; rfl
  · rw [made _ _ (by omega) (by decide) e, decide_eq_true rfl]
    unfold oldK
    rw [decide_eq_false (by omega), decide_eq_false (by omega), decide_eq_false (by omega), decide_eq_false (by omega)]; rfl
theorem prtA_W (inn : List UInt8) : prtA ruA [inn] 2 = [prW 0 inn, prW 1 inn] := rfl
end Go.G
