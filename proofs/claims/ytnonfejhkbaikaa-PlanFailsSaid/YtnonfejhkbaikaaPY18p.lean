/- Layer 18: while some rule waits one is ready; done one by one, the states are what was done: plainly. -/
import Derived.Test.YtnonfejhkbaikaaPY18f
namespace Go.G
open Go.Ab Go.Proofs Go.RowKit
set_option linter.unusedVariables false
set_option linter.unusedSimpArgs false
set_option maxRecDepth 100000
theorem xG {S : List Int} {i k : Nat} {z : Int} (hi : i < S.length) : stF (S.set i z) k = if k = i then z else stF S k := by
 unfold stF
 rw [List.getD_eq_getElem?_getD, List.getD_eq_getElem?_getD, List.getElem?_set]
 by_cases h : k = i
 ·subst h; simp [hi]
 ·rw [if_neg (by omega), if_neg h]
theorem A4 {n k : Nat} (h : k < n) : stF (aF n) k = 1 := by
 unfold stF aF
 rw [List.getD_eq_getElem?_getD, List.getElem?_replicate, if_pos h]; rfl
section
variable {rs : List RuT}
theorem Cz {S : List Int} (hl : S.length = rs.length) : ∀ i, i ≤ rs.length → ∀ j, stF (skS rs S i).1 j = stF S j ∨ (stF S j = 1 ∧ stF (skS rs S i).1 j = 4)
 | 0, _, j => .inl rfl
 | i + 1, hi, j => by
  have ih := Cz hl i (by omega) j
  unfold skS
  split
  ·rename_i hb
   unfold skB at hb
   rw [Bool.and_eq_true, decide_eq_true_eq] at hb
   simp only
   rw [xG (by rw [jf, hl]; omega)]
   by_cases h : j = i
   ·subst h
    rw [if_pos rfl]
    rcases ih with e | ⟨e1, e2⟩
    ·exact .inr ⟨by rw [← e]; exact hb.1, rfl⟩
    ·exact .inr ⟨e1, rfl⟩
   ·rw [if_neg h]; exact ih
  ·exact ih
theorem A0 {S : List Int} : ∀ i, (skS rs S i).2 = false → (skS rs S i).1 = S ∧ ∀ j, j < i → skB rs S j = false
 | 0, _ => ⟨rfl, fun j hj => absurd hj (Nat.not_lt_zero _)⟩
 | i + 1, h => by
  unfold skS at h ⊢
  split at h
  ·cases h
  ·rename_i hb
   obtain ⟨h1, h2⟩ := A0 i h
   rw [h1] at hb
   rw [h1, if_neg hb]
   refine ⟨h1, fun j hj => ?_⟩
   by_cases e : j = i
   ·subst e; simpa using hb
   ·exact h2 j (by omega)
theorem AZ : ∀ (f : Nat) (S : List Int), S.length = rs.length → wts S < f → (∀ j, stF (gg rs f S) j = stF S j ∨ (stF S j = 1 ∧ stF (gg rs f S) j = 4)) ∧ (gg rs f S).length = rs.length ∧ (∀ j, j < rs.length → skB rs (gg rs f S) j = false) ∧ wts (gg rs f S) ≤ wts S
 | 0, S, _, h => absurd h (Nat.not_lt_zero _)
 | f + 1, S, hl, h => by
  obtain ⟨w1, w2⟩ := xF rs S rs.length
  have hr := Cz hl rs.length (Nat.le_refl _)
  have hl' : (skS rs S rs.length).1.length = rs.length := by rw [jf]; exact hl
  unfold gg
  split
  ·rename_i hb
   have w3 := w2 hb
   obtain ⟨g1, g2, g3, g4⟩ := AZ f (skS rs S rs.length).1 hl' (by omega)
   refine ⟨fun j => ?_, g2, g3, by omega⟩
   rcases g1 j with e | ⟨e1, e2⟩
   ·rcases hr j with e' | ⟨e3, e4⟩
    ·exact .inl (by rw [e, e'])
    ·exact .inr ⟨e3, by rw [e, e4]⟩
   ·rcases hr j with e' | ⟨e3, e4⟩
    ·exact .inr ⟨by rw [← e']; exact e1, e2⟩
    ·rw [e4] at e1; exact absurd e1 (by decide)
  ·rename_i hb
   obtain ⟨g1, g2⟩ := A0 rs.length (by simpa using hb)
   rw [g1]
   exact ⟨fun j => .inl rfl, hl, g2, Nat.le_refl _⟩
theorem JE {R : List Int} {j : Nat} (hb : skB rs R j = false) (h1 : stF R j = 1) : ∀ i ∈ ndN rs j, stF R i ≠ 3 ∧ stF R i ≠ 4 := by
 unfold skB at hb
 rw [decide_eq_true h1, Bool.true_and, List.any_eq_false] at hb
 intro i hi
 have := hb i hi
 simp only [Bool.or_eq_true, decide_eq_true_eq, not_or] at this
 exact this
theorem Cv {S : List Int} {k : Nat} : k ∈ iJ rs S ↔ k < rs.length ∧ je rs S k = true := by
 unfold iJ
 rw [List.mem_filter, List.mem_range]
theorem GA {S : List Int} {k : Nat} : je rs S k = true ↔ stF S k = 1 ∧ ∀ j ∈ ndN rs k, stF S j = 0 ∨ stF S j = 2 := by
 unfold je
 rw [Bool.and_eq_true, decide_eq_true_eq, List.all_eq_true]
 refine and_congr Iff.rfl (forall_congr' fun j => forall_congr' fun _ => ?_)
 rw [Bool.or_eq_true, decide_eq_true_eq, decide_eq_true_eq]
variable {S : List Int} {D : Int → Int}
end
end Go.G
