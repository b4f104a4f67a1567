/- Layer 18: behind a failure all that needs it is skipped, and nothing else: plainly. -/
import Derived.Test.YtnonfejhkbaikaaPY18p
namespace Go.G
open Go.Ab Go.Proofs Go.RowKit
set_option linter.unusedVariables false
set_option linter.unusedSimpArgs false
set_option maxRecDepth 100000
inductive Bad (rs : List RuT) (r : Nat) : Nat → Prop
 | base : Bad rs r r
 | step {k j : Nat} : j ∈ ndN rs k → Bad rs r j → Bad rs r k
section
variable {rs : List RuT} {r : Nat}
theorem Cy {S : List Int} (hl : S.length = rs.length) (h : ∀ j, j < rs.length → stF S j = 3 ∨ stF S j = 4 → Bad rs r j) (hb : ∀ k, k < rs.length → ∀ i ∈ ndN rs k, i < k) : ∀ i, i ≤ rs.length → ∀ j, j < rs.length → stF (skS rs S i).1 j = 3 ∨ stF (skS rs S i).1 j = 4 → Bad rs r j
 | 0, _, j, hj, e => h j hj e
 | i + 1, hi, j, hj, e => by
  have ih := Cy hl h hb i (by omega)
  unfold skS at e
  split at e
  ·rename_i hk
   unfold skB at hk
   rw [Bool.and_eq_true, List.any_eq_true] at hk
   obtain ⟨_, y, hy, e3⟩ := hk
   simp only [Bool.or_eq_true, decide_eq_true_eq] at e3
   by_cases hji : j = i
   ·subst hji
    have := hb j hj y hy
    exact .step hy (ih y (by omega) e3)
   ·simp only at e
    rw [xG (by rw [jf, hl]; omega), if_neg hji] at e
    exact ih j hj e
  ·exact ih j hj e
theorem AY (hb : ∀ k, k < rs.length → ∀ i ∈ ndN rs k, i < k) : ∀ (f : Nat) (S : List Int), S.length = rs.length → (∀ j, j < rs.length → stF S j = 3 ∨ stF S j = 4 → Bad rs r j) → ∀ j, j < rs.length → stF (gg rs f S) j = 3 ∨ stF (gg rs f S) j = 4 → Bad rs r j
 | 0, S, _, h, j, hj, e => h j hj e
 | f + 1, S, hl, h, j, hj, e => by
  have h' := Cy hl h hb rs.length (Nat.le_refl _)
  unfold gg at e
  split at e
  ·exact AY hb f _ (by rw [jf]; exact hl) h' j hj e
  ·exact h' j hj e
theorem ue (hb : ∀ k, k < rs.length → ∀ i ∈ ndN rs k, i < k) (hr : r < rs.length) : (bR rs (aF rs.length) r 3).length = rs.length ∧ stF (bR rs (aF rs.length) r 3) r = 3 ∧ ∀ k, k < rs.length → k ≠ r → (Bad rs r k → stF (bR rs (aF rs.length) r 3) k = 4) ∧ (¬ Bad rs r k → stF (bR rs (aF rs.length) r 3) k = 1) := by
 have hol : (aF rs.length).length = rs.length := by unfold aF; rw [List.length_replicate]
 have hT : ∀ j, stF ((aF rs.length).set r 3) j = if j = r then 3 else stF (aF rs.length) j := fun j => xG (by rw [hol]; exact hr)
 have hTl : ((aF rs.length).set r 3).length = rs.length := by rw [List.length_set]; exact hol
 have hwl := xI ((aF rs.length).set r 3)
 obtain ⟨g1, g2, g3, _⟩ := AZ (rs := rs) (rs.length + 1) ((aF rs.length).set r 3) hTl (by omega)
 have hbad := AY (rs := rs) (r := r) hb (rs.length + 1) ((aF rs.length).set r 3) hTl fun j hj e => by
  rw [hT] at e
  split at e
  ·rename_i h; rw [h]; exact .base
  ·rw [A4 hj] at e; rcases e with e | e <;> exact absurd e (by decide)
 have e0 : bR rs (aF rs.length) r 3 = gg rs (rs.length + 1) ((aF rs.length).set r 3) := by unfold bR; rw [if_pos rfl]
 rw [e0]
 generalize gg rs (rs.length + 1) ((aF rs.length).set r 3) = R at *
 have hrr : stF R r = 3 := by
  rcases g1 r with e | ⟨e, _⟩
  ·rw [e, hT, if_pos rfl]
  ·rw [hT, if_pos rfl] at e; exact absurd e (by decide)
 have hot : ∀ k, k < rs.length → k ≠ r → stF R k = 1 ∨ stF R k = 4 := fun k hk hne => by
  rcases g1 k with e | ⟨_, e⟩
  ·rw [e, hT, if_neg hne, A4 hk]; exact .inl rfl
  ·exact .inr e
 have hup : ∀ k, Bad rs r k → k < rs.length → stF R k = 3 ∨ stF R k = 4 := by
  intro k h
  induction h with
  | base => exact fun _ => .inl hrr
  | step hj hB ih =>
   rename_i k j
   intro hk
   have hjk := hb k hk j hj
   by_cases hne : k = r
   ·rw [hne]; exact .inl hrr
   ·rcases hot k hk hne with e | e
    ·have hc := JE (g3 k hk) e j hj
     rcases ih (by omega) with e' | e'
     ·exact absurd e' hc.1
     ·exact absurd e' hc.2
    ·exact .inr e
 refine ⟨g2, hrr, fun k hk hne => ⟨fun h => ?_, fun h => ?_⟩⟩
 ·rcases hot k hk hne with e | e
  ·rcases hup k h hk with e' | e' <;> rw [e] at e' <;> exact absurd e' (by decide)
  ·exact e
 ·rcases hot k hk hne with e | e
  ·exact e
  ·exact absurd (hbad k hk (.inr e)) h
theorem Dz (hb : ∀ k, k < rs.length → ∀ i ∈ ndN rs k, i < k) (hr : r < rs.length) {k : Nat} (hk : k ∈ iJ rs (bR rs (aF rs.length) r 3)) : ¬ Bad rs r k := by
 obtain ⟨h1, h2, h3⟩ := ue hb hr
 obtain ⟨hkl, hkr⟩ := Cv.1 hk
 have e := (GA.1 hkr).1
 intro hB
 by_cases hne : k = r
 ·rw [hne, h2] at e; exact absurd e (by decide)
 ·rw [(h3 k hkl hne).1 hB] at e; exact absurd e (by decide)
end
end Go.G
