/- Layer 18: while some rule waits one is ready; done one by one, the states are what was done: plainly. -/
import Derived.Test.YtnonfejhkbaikaaPY18f
namespace Go.G
open Go.Ab Go.Proofs Go.RowKit
set_option linter.unusedVariables false
set_option linter.unusedSimpArgs false
set_option maxRecDepth 100000
theorem C2 {S : List Int} {i k : Nat} {z : Int} (hi : i < S.length) : stF (S.set i z) k = if k = i then z else stF S k := by
 unfold stF
 rw [List.getD_eq_getElem?_getD, List.getD_eq_getElem?_getD, List.getElem?_set]
 by_cases h : k = i
 ·subst h; simp [hi]
 ·rw [if_neg (by omega), if_neg h]
theorem Bp {n k : Nat} (h : k < n) : stF (di n) k = 1 := by
 unfold stF di
 rw [List.getD_eq_getElem?_getD, List.getElem?_replicate, if_pos h]; rfl
theorem Bv : ∀ (l : List Int) (i : Nat) (z : Int), z ≠ 1 → stF l i = 1 → wts (l.set i z) + 1 = wts l
 | [], i, z, hz, h => by simp [stF] at h
 | y :: l, 0, z, hz, h => by
  have h : y = 1 := h
  subst h
  simp [wts, hz]; omega
 | y :: l, i + 1, z, hz, h => by
  have h : stF l i = 1 := h
  have := Bv l i z hz h
  simp [wts]; omega
theorem yf : ∀ {l : List Int}, (1 : Int) ∈ l → 0 < wts l
 | y :: l, h => by
  unfold wts
  by_cases hy : y = 1
  ·rw [if_pos hy]; omega
  ·rcases List.mem_cons.1 h with e | h
   ·exact absurd e.symm hy
   ·have := yf h; omega
theorem Ix {S : List Int} (h : (1 : Int) ∈ S) : ∃ k, k < S.length ∧ stF S k = 1 := by
 obtain ⟨k, hk, e⟩ := List.mem_iff_getElem.1 h
 exact ⟨k, hk, by rw [← tu hk]; exact e⟩
section
variable {rs : List RuT}
theorem C1 {S : List Int} (hl : S.length = rs.length) : ∀ i, i ≤ rs.length → ∀ j, stF (skS rs S i).1 j = stF S j ∨ (stF S j = 1 ∧ stF (skS rs S i).1 j = 4)
 | 0, _, j => .inl rfl
 | i + 1, hi, j => by
  have ih := C1 hl i (by omega) j
  unfold skS
  split
  ·rename_i hb
   unfold skB at hb
   rw [Bool.and_eq_true, decide_eq_true_eq] at hb
   simp only
   rw [C2 (by rw [oN, hl]; omega)]
   by_cases h : j = i
   ·subst h
    rw [if_pos rfl]
    rcases ih with e | ⟨e1, e2⟩
    ·exact .inr ⟨by rw [← e]; exact hb.1, rfl⟩
    ·exact .inr ⟨e1, rfl⟩
   ·rw [if_neg h]; exact ih
  ·exact ih
theorem Bn {S : List Int} : ∀ i, (skS rs S i).2 = false → (skS rs S i).1 = S ∧ ∀ j, j < i → skB rs S j = false
 | 0, _ => ⟨rfl, fun j hj => absurd hj (Nat.not_lt_zero _)⟩
 | i + 1, h => by
  unfold skS at h ⊢
  split at h
  ·cases h
  ·rename_i hb
   obtain ⟨h1, h2⟩ := Bn i h
   rw [h1] at hb
   rw [h1, if_neg hb]
   refine ⟨h1, fun j hj => ?_⟩
   by_cases e : j = i
   ·subst e; simpa using hb
   ·exact h2 j (by omega)
theorem Bm : ∀ (f : Nat) (S : List Int), S.length = rs.length → wts S < f → (∀ j, stF (mu rs f S) j = stF S j ∨ (stF S j = 1 ∧ stF (mu rs f S) j = 4)) ∧ (mu rs f S).length = rs.length ∧ (∀ j, j < rs.length → skB rs (mu rs f S) j = false) ∧ wts (mu rs f S) ≤ wts S
 | 0, S, _, h => absurd h (Nat.not_lt_zero _)
 | f + 1, S, hl, h => by
  obtain ⟨w1, w2⟩ := yd rs S rs.length
  have hr := C1 hl rs.length (Nat.le_refl _)
  have hl' : (skS rs S rs.length).1.length = rs.length := by rw [oN]; exact hl
  unfold mu
  split
  ·rename_i hb
   have w3 := w2 hb
   obtain ⟨g1, g2, g3, g4⟩ := Bm f (skS rs S rs.length).1 hl' (by omega)
   refine ⟨fun j => ?_, g2, g3, by omega⟩
   rcases g1 j with e | ⟨e1, e2⟩
   ·rcases hr j with e' | ⟨e3, e4⟩
    ·exact .inl (by rw [e, e'])
    ·exact .inr ⟨e3, by rw [e, e4]⟩
   ·rcases hr j with e' | ⟨e3, e4⟩
    ·exact .inr ⟨by rw [← e']; exact e1, e2⟩
    ·rw [e4] at e1; exact absurd e1 (by decide)
  ·rename_i hb
   obtain ⟨g1, g2⟩ := Bn rs.length (by simpa using hb)
   rw [g1]
   exact ⟨fun j => .inl rfl, hl, g2, Nat.le_refl _⟩
theorem J1 {R : List Int} {j : Nat} (hb : skB rs R j = false) (h1 : stF R j = 1) : ∀ i ∈ ndN rs j, stF R i ≠ 3 ∧ stF R i ≠ 4 := by
 unfold skB at hb
 rw [decide_eq_true h1, Bool.true_and, List.any_eq_false] at hb
 intro i hi
 have := hb i hi
 simp only [Bool.or_eq_true, decide_eq_true_eq, not_or] at this
 exact this
structure PE (rs : List RuT) (S : List Int) (D : Int → Int) : Prop where
 l : S.length = rs.length
 z : ∀ k : Nat, k < rs.length → D k = 0 → stF S k = 1 ∨ stF S k = 4
 d : ∀ k : Nat, k < rs.length → D k ≠ 0 → stF S k = D k ∧ (D k = 2 ∨ D k = 3)
 c : ∀ k, k < rs.length → stF S k = 1 → ∀ j ∈ ndN rs k, stF S j ≠ 3 ∧ stF S j ≠ 4
theorem PE.init (hb : ∀ k, k < rs.length → ∀ i ∈ ndN rs k, i < k) : PE rs (di rs.length) fun _ => 0 :=
 ⟨by unfold di; rw [List.length_replicate], fun k hk _ => .inl (Bp hk), fun k hk h => absurd rfl h, fun k hk _ j hj => by
  have := hb k hk j hj
  rw [Bp (by omega)]; decide⟩
theorem kF {S : List Int} {k : Nat} : k ∈ dG rs S ↔ k < rs.length ∧ j6 rs S k = true := by
 unfold dG
 rw [List.mem_filter, List.mem_range]
theorem qd {S : List Int} {k : Nat} : j6 rs S k = true ↔ stF S k = 1 ∧ ∀ j ∈ ndN rs k, stF S j = 0 ∨ stF S j = 2 := by
 unfold j6
 rw [Bool.and_eq_true, decide_eq_true_eq, List.all_eq_true]
 refine and_congr Iff.rfl (forall_congr' fun j => forall_congr' fun _ => ?_)
 rw [Bool.or_eq_true, decide_eq_true_eq, decide_eq_true_eq]
variable {S : List Int} {D : Int → Int}
theorem PE.ready (h : PE rs S D) (hb : ∀ k, k < rs.length → ∀ i ∈ ndN rs k, i < k) (h1 : (1 : Int) ∈ S) : 0 < (dG rs S).length := by
 obtain ⟨k, hk, e⟩ := Ix h1
 rw [h.l] at hk
 have key : ∀ n k, k ≤ n → k < rs.length → stF S k = 1 → ∃ q, q ∈ dG rs S := by
  intro n
  induction n with
  | zero =>
   intro k hkn hk e
   refine ⟨k, kF.2 ⟨hk, qd.2 ⟨e, fun j hj => ?_⟩⟩⟩
   have := hb k hk j hj
   omega
  | succ n ih =>
   intro k hkn hk e
   by_cases hex : ∃ j, j ∈ ndN rs k ∧ stF S j = 1
   ·obtain ⟨j, hj, ej⟩ := hex
    have := hb k hk j hj
    exact ih j (by omega) (by omega) ej
   ·refine ⟨k, kF.2 ⟨hk, qd.2 ⟨e, fun j hj => ?_⟩⟩⟩
    have hjk := hb k hk j hj
    have hjl : j < rs.length := by omega
    obtain ⟨c3, c4⟩ := h.c k hk e j hj
    have n1 : stF S j ≠ 1 := fun e' => hex ⟨j, hj, e'⟩
    by_cases hz : D j = 0
    ·rcases h.z j hjl hz with e' | e'
     ·exact absurd e' n1
     ·exact absurd e' c4
    ·obtain ⟨e1, e2⟩ := h.d j hjl hz
     rcases e2 with e2 | e2
     ·exact .inr (by rw [e1, e2])
     ·exact absurd (by rw [e1, e2]) c3
 obtain ⟨q, hq⟩ := key k k (Nat.le_refl _) hk e
 exact List.length_pos_of_mem hq
theorem PE.at {k : Nat} (h : PE rs S D) (hb : ∀ k, k < rs.length → ∀ i ∈ ndN rs k, i < k) (hk : k ∈ dG rs S) : D k = 0 ∧ ∀ j ∈ ndN rs k, D j = 2 := by
 obtain ⟨hkl, hr⟩ := kF.1 hk
 obtain ⟨e, hn⟩ := qd.1 hr
 constructor
 ·by_cases hz : D k = 0
  ·exact hz
  ·obtain ⟨e1, e2 | e2⟩ := h.d k hkl hz
   ·rw [e1, e2] at e; exact absurd e (by decide)
   ·rw [e1, e2] at e; exact absurd e (by decide)
 ·intro j hj
  have hjk := hb k hkl j hj
  have hjl : j < rs.length := by omega
  by_cases hz : D j = 0
  ·rcases h.z j hjl hz with e' | e' <;> rcases hn j hj with e2 | e2 <;> rw [e'] at e2 <;> exact absurd e2 (by decide)
  ·obtain ⟨e1, e2 | e2⟩ := h.d j hjl hz
   ·exact e2
   ·rcases hn j hj with e3 | e3 <;> rw [e1, e2] at e3 <;> exact absurd e3 (by decide)
theorem PE.set {k : Nat} {to_ : Int} (h : PE rs S D) (hk : k ∈ dG rs S) (ht : to_ = 2 ∨ to_ = 3) : PE rs (fC rs S k to_) (fun q => if q = (k : Int) then to_ else D q) ∧ wts (fC rs S k to_) < wts S := by
 obtain ⟨hkl, hr⟩ := kF.1 hk
 obtain ⟨e, hn⟩ := qd.1 hr
 have hT : ∀ j, stF (S.set k to_) j = if j = k then to_ else stF S j := fun j => C2 (by rw [h.l]; exact hkl)
 have hTl : (S.set k to_).length = rs.length := by rw [List.length_set]; exact h.l
 have hw := Bv S k to_ (by rcases ht with h | h <;> rw [h] <;> decide) e
 have hwl := tP (S.set k to_)
 have key : (∀ j, stF (fC rs S k to_) j = stF (S.set k to_) j ∨ (stF (S.set k to_) j = 1 ∧ stF (fC rs S k to_) j = 4)) ∧ (fC rs S k to_).length = rs.length ∧ (∀ j, j < rs.length → stF (fC rs S k to_) j = 1 → ∀ i ∈ ndN rs j, stF (fC rs S k to_) i ≠ 3 ∧ stF (fC rs S k to_) i ≠ 4) ∧ wts (fC rs S k to_) ≤ wts (S.set k to_) := by
  unfold fC
  split
  ·obtain ⟨g1, g2, g3, g4⟩ := Bm (rs := rs) (rs.length + 1) (S.set k to_) hTl (by omega)
   exact ⟨g1, g2, fun j hj h1 => J1 (g3 j hj) h1, g4⟩
  ·rename_i h3
   have h2 : to_ = 2 := by rcases ht with h | h; exact h; exact absurd h h3
   refine ⟨fun j => .inl rfl, hTl, fun j hj h1 i hi => ?_, Nat.le_refl _⟩
   rw [hT] at h1 ⊢
   split at h1
   ·rw [h2] at h1; exact absurd h1 (by decide)
   ·split
    ·rw [h2]; decide
    ·exact h.c j hj h1 i hi
 obtain ⟨g1, g2, g3, g4⟩ := key
 refine ⟨⟨g2, fun j hj hz => ?_, fun j hj hz => ?_, g3⟩, by omega⟩
 ·split at hz
  ·subst hz; rcases ht with h | h <;> exact absurd h (by decide)
  ·rename_i hjk
   have hne : j ≠ k := fun e => hjk (by rw [e])
   have hS := h.z j hj hz
   rcases g1 j with e1 | ⟨e1, e2⟩
   ·rw [e1, hT, if_neg hne]; exact hS
   ·exact .inr e2
 ·split at hz
  ·rename_i hjk
   have hjk : j = k := by omega
   rw [if_pos (by rw [hjk])]
   refine ⟨?_, ht⟩
   rcases g1 j with e1 | ⟨e1, e2⟩
   ·rw [e1, hT, if_pos hjk]
   ·rw [hT, if_pos hjk] at e1; rw [e1] at ht; rcases ht with h | h <;> exact absurd h (by decide)
  ·rename_i hjk
   have hne : j ≠ k := fun e => hjk (by rw [e])
   rw [if_neg hjk]
   obtain ⟨e3, e4⟩ := h.d j hj hz
   refine ⟨?_, e4⟩
   rcases g1 j with e1 | ⟨e1, e2⟩
   ·rw [e1, hT, if_neg hne]; exact e3
   ·rw [hT, if_neg hne, e3] at e1; rw [e1] at e4; rcases e4 with h | h <;> exact absurd h (by decide)
theorem PE.fin {k : Nat} (h : PE rs S D) (h1 : (1 : Int) ∉ S) (hk : k < rs.length) (hz : D k = 0) : stF S k = 4 := by
 rcases h.z k hk hz with e | e
 ·refine absurd ?_ h1
  have hk' : k < S.length := by rw [h.l]; exact hk
  rw [← tu hk'] at e
  rw [← e]
  exact List.getElem_mem hk'
 ·exact e
end
end Go.G
