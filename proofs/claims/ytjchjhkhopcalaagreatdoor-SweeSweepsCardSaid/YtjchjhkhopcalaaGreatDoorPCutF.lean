/- Bytes cut at a byte, plainly. -/
import Derived.Test.YtjchjhkhopcalaaGreatDoorPN0
namespace Go.G
open Go.Ab
set_option linter.unusedVariables false
set_option linter.unusedSimpArgs false
def aR (x : UInt8) : List UInt8 → List (List UInt8)
 | [] => [[]]
 | c :: t => if c = x then [] :: aR x t else match aR x t with
  | [] => [[c]]
  | l :: r => (c :: l) :: r
theorem s6 (x : UInt8) (b : List UInt8) : aR x b ≠ [] := by
 cases b with
 | nil => simp [aR]
 | cons c t =>
  rw [aR]
  split
  ·simp
  ·split <;> simp
theorem fe {x : UInt8} (r : List UInt8) : ∀ s : List UInt8, (∀ c ∈ s, c ≠ x) → aR x (s ++ x :: r) = s :: aR x r
 | [], _ => by rw [List.nil_append, aR, if_pos rfl]
 | c :: s, h => by
  rw [List.cons_append, aR, if_neg (h c (by simp)), fe r s fun d hd => h d (by simp [hd])]
theorem gz {x : UInt8} : ∀ s : List UInt8, (∀ c ∈ s, c ≠ x) → aR x s = [s]
 | [], _ => rfl
 | c :: s, h => by
  rw [aR, if_neg (h c (by simp)), gz s fun d hd => h d (by simp [hd])]
theorem oh (x : UInt8) (b : List UInt8) : (∀ c ∈ b, c ≠ x) ∨ ∃ s r, b = s ++ x :: r ∧ ∀ c ∈ s, c ≠ x := by
 induction b with
 | nil => exact .inl fun c h => by cases h
 | cons c t ih =>
  by_cases hc : c = x
  ·exact .inr ⟨[], t, by rw [hc]; rfl, fun c h => by cases h⟩
  ·rcases ih with h | ⟨s, r, rfl, h⟩
   ·exact .inl fun d hd => by
      rcases List.mem_cons.1 hd with rfl | hd
      ·exact hc
      ·exact h d hd
   ·exact .inr ⟨c :: s, r, rfl, fun d hd => by
      rcases List.mem_cons.1 hd with rfl | hd
      ·exact hc
      ·exact h d hd⟩
theorem nN {x : UInt8} : ∀ (b : List UInt8), ∀ s ∈ aR x b, ∀ c ∈ s, c ≠ x
 | [], s, hs, c, hc => by
  have : s = [] := by simpa [aR] using hs
  subst this; cases hc
 | d :: b, s, hs, c, hc => by
  have ih := nN (x := x) b
  rw [aR] at hs
  split at hs
  ·rcases List.mem_cons.1 hs with rfl | hs
   ·cases hc
   ·exact ih s hs c hc
  ·rename_i h
   split at hs
   ·have : s = [d] := by simpa using hs
    subst this
    have : c = d := by simpa using hc
    rw [this]; exact h
   ·rename_i l r h2
    rcases List.mem_cons.1 hs with rfl | hs
    ·rcases List.mem_cons.1 hc with rfl | hc
     ·exact h
     ·exact ih l (by rw [h2]; simp) c hc
    ·exact ih s (by rw [h2]; simp [hs]) c hc
theorem mF {x : UInt8} : ∀ (b : List UInt8), [x].intercalate (aR x b) = b
 | [] => by simp [aR, List.intercalate, List.intersperse]
 | d :: b => by
  have ih := mF (x := x) b
  have hne := s6 x b
  rw [aR]
  split
  ·rename_i h
   subst h
   cases hq : aR d b with
   | nil => exact absurd hq hne
   | cons l r => rw [hq] at ih; simp only [List.intercalate, List.intersperse] at ih ⊢; simpa using ih
  ·split
   ·rename_i h2; exact absurd h2 hne
   ·rename_i l r h2
    rw [h2] at ih
    cases r with
    | nil => simp only [List.intercalate, List.intersperse] at ih ⊢; simpa using ih
    | cons a r => simp only [List.intercalate, List.intersperse] at ih ⊢; simpa using ih
theorem lR (x : UInt8) : ∀ (b : List UInt8), ∀ l ∈ aR x b, l.length ≤ b.length
 | [], l, h => by
  have : l = [] := by simpa [aR] using h
  subst this; simp
 | d :: b, l, h => by
  have ih := lR x b
  rw [aR] at h
  rw [List.length_cons]
  split at h
  ·rcases List.mem_cons.1 h with rfl | h
   ·simp
   ·have := ih l h; omega
  ·split at h
   ·have : l = [d] := by simpa using h
    subst this; simp
   ·rename_i l' r h2
    rcases List.mem_cons.1 h with rfl | h
    ·have := ih l' (by rw [h2]; simp); simp; omega
    ·have := ih l (by rw [h2]; simp [h]); omega
end Go.G
