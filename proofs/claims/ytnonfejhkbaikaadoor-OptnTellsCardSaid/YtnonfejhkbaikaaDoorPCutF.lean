/- Bytes cut at a byte, plainly. -/
import Derived.Test.YtnonfejhkbaikaaDoorPN0
namespace Go.G
open Go.Ab
set_option linter.unusedVariables false
set_option linter.unusedSimpArgs false

/-- The pieces between a byte's places. -/
def cutF (x : UInt8) : List UInt8 → List (List UInt8)
  | [] => [[]]
  | c :: t => if c = x then [] :: cutF x t else match cutF x t with
    | [] => [[c]]
    | l :: r => (c :: l) :: r
theorem cutF_ne (x : UInt8) (b : List UInt8) : cutF x b ≠ [] := by
  cases b with
  | nil => simp [cutF]
  | cons c t =>
    rw [cutF]
    split
    · simp
    · split <;> simp
theorem cutF_stop {x : UInt8} (r : List UInt8) : ∀ s : List UInt8, (∀ c ∈ s, c ≠ x) → cutF x (s ++ x :: r) = s :: cutF x r
  | [], _ => by rw [List.nil_append, cutF, if_pos rfl]
  | c :: s, h => by
    rw [List.cons_append, cutF, if_neg (h c (by simp)), cutF_stop r s fun d hd => h d (by simp [hd])]
theorem cutF_last {x : UInt8} : ∀ s : List UInt8, (∀ c ∈ s, c ≠ x) → cutF x s = [s]
  | [], _ => rfl
  | c :: s, h => by
    rw [cutF, if_neg (h c (by simp)), cutF_last s fun d hd => h d (by simp [hd])]
theorem piece_or (x : UInt8) (b : List UInt8) : (∀ c ∈ b, c ≠ x) ∨ ∃ s r, b = s ++ x :: r ∧ ∀ c ∈ s, c ≠ x := by
  induction b with
  | nil => exact .inl fun c h => by cases h
  | cons c t ih =>
    by_cases hc : c = x
    · exact .inr ⟨[], t, by rw [hc]; rfl, fun c h => by cases h⟩
    · rcases ih with h | ⟨s, r, rfl, h⟩
      · exact .inl fun d hd => by
          rcases List.mem_cons.1 hd with rfl | hd
          · exact hc
          · exact h d hd
      · exact .inr ⟨c :: s, r, rfl, fun d hd => by
          rcases List.mem_cons.1 hd with rfl | hd
          · exact hc
          · exact h d hd⟩
theorem cutF_length (x : UInt8) : ∀ b : List UInt8, (cutF x b).length = b.countP (fun c => c == x) + 1
  | [] => rfl
  | c :: b => by
    rw [cutF]
    split
    · rename_i h; rw [List.length_cons, cutF_length x b]; simp [h]
    · rename_i h
      have e := cutF_length x b
      have : (c :: b).countP (fun c => c == x) = b.countP fun c => c == x := by simp [h]
      rw [this]
      split
      · rename_i h2; rw [h2] at e; simp at e
      · rename_i l r h2; rw [h2] at e; simpa using e
theorem cutF_mem {x : UInt8} : ∀ (b : List UInt8), ∀ s ∈ cutF x b, ∀ c ∈ s, c ≠ x
  | [], s, hs, c, hc => by
    have : s = [] := by simpa [cutF] using hs
    subst this; cases hc
  | d :: b, s, hs, c, hc => by
    have ih := cutF_mem (x := x) b
    rw [cutF] at hs
    split at hs
    · rcases List.mem_cons.1 hs with rfl | hs
      · cases hc
      · exact ih s hs c hc
    · rename_i h
      split at hs
      · have : s = [d] := by simpa using hs
        subst this
        have : c = d := by simpa using hc
        rw [this]; exact h
      · rename_i l r h2
        rcases List.mem_cons.1 hs with rfl | hs
        · rcases List.mem_cons.1 hc with rfl | hc
          · exact h
          · exact ih l (by rw [h2]; simp) c hc
        · exact ih s (by rw [h2]; simp [hs]) c hc
/-- The pieces, put together again. -/
theorem cutF_join {x : UInt8} : ∀ (b : List UInt8), [x].intercalate (cutF x b) = b
  | [] => by simp [cutF, List.intercalate, List.intersperse]
  | d :: b => by
    have ih := cutF_join (x := x) b
    have hne := cutF_ne x b
    rw [cutF]
    split
    · rename_i h
      subst h
      cases hq : cutF d b with
      | nil => exact absurd hq hne
      | cons l r => rw [hq] at ih; simp only [List.intercalate, List.intersperse] at ih ⊢; simpa using ih
    · split
      · rename_i h2; exact absurd h2 hne
      · rename_i l r h2
        rw [h2] at ih
        cases r with
        | nil => simp only [List.intercalate, List.intersperse] at ih ⊢; simpa using ih
        | cons a r => simp only [List.intercalate, List.intersperse] at ih ⊢; simpa using ih
theorem cutF_le (x : UInt8) : ∀ (b : List UInt8), ∀ l ∈ cutF x b, l.length ≤ b.length
  | [], l, h => by
    have : l = [] := by simpa [cutF] using h
    subst this; simp
  | d :: b, l, h => by
    have ih := cutF_le x b
    rw [cutF] at h
    rw [List.length_cons]
    split at h
    · rcases List.mem_cons.1 h with rfl | h
      · simp
      · have := ih l h; omega
    · split at h
      · have : l = [d] := by simpa using h
        subst this; simp
      · rename_i l' r h2
        rcases List.mem_cons.1 h with rfl | h
        · have := ih l' (by rw [h2]; simp); simp; omega
        · have := ih l (by rw [h2]; simp [h]); omega
end Go.G
