/- Layer 21, plainly: options as words, and back. -/
import Derived.Test.YtnonfejhkbaikaaDoorPQ4
namespace Go.G
open Go.Ab
set_option linter.unusedVariables false
set_option linter.unusedSimpArgs false

abbrev OpT := Bool × Bool × Bool × List (List UInt8)
def wDry : List UInt8 := [100, 114, 121]
def wFast : List UInt8 := [102, 97, 115, 116]
def wClean : List UInt8 := [99, 108, 101, 97, 110]
def wTo : List UInt8 := [116, 111]
def wordsO (o : OpT) : List (List UInt8) :=
  (if o.1 then [wDry] else []) ++ ((if o.2.1 then [wFast] else []) ++ ((if o.2.2.1 then [wClean] else []) ++ (if o.2.2.2 = [] then [] else wTo :: o.2.2.2)))
def oOk (o : OpT) : Bool := decide (o.2.2.2.length ≤ 8) && o.2.2.2.all okF
def printO (o : OpT) : List UInt8 := if oOk o then joinL [32] (wordsO o) else []
def readO : Bool → Bool → Bool → List (List UInt8) → OpT
  | d, f, c, [] => (d, f, c, [])
  | d, f, c, x :: r => if x = wTo then (d, f, c, r) else readO (d || decide (x = wDry)) (f || decide (x = wFast)) (c || decide (x = wClean)) r
def wordsS (s : List UInt8) : List (List UInt8) := if s = [] then [] else cutF 32 s
def parseO (s : List UInt8) : Option OpT := if printO (readO false false false (wordsS s)) = s then some (readO false false false (wordsS s)) else none

theorem okF_ne {s : List UInt8} (h : okF s = true) : s ≠ [] := by
  intro e; subst e; cases h
theorem let_32 {c : UInt8} (h : letB c = true) : c ≠ 32 := by
  intro e; subst e; revert h; decide
theorem okF_32 {s : List UInt8} (h : okF s = true) : ∀ c ∈ s, c ≠ 32 := by
  intro c hc
  unfold okF at h
  rw [Bool.and_eq_true] at h
  exact let_32 (List.all_eq_true.1 h.1 c hc)
theorem joinL_cons (x y : List UInt8) (r : List (List UInt8)) : joinL [32] (x :: y :: r) = x ++ (32 :: joinL [32] (y :: r)) := by simp [joinL]
theorem cut_join : ∀ (ws : List (List UInt8)), ws ≠ [] → (∀ w ∈ ws, ∀ c ∈ w, c ≠ 32) → cutF 32 (joinL [32] ws) = ws
  | [], h, _ => absurd rfl h
  | [x], _, h => by rw [show joinL [32] [x] = x by simp [joinL]]; exact cutF_last x (h x (by simp))
  | x :: y :: r, _, h => by
    rw [joinL_cons, cutF_stop _ _ (h x (by simp)), cut_join (y :: r) (by simp) fun w hw => h w (by simp [hw])]
theorem join_ne : ∀ (ws : List (List UInt8)), ws ≠ [] → (∀ w ∈ ws, w ≠ []) → joinL [32] ws ≠ []
  | [], h, _ => absurd rfl h
  | [x], _, h => by rw [show joinL [32] [x] = x by simp [joinL]]; exact h x (by simp)
  | x :: y :: r, _, h => by rw [joinL_cons]; simp
theorem wordsO_ok {o : OpT} (h : oOk o = true) : (∀ w ∈ wordsO o, ∀ c ∈ w, c ≠ 32) ∧ ∀ w ∈ wordsO o, w ≠ [] := by
  unfold oOk at h
  rw [Bool.and_eq_true] at h
  have hn := List.all_eq_true.1 h.2
  have key : ∀ w ∈ wordsO o, w = wDry ∨ w = wFast ∨ w = wClean ∨ w = wTo ∨ w ∈ o.2.2.2 := by
    intro w hw
    unfold wordsO at hw
    simp only [List.mem_append] at hw
    rcases hw with hw | hw | hw | hw
    · split at hw
      · left; simpa using hw
      · cases hw
    · split at hw
      · right; left; simpa using hw
      · cases hw
    · split at hw
      · right; right; left; simpa using hw
      · cases hw
    · split at hw
      · cases hw
      · rcases List.mem_cons.1 hw with hw | hw
        · exact .inr (.inr (.inr (.inl hw)))
        · exact .inr (.inr (.inr (.inr hw)))
  constructor
  · intro w hw
    rcases key w hw with rfl | rfl | rfl | rfl | hw
    · decide
    · decide
    · decide
    · decide
    · exact okF_32 (hn w hw)
  · intro w hw
    rcases key w hw with rfl | rfl | rfl | rfl | hw
    · decide
    · decide
    · decide
    · decide
    · exact okF_ne (hn w hw)
theorem readO_words (o : OpT) : readO false false false (wordsO o) = o := by
  obtain ⟨d, f, c, l⟩ := o
  unfold wordsO
  cases l with
  | nil => cases d <;> cases f <;> cases c <;> decide
  | cons x r => cases d <;> cases f <;> cases c <;> rfl
theorem words_print {o : OpT} (h : oOk o = true) : wordsS (printO o) = wordsO o := by
  obtain ⟨h1, h2⟩ := wordsO_ok h
  unfold printO
  rw [if_pos h]
  unfold wordsS
  by_cases he : wordsO o = []
  · rw [he]; rfl
  · rw [if_neg (join_ne _ he h2), cut_join _ he h1]
theorem parse_print {o : OpT} (h : oOk o = true) : parseO (printO o) = some o := by
  unfold parseO
  rw [words_print h, readO_words, if_pos rfl]
theorem print_bad {o : OpT} (h : oOk o = false) : printO o = [] := by unfold printO; rw [h]; rfl
theorem parse_nil : parseO [] = some (false, false, false, []) := rfl
theorem parseO_some {s : List UInt8} {o : OpT} (h : parseO s = some o) : printO o = s := by
  unfold parseO at h
  split at h
  · rename_i hp
    injection h with h; subst h; exact hp
  · cases h
/-- What its text reads as. -/
theorem parse_back (o : OpT) : parseO (printO o) = some (if printO o ≠ [] ∨ o = (false, false, false, []) then o else (false, false, false, [])) := by
  cases h : oOk o with
  | true =>
    rw [parse_print h]
    by_cases hp : printO o = []
    · have h1 := parse_print h
      rw [hp, parse_nil] at h1
      injection h1 with h1
      rw [if_pos (.inr h1.symm)]
    · rw [if_pos (.inl hp)]
  | false =>
    rw [print_bad h, parse_nil]
    split
    · rename_i h2
      rcases h2 with h2 | h2
      · exact absurd rfl h2
      · rw [h2]
    · rfl
end Go.G
