/- Layer 5, plainly: the lines that words and faults tell are as many at most as there are. -/
import Derived.Test.YtdhdbdngjbbgiaaDoorPQ5b
namespace Go.G
open Go.Ab
set_option linter.unusedVariables false
set_option linter.unusedSimpArgs false

theorem wordsN_ln : ∀ (k line col : Nat) (row : List Wd) (r : List UInt8), r.length < k → (∀ w ∈ row, w.2.1 = line) →
    (∀ f, wordsN k line col row r = .inl f → f.2.1 = line) ∧ ∀ ws, wordsN k line col row r = .inr ws → ∀ w ∈ ws, w.2.1 = line := by
  intro k
  induction k with
  | zero => intro _ _ _ r h; omega
  | succ k ih =>
    intro line col row r h hrow
    cases r with
    | nil => exact ⟨fun f he => (by cases he), fun ws he => by injection he with he; subst he; exact hrow⟩
    | cons c t =>
      rw [List.length_cons] at h
      simp only [wordsN]
      split
      · exact ih _ _ _ _ (by omega) hrow
      · split
        · exact ⟨fun f he => (by cases he), fun ws he => by injection he with he; subst he; exact hrow⟩
        · cases hw : tokC line col c t with
          | inl f' => exact ⟨fun f he => by injection he with he; subst he; exact (tokF_col hw).2, fun ws he => (by cases he)⟩
          | inr p =>
            obtain ⟨w, m⟩ := p
            have h3 := drop_pos_lt (t := t) (c := c) (tokF_pos hw)
            refine ih _ _ _ _ (by omega) fun x hx => ?_
            rcases List.mem_append.1 hx with hx | hx
            · exact hrow x hx
            · have : x = w := by simpa using hx
              subst this
              exact (tokF_spell hw).1
theorem rowsF_ln : ∀ (ls : List (List UInt8)) (line : Nat), (∀ f, rowsF line ls = .inl f → f.2.1 ≤ line + ls.length) ∧ ∀ rs, rowsF line ls = .inr rs → ∀ r ∈ rs, ∀ w ∈ r, w.2.1 ≤ line + ls.length
  | [], line => ⟨fun f h => (by cases h), fun rs h => by injection h with h; subst h; intro r hr; cases hr⟩
  | l :: ls, line => by
    have hl := wordsN_ln (l.length + 1) line 1 [] l (by omega) (fun w hw => by cases hw)
    have ih := rowsF_ln ls (line + 1)
    simp only [rowsF, List.length_cons]
    cases hw : wordsN (l.length + 1) line 1 [] l with
    | inl f' => exact ⟨fun f he => by injection he with he; subst he; have := hl.1 _ hw; omega, fun ws he => (by cases he)⟩
    | inr ws =>
      have hws := hl.2 _ hw
      cases hr : rowsF (line + 1) ls with
      | inl f' => exact ⟨fun f he => by injection he with he; subst he; have := ih.1 _ hr; omega, fun ws he => (by cases he)⟩
      | inr rs =>
        refine ⟨fun f he => (by cases he), fun xs he => ?_⟩
        injection he with he
        subst he
        have h2 := ih.2 _ hr
        intro r hr w hx
        unfold pushR at hr
        split at hr
        · have := h2 r hr w hx; omega
        · rcases List.mem_cons.1 hr with e | hr
          · subst e; have := hws w hx; omega
          · have := h2 r hr w hx; omega
theorem nls_le (b : List UInt8) : nls b ≤ b.length := List.countP_le_length
theorem split_ln {b : List UInt8} : (∀ f, splitF b = .inl f → f.2.1 ≤ b.length + 2) ∧ ∀ rs, splitF b = .inr rs → ∀ r ∈ rs, ∀ w ∈ r, w.2.1 ≤ b.length + 2 := by
  have h := rowsF_ln (linesF b) 1
  have hl := linesF_length b
  have hn := nls_le b
  rw [splitF_rows]
  exact ⟨fun f he => by have := h.1 f he; omega, fun rs he r hr w hw => by have := h.2 rs he r hr w hw; omega⟩
end Go.G
