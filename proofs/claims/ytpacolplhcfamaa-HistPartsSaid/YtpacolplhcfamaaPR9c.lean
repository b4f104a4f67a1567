/- Layer 6: actions that are right, by the document. -/
import Derived.Test.YtpacolplhcfamaaPA6a
namespace Go.G
open Go.Ab Go.Proofs Go.RowKit
set_option linter.unusedVariables false
set_option linter.unusedSimpArgs false
set_option maxRecDepth 100000

def topR (k : Int) : Int := if k = 7 ∨ k = 8 then 999 else if k = 2 then 15 else 0
theorem textA_iff (k : Int) : textA k = true ↔ k = 1 ∨ k = 10 := by unfold textA; simp
theorem top_iff (k : Int) : (if 0 > topA k then 0 else topA k) = topR k := by
  unfold topA topR
  by_cases h2 : k = 2
  · subst h2; decide
  · by_cases h7 : k = 7
    · subst h7; decide
    · by_cases h8 : k = 8
      · subst h8; decide
      · simp [h2, h7, h8]
theorem good_iff (first : Bool) (k n : Int) (s : List UInt8) : goodA first (k, n, s) = true ↔ (1 ≤ k ∧ k ≤ 11) ∧ beginsA k = first ∧ (0 ≤ n ∧ n ≤ topR k) ∧ fitsA s = true ∧ (textA k = true ∨ s = []) := by
  unfold goodA rightA
  simp only
  rw [Bool.and_eq_true, beq_iff_eq, top_iff]
  by_cases h1 : k < 1
  · rw [if_pos h1]
    constructor
    · intro h; cases h.1
    · intro h; omega
  · rw [if_neg h1]
    by_cases h2 : 11 < k
    · rw [if_pos h2]
      constructor
      · intro h; cases h.1
      · intro h; omega
    · rw [if_neg h2]
      by_cases ht : textA k = true
      · rw [if_pos ht]
        have h0 : topR k = 0 := by
          rcases (textA_iff k).1 ht with rfl | rfl <;> rfl
        by_cases hn : n = 0
        · rw [if_pos hn]
          exact ⟨fun h => ⟨by omega, h.2, by omega, h.1, .inl ht⟩, fun h => ⟨h.2.2.2.1, h.2.1⟩⟩
        · rw [if_neg hn]
          exact ⟨fun h => (by cases h.1), fun h => (by omega)⟩
      · rw [if_neg ht]
        by_cases hs : s = []
        · rw [if_pos hs]
          by_cases hn : 0 ≤ n
          · rw [if_pos hn]
            exact ⟨fun h => ⟨by omega, h.2, ⟨hn, of_decide_eq_true h.1⟩, by rw [hs]; rfl, .inr hs⟩, fun h => ⟨decide_eq_true h.2.2.1.2, h.2.1⟩⟩
          · rw [if_neg hn]
            exact ⟨fun h => (by cases h.1), fun h => (by omega)⟩
        · rw [if_neg hs]
          exact ⟨fun h => (by cases h.1), fun h => absurd h.2.2.2.2 (fun e => e.elim ht hs)⟩
section
variable {x0 : Value} {b i : Nat} {k n : Int} {s : List UInt8} {Q : Value → Store → Prop}
theorem okact5 {M : Store} (o : Ob M b [iv k, iv n, sv s] Ty.api_Do) (hs : s.length ≤ 2 ^ 40) (hno : goodA (decide (i = 0)) (k, n, s) = false → ∀ M', Up M M' → Q (tv false) M') (hyes : goodA (decide (i = 0)) (k, n, s) = true → ∀ M', Up M M' → P_fettleref4_OkAct_6 x0 (iv (i : Int)) M' Q) :
    P_fettleref4_OkAct_5 x0 (iv (i : Int)) (pt b) (tv (beginsA k)) (tv (textA k)) (iv (topR k)) M Q := by
  have hg := good_iff (decide (i = 0)) k n s
  have no : ∀ M', Up M M' → ¬ ((1 ≤ k ∧ k ≤ 11) ∧ beginsA k = decide (i = 0) ∧ (0 ≤ n ∧ n ≤ topR k) ∧ fitsA s = true ∧ (textA k = true ∨ s = [])) → NTs [(.bool false)] ∧ Q (.bool false) M' := fun M' hu hc => ⟨rfl, hno (by
    cases hgg : goodA (decide (i = 0)) (k, n, s) with
    | false => rfl
    | true => exact absurd (hg.1 hgg) hc) M' hu⟩
  have u0 : Up M M := Ch.refl _ _
  apply T_fettleref4_OkAct_5
  unfold S_fettleref4_OkAct_5
  simp only [fad0, o.l3]
  show OP (binI .lss (.int .i64 k) (.int .i64 1)) _
  rw [e_lss, BR_dec]
  split
  · exact no M u0 (by omega)
  show OP (binI .gtr (.int .i64 k) (.int .i64 11)) _
  rw [e_gtr, BR_dec]
  split
  · exact no M u0 (by omega)
  rw [eql_l 0 0 rfl, bool_ne', BR_bool]
  split
  · rename_i hb
    exact no M u0 (fun h => by rw [h.2.1] at hb; simp at hb)
  rename_i hb
  have hb : beginsA k = decide (i = 0) := by simpa using hb
  show OP (binI .lss (.int .i64 n) (.int .i64 0)) _
  rw [e_lss, BR_dec]
  split
  · exact no M u0 (by omega)
  show OP (binI .gtr (.int .i64 n) (.int .i64 (topR k))) _
  rw [e_gtr, BR_dec]
  split
  · exact no M u0 (by omega)
  refine rplain_ok hs ?_
  simp only [fad0, o.l3]
  rw [e_not, BR_bool]
  split
  · rename_i hf
    exact no M u0 (fun h => by rw [h.2.2.2.1] at hf; simp at hf)
  rename_i hf
  have hf : fitsA s = true := by simpa using hf
  have yes : (textA k = true ∨ s = []) → P_fettleref4_OkAct_6 x0 (iv (i : Int)) M Q := fun h => hyes (hg.2 ⟨by omega, hb, by omega, hf, h⟩) M u0
  rw [e_not]
  cases ht : textA k with
  | true =>
    show BR3 (.bool (decide False)) _ _ _
    rw [BR3_dec, if_neg (fun h => h)]
    exact yes (.inl ht)
  | false =>
    show BR3 (.bool (decide True)) _ _ _
    rw [BR3_dec, if_pos trivial]
    show OP (binS .neq (sv s) (sv [])) _
    rw [sv_ne, BR_dec]
    split
    · rename_i hne
      exact no M u0 (fun h => by rcases h.2.2.2.2 with h | h; rw [ht] at h; cases h; exact hne h)
    · rename_i he
      exact yes (.inr (Decidable.not_not.1 he))
end
end Go.G
