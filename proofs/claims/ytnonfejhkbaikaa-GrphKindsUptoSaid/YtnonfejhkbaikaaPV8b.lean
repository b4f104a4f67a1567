/- Things in order whose needs lead back alone; numbers in a row. -/
import Derived.Test.YtnonfejhkbaikaaPV8
import Derived.Test.YtnonfejhkbaikaaPN0
namespace Go.G
open Go.Ab
set_option linter.unusedVariables false

def rgI (n : Nat) : List Int := (List.range n).map fun k => ((k : Nat) : Int)
theorem rgI_length (n : Nat) : (rgI n).length = n := by simp [rgI]
theorem rgI_at {n i : Nat} (h : i < (rgI n).length) : (rgI n)[i] = (i : Int) := by simp [rgI]
theorem rgI_mem {n : Nat} {z : Int} : z ∈ rgI n ↔ 0 ≤ z ∧ z < n := by
  simp only [rgI, List.mem_map, List.mem_range]
  constructor
  · rintro ⟨k, h, rfl⟩; omega
  · intro h; exact ⟨z.toNat, by omega, by omega⟩
theorem rgI_succ (n : Nat) : rgI (n + 1) = rgI n ++ [(n : Int)] := by simp [rgI, List.range_succ]
theorem rgI_nodup (n : Nat) : (rgI n).Nodup := by
  rw [rgI, List.nodup_iff_pairwise_ne, List.pairwise_map]
  exact List.nodup_range.imp fun h e => h (by omega)
theorem ordF_back (m : Nat) (A : Int → List Int) (hA : ∀ k, k < m → ∀ z ∈ A ((k : Nat) : Int), z < k) : ∀ (d i : Nat), d + i = m → ordF (rgI m) A d (rgI i) = some (rgI m)
  | 0, i, h => by
    have : i = m := by omega
    subst this; rfl
  | d + 1, i, h => by
    have hn : nxt (rgI m) A (rgI i) = some (i : Int) := by
      unfold nxt
      rw [List.find?_eq_some_iff_getElem]
      refine ⟨?_, i, by rw [rgI_length]; omega, rgI_at _, fun j hj => ?_⟩
      · unfold free
        rw [Bool.and_eq_true, List.all_eq_true]
        refine ⟨by simp [rgI_mem], fun z hz => ?_⟩
        have h1 := hA i (by omega) z hz
        rw [Bool.or_eq_true, decide_eq_true_eq, decide_eq_true_eq, rgI_mem, rgI_mem]
        by_cases h0 : 0 ≤ z
        · exact .inr ⟨h0, h1⟩
        · exact .inl fun h => h0 h.1
      · rw [rgI_at]
        have : decide ((j : Int) ∉ rgI i) = false := by rw [decide_eq_false_iff_not, Classical.not_not, rgI_mem]; omega
        unfold free
        rw [this]; rfl
    rw [ordF, hn]
    show ordF (rgI m) A d (rgI i ++ [(i : Int)]) = _
    rw [← rgI_succ]
    exact ordF_back m A hA d (i + 1) (by omega)
theorem and15 : ∀ k : Fin 16, andN ((k.val : Nat) : Int) 15 = k.val := by decide
theorem and15' {k : Nat} (h : k < 16) : andN ((k : Nat) : Int) 15 = k := and15 ⟨k, h⟩
end Go.G
