/- ... -/
import Derived.Test.YtnonfejhkbaikaaPKE
import Derived.Test.YtnonfejhkbaikaaPN0
namespace Go.G
set_option linter.unusedVariables false
set_option linter.unusedSectionVars false
section
variable {α β : Type} [DecidableEq α] [DecidableEq β]
def unlA (acc : List α) : List α → List α
  | [] => acc
  | x :: r => unlA (if x ∈ acc then acc else acc ++ [x]) r
def unl (xs : List α) : List α := unlA [] xs
theorem unlA_mem (acc : List α) : ∀ (xs : List α) (k : α), k ∈ unlA acc xs ↔ k ∈ acc ∨ k ∈ xs
  | [], k => by simp [unlA]
  | x :: r, k => by
    rw [unlA, unlA_mem]
    by_cases h : x ∈ acc
    · simp only [h, if_true, List.mem_cons]
      constructor
      · rintro (h1 | h1) <;> simp [h1]
      · rintro (h1 | rfl | h1) <;> simp [*]
    · simp [h, or_assoc]
theorem unl_mem (xs : List α) (k : α) : k ∈ unl xs ↔ k ∈ xs := by simp [unl, unlA_mem]
theorem unlA_nodup : ∀ (xs acc : List α), acc.Nodup → (unlA acc xs).Nodup
  | [], acc, h => h
  | x :: r, acc, h => by
    rw [unlA]
    refine unlA_nodup r _ ?_
    split
    · exact h
    · rename_i hx
      rw [List.nodup_append]
      exact ⟨h, by simp, by rintro a ha b hb rfl; simp at hb; subst hb; exact hx ha⟩
theorem unl_nodup (xs : List α) : (unl xs).Nodup := unlA_nodup xs [] List.nodup_nil
theorem unlA_length : ∀ (xs acc : List α), (unlA acc xs).length ≤ acc.length + xs.length
  | [], acc => by simp [unlA]
  | x :: r, acc => by
    rw [unlA]
    refine Nat.le_trans (unlA_length r _) ?_
    split <;> simp <;> omega
theorem unl_length (xs : List α) : (unl xs).length ≤ xs.length := by have := unlA_length xs []; simpa [unl] using this
theorem unlA_self : ∀ (xs acc : List α), (acc ++ xs).Nodup → unlA acc xs = acc ++ xs
  | [], acc, _ => by simp [unlA]
  | x :: r, acc, h => by
    have hx : x ∉ acc := by
      rw [List.nodup_append] at h
      intro hx
      exact h.2.2 x hx x (by simp) rfl
    rw [unlA, if_neg hx, unlA_self r _ (by simpa using h)]; simp
theorem unl_self {xs : List α} (h : xs.Nodup) : unl xs = xs := unlA_self xs [] h
def free (l : List α) (A : α → List α) (d : List α) (x : α) : Bool := decide (x ∉ d) && (A x).all fun b => decide (b ∉ l) || decide (b ∈ d)
def nxt (l : List α) (A : α → List α) (d : List α) : Option α := l.find? (free l A d)
def ordF (l : List α) (A : α → List α) : Nat → List α → Option (List α)
  | 0, d => some d
  | k + 1, d => match nxt l A d with
    | none => none
    | some x => ordF l A k (d ++ [x])
def atF (l : List α) (k : α) : Option Go.Value := if k ∈ l then some (.int .i64 (l.idxOf k : Nat)) else none
theorem atF_nil : atF ([] : List α) = fun _ => none := by funext k; simp [atF]
theorem atF_snoc {l : List α} {x : α} (h : x ∉ l) : atF (l ++ [x]) = fun q => if q = x then some (.int .i64 (l.length : Nat)) else atF l q := by
  funext q
  unfold atF
  rw [List.idxOf_append]
  by_cases hq : q = x
  · subst hq; simp [h]
  · by_cases hm : q ∈ l <;> simp [hq, hm]
def pl (l : List α) (k : α) : Nat := l.idxOf k
theorem atF_in {l : List α} {k : α} (h : k ∈ l) : atF l k = some (.int .i64 (pl l k : Nat)) := by unfold atF pl; rw [if_pos h]
theorem atF_out {l : List α} {k : α} (h : k ∉ l) : atF l k = none := by unfold atF; rw [if_neg h]
def needR (l ys : List α) : List Int := ys.filterMap fun y => if y ∈ l then some ((l.idxOf y : Nat) : Int) else none
theorem needR_length (l ys : List α) : (needR l ys).length ≤ ys.length := List.length_filterMap_le _ _
theorem needR_in (l ys : List α) {k : Nat} (hk : k < ys.length) (h : ys[k] ∈ l) : needR l (ys.take (k + 1)) = needR l (ys.take k) ++ [((pl l ys[k] : Nat) : Int)] := by
  unfold needR
  rw [List.take_succ_eq_append_getElem hk, List.filterMap_append, List.filterMap_cons, if_pos h]; rfl
theorem needR_out (l ys : List α) {k : Nat} (hk : k < ys.length) (h : ys[k] ∉ l) : needR l (ys.take (k + 1)) = needR l (ys.take k) := by
  unfold needR
  rw [List.take_succ_eq_append_getElem hk, List.filterMap_append, List.filterMap_cons, if_neg h]; simp
def needsF (l : List α) (A : α → List α) : List (List Int) := l.map fun x => needR l (A x)
def dnF (l d : List α) : List Bool := l.map fun x => decide (x ∈ d)
def okI (nss : List (List Int)) (ds : List Bool) (i : Nat) : Bool := !ds.getD i false && (nss.getD i []).all fun j => ds.getD j.toNat false
def nxtI (nss : List (List Int)) (ds : List Bool) : Option Nat := (List.range nss.length).find? (okI nss ds)
theorem dnF_at {l d : List α} {i : Nat} (h : i < l.length) : (dnF l d).getD i false = decide (l[i] ∈ d) := by
  unfold dnF
  rw [List.getD_eq_getElem?_getD, List.getElem?_map, List.getElem?_eq_getElem h]; rfl
theorem okI_eq (l : List α) (A : α → List α) (d : List α) {i : Nat} (h : i < l.length) : okI (needsF l A) (dnF l d) i = free l A d l[i] := by
  unfold okI free
  have e1 : (needsF l A).getD i [] = (A l[i]).filterMap fun y => if y ∈ l then some ((l.idxOf y : Nat) : Int) else none := by
    unfold needsF needR
    rw [List.getD_eq_getElem?_getD, List.getElem?_map, List.getElem?_eq_getElem h]; rfl
  rw [e1, dnF_at h]
  congr 1
  · simp
  · induction A l[i] with
    | nil => rfl
    | cons y r ih =>
      simp only [List.filterMap_cons, List.all_cons]
      by_cases hy : y ∈ l
      · simp only [hy, if_true, List.all_cons, ih]
        have h2 := List.idxOf_lt_length_of_mem hy
        rw [Int.toNat_natCast, dnF_at h2, List.getElem_idxOf h2]
        simp
      · simp only [hy, if_false, ih, not_false_eq_true, decide_true, Bool.true_or, Bool.true_and]
theorem find_range {γ : Type} (p : γ → Bool) : ∀ (l : List γ) (q : Nat → Bool), (∀ i (h : i < l.length), q i = p l[i]) → match (List.range l.length).find? q with
    | some i => ∃ h : i < l.length, l.find? p = some l[i]
    | none => l.find? p = none := by
  intro l q hq
  cases hf : (List.range l.length).find? q with
  | none =>
    rw [List.find?_eq_none] at hf
    rw [List.find?_eq_none]
    intro x hx
    obtain ⟨i, hi, rfl⟩ := List.getElem_of_mem hx
    rw [← hq i hi]
    exact hf i (by simpa using hi)
  | some i =>
    rw [List.find?_range_eq_some] at hf
    obtain ⟨h1, h2, h3⟩ := hf
    have h2 : i < l.length := by simpa using h2
    refine ⟨h2, ?_⟩
    rw [List.find?_eq_some_iff_getElem]
    refine ⟨by rw [← hq i h2]; exact h1, i, h2, rfl, fun j hj => ?_⟩
    rw [← hq j (by omega)]
    simpa using h3 j hj
theorem nxtI_eq (l : List α) (A : α → List α) (d : List α) : match nxtI (needsF l A) (dnF l d) with
    | some i => ∃ h : i < l.length, nxt l A d = some l[i]
    | none => nxt l A d = none := by
  have e : (needsF l A).length = l.length := by simp [needsF]
  unfold nxtI nxt
  rw [e]
  exact find_range (free l A d) l _ fun i h => okI_eq l A d h
theorem needsF_in {l : List α} {A : α → List α} {ns : List Int} (h : ns ∈ needsF l A) (hA : ∀ x ∈ l, (A x).length ≤ 2 ^ 20) : ns.length ≤ 2 ^ 40 ∧ ∀ j ∈ ns, 0 ≤ j ∧ j < (l.length : Int) := by
  unfold needsF at h
  obtain ⟨x, hx, rfl⟩ := List.mem_map.1 h
  unfold needR
  refine ⟨?_, fun j hj => ?_⟩
  · have h1 := List.length_filterMap_le (fun y => if y ∈ l then some ((l.idxOf y : Nat) : Int) else none) (A x)
    have := hA x hx
    omega
  · obtain ⟨y, hy, hj⟩ := List.mem_filterMap.1 hj
    split at hj
    · rename_i hm
      injection hj with hj
      have := List.idxOf_lt_length_of_mem hm
      omega
    · cases hj
theorem dnF_put {l d : List α} (hn : l.Nodup) {i : Nat} (h : i < l.length) : (dnF l d).set i true = dnF l (d ++ [l[i]]) := by
  apply List.ext_getElem
  · simp [dnF]
  · intro j h1 h2
    have hj : j < l.length := by simpa [dnF] using h2
    rw [List.getElem_set]
    split
    · rename_i e; subst e; simp [dnF]
    · rename_i e
      simp only [dnF, List.getElem_map, List.mem_append, List.mem_singleton]
      have : ¬ l[j] = l[i] := fun he => e ((List.getElem_inj hn).1 he).symm
      simp [this]
end
end Go.G

namespace Go.G
open Go.Ab
set_option linter.unusedVariables false

def rgI (n : Nat) : List Int := (List.range n).map fun k => ((k : Nat) : Int)
theorem rgI_length (n : Nat) : (rgI n).length = n := by simp [rgI]
theorem rgI_at {n i : Nat} (h : i < (rgI n).length) : (rgI n)[i] = (i : Int) := by simp [rgI]
theorem rgI_mem {n : Nat} {z : Int} : z ∈ rgI n ↔ 0 ≤ z ∧ z < n := by
  simp only [rgI, List.mem_map, List.mem_range]
  constructor
  · rintro ⟨k, h, rfl⟩; omega
  · intro h; exact ⟨z.toNat, by omega, by omega⟩
theorem rgI_succ (n : Nat) : rgI (n + 1) = rgI n ++ [(n : Int)] := by simp [rgI, List.range_succ]
theorem rgI_nodup (n : Nat) : (rgI n).Nodup := by
  rw [rgI, List.nodup_iff_pairwise_ne, List.pairwise_map]
  exact List.nodup_range.imp fun h e => h (by omega)
theorem ordF_back (m : Nat) (A : Int → List Int) (hA : ∀ k, k < m → ∀ z ∈ A ((k : Nat) : Int), z < k) : ∀ (d i : Nat), d + i = m → ordF (rgI m) A d (rgI i) = some (rgI m)
  | 0, i, h => by
    have : i = m := by omega
    subst this; rfl
  | d + 1, i, h => by
    have hn : nxt (rgI m) A (rgI i) = some (i : Int) := by
      unfold nxt
      rw [List.find?_eq_some_iff_getElem]
      refine ⟨?_, i, by rw [rgI_length]; omega, rgI_at _, fun j hj => ?_⟩
      · unfold free
        rw [Bool.and_eq_true, List.all_eq_true]
        refine ⟨by simp [rgI_mem], fun z hz => ?_⟩
        have h1 := hA i (by omega) z hz
        rw [Bool.or_eq_true, decide_eq_true_eq, decide_eq_true_eq, rgI_mem, rgI_mem]
        by_cases h0 : 0 ≤ z
        · exact .inr ⟨h0, h1⟩
        · exact .inl fun h => h0 h.1
      · rw [rgI_at]
        have : decide ((j : Int) ∉ rgI i) = false := by rw [decide_eq_false_iff_not, Classical.not_not, rgI_mem]; omega
        unfold free
        rw [this]; rfl
    rw [ordF, hn]
    show ordF (rgI m) A d (rgI i ++ [(i : Int)]) = _
    rw [← rgI_succ]
    exact ordF_back m A hA d (i + 1) (by omega)
theorem and15 : ∀ k : Fin 16, andN ((k.val : Nat) : Int) 15 = k.val := by decide
theorem and15' {k : Nat} (h : k < 16) : andN ((k : Nat) : Int) 15 = k := and15 ⟨k, h⟩
end Go.G
