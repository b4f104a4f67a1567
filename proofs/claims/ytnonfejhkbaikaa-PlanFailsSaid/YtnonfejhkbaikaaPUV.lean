/- Things in order, as plain law: each once; what comes next; what is reached. -/
import Derived.Test.YtnonfejhkbaikaaPKE
namespace Go.G
set_option linter.unusedVariables false
set_option linter.unusedSectionVars false
section
variable {α β : Type} [DecidableEq α] [DecidableEq β]
def co (acc : List α) : List α → List α
 | [] => acc
 | x :: r => co (if x ∈ acc then acc else acc ++ [x]) r
def unl (xs : List α) : List α := co [] xs
theorem uU (acc : List α) : ∀ (xs : List α) (k : α), k ∈ co acc xs ↔ k ∈ acc ∨ k ∈ xs
 | [], k => by simp [co]
 | x :: r, k => by
  rw [co, uU]
  by_cases h : x ∈ acc
  ·simp only [h, if_true, List.mem_cons]
   constructor
   ·rintro (h1 | h1) <;> simp [h1]
   ·rintro (h1 | rfl | h1) <;> simp [*]
  ·simp [h, or_assoc]
theorem xH (xs : List α) (k : α) : k ∈ unl xs ↔ k ∈ xs := by simp [unl, uU]
theorem pW : ∀ (xs acc : List α), acc.Nodup → (co acc xs).Nodup
 | [], acc, h => h
 | x :: r, acc, h => by
  rw [co]
  refine pW r _ ?_
  split
  ·exact h
  ·rename_i hx
   rw [List.nodup_append]
   exact ⟨h, by simp, by rintro a ha b hb rfl; simp at hb; subst hb; exact hx ha⟩
theorem yy (xs : List α) : (unl xs).Nodup := pW xs [] List.nodup_nil
theorem uo : ∀ (xs acc : List α), (co acc xs).length ≤ acc.length + xs.length
 | [], acc => by simp [co]
 | x :: r, acc => by
  rw [co]
  refine Nat.le_trans (uo r _) ?_
  split <;> simp <;> omega
theorem wP (xs : List α) : (unl xs).length ≤ xs.length := by have := uo xs []; simpa [unl] using this
theorem yx : ∀ (xs acc : List α), (acc ++ xs).Nodup → co acc xs = acc ++ xs
 | [], acc, _ => by simp [co]
 | x :: r, acc, h => by
  have hx : x ∉ acc := by
   rw [List.nodup_append] at h
   intro hx
   exact h.2.2 x hx x (by simp) rfl
  rw [co, if_neg hx, yx r _ (by simpa using h)]; simp
theorem GQ {xs : List α} (h : xs.Nodup) : unl xs = xs := yx xs [] h
def uH (l : List α) (A : α → List α) (d : List α) (x : α) : Bool := decide (x ∉ d) && (A x).all fun b => decide (b ∉ l) || decide (b ∈ d)
def nxt (l : List α) (A : α → List α) (d : List α) : Option α := l.find? (uH l A d)
def mt (l : List α) (A : α → List α) : Nat → List α → Option (List α)
 | 0, d => some d
 | k + 1, d => match nxt l A d with
  | none => none
  | some x => mt l A k (d ++ [x])
def atF (l : List α) (k : α) : Option Go.Value := if k ∈ l then some (.int .i64 (l.idxOf k : Nat)) else none
theorem Hl : atF ([] : List α) = fun _ => none := by funext k; simp [atF]
theorem F4 {l : List α} {x : α} (h : x ∉ l) : atF (l ++ [x]) = fun q => if q = x then some (.int .i64 (l.length : Nat)) else atF l q := by
 funext q
 unfold atF
 rw [List.idxOf_append]
 by_cases hq : q = x
 ·subst hq; simp [h]
 ·by_cases hm : q ∈ l <;> simp [hq, hm]
def pl (l : List α) (k : α) : Nat := l.idxOf k
theorem Iy {l : List α} {k : α} (h : k ∈ l) : atF l k = some (.int .i64 (pl l k : Nat)) := by unfold atF pl; rw [if_pos h]
theorem Hm {l : List α} {k : α} (h : k ∉ l) : atF l k = none := by unfold atF; rw [if_neg h]
def fj (l ys : List α) : List Int := ys.filterMap fun y => if y ∈ l then some ((l.idxOf y : Nat) : Int) else none
theorem AN (l ys : List α) : (fj l ys).length ≤ ys.length := List.length_filterMap_le _ _
theorem Gl (l ys : List α) {k : Nat} (hk : k < ys.length) (h : ys[k] ∈ l) : fj l (ys.take (k + 1)) = fj l (ys.take k) ++ [((pl l ys[k] : Nat) : Int)] := by
 unfold fj
 rw [List.take_succ_eq_append_getElem hk, List.filterMap_append, List.filterMap_cons, if_pos h]; rfl
theorem Fc (l ys : List α) {k : Nat} (hk : k < ys.length) (h : ys[k] ∉ l) : fj l (ys.take (k + 1)) = fj l (ys.take k) := by
 unfold fj
 rw [List.take_succ_eq_append_getElem hk, List.filterMap_append, List.filterMap_cons, if_neg h]; simp
def cD (l : List α) (A : α → List α) : List (List Int) := l.map fun x => fj l (A x)
def dnF (l d : List α) : List Bool := l.map fun x => decide (x ∈ d)
def okI (nss : List (List Int)) (ds : List Bool) (i : Nat) : Bool := !ds.getD i false && (nss.getD i []).all fun j => ds.getD j.toNat false
def pL (nss : List (List Int)) (ds : List Bool) : Option Nat := (List.range nss.length).find? (okI nss ds)
theorem E2 {l d : List α} {i : Nat} (h : i < l.length) : (dnF l d).getD i false = decide (l[i] ∈ d) := by
 unfold dnF
 rw [List.getD_eq_getElem?_getD, List.getElem?_map, List.getElem?_eq_getElem h]; rfl
theorem IV (l : List α) (A : α → List α) (d : List α) {i : Nat} (h : i < l.length) : okI (cD l A) (dnF l d) i = uH l A d l[i] := by
 unfold okI uH
 have e1 : (cD l A).getD i [] = (A l[i]).filterMap fun y => if y ∈ l then some ((l.idxOf y : Nat) : Int) else none := by
  unfold cD fj
  rw [List.getD_eq_getElem?_getD, List.getElem?_map, List.getElem?_eq_getElem h]; rfl
 rw [e1, E2 h]
 congr 1
 ·simp
 ·induction A l[i] with
  | nil => rfl
  | cons y r ih =>
   simp only [List.filterMap_cons, List.all_cons]
   by_cases hy : y ∈ l
   ·simp only [hy, if_true, List.all_cons, ih]
    have h2 := List.idxOf_lt_length_of_mem hy
    rw [Int.toNat_natCast, E2 h2, List.getElem_idxOf h2]
    simp
   ·simp only [hy, if_false, ih, not_false_eq_true, decide_true, Bool.true_or, Bool.true_and]
theorem DA {γ : Type} (p : γ → Bool) : ∀ (l : List γ) (q : Nat → Bool), (∀ i (h : i < l.length), q i = p l[i]) → match (List.range l.length).find? q with
    | some i => ∃ h : i < l.length, l.find? p = some l[i]
    | none => l.find? p = none := by
 intro l q hq
 cases hf : (List.range l.length).find? q with
 | none =>
  rw [List.find?_eq_none] at hf
  rw [List.find?_eq_none]
  intro x hx
  obtain ⟨i, hi, rfl⟩ := List.getElem_of_mem hx
  rw [← hq i hi]
  exact hf i (by simpa using hi)
 | some i =>
  rw [List.find?_range_eq_some] at hf
  obtain ⟨h1, h2, h3⟩ := hf
  have h2 : i < l.length := by simpa using h2
  refine ⟨h2, ?_⟩
  rw [List.find?_eq_some_iff_getElem]
  refine ⟨by rw [← hq i h2]; exact h1, i, h2, rfl, fun j hj => ?_⟩
  rw [← hq j (by omega)]
  simpa using h3 j hj
theorem HK (l : List α) (A : α → List α) (d : List α) : match pL (cD l A) (dnF l d) with
    | some i => ∃ h : i < l.length, nxt l A d = some l[i]
    | none => nxt l A d = none := by
 have e : (cD l A).length = l.length := by simp [cD]
 unfold pL nxt
 rw [e]
 exact DA (uH l A d) l _ fun i h => IV l A d h
theorem Fe {l : List α} {A : α → List α} {ns : List Int} (h : ns ∈ cD l A) (hA : ∀ x ∈ l, (A x).length ≤ 2 ^ 20) : ns.length ≤ 2 ^ 40 ∧ ∀ j ∈ ns, 0 ≤ j ∧ j < (l.length : Int) := by
 unfold cD at h
 obtain ⟨x, hx, rfl⟩ := List.mem_map.1 h
 unfold fj
 refine ⟨?_, fun j hj => ?_⟩
 ·have h1 := List.length_filterMap_le (fun y => if y ∈ l then some ((l.idxOf y : Nat) : Int) else none) (A x)
  have := hA x hx
  omega
 ·obtain ⟨y, hy, hj⟩ := List.mem_filterMap.1 hj
  split at hj
  ·rename_i hm
   injection hj with hj
   have := List.idxOf_lt_length_of_mem hm
   omega
  ·cases hj
theorem Hu {l d : List α} (hn : l.Nodup) {i : Nat} (h : i < l.length) : (dnF l d).set i true = dnF l (d ++ [l[i]]) := by
 apply List.ext_getElem
 ·simp [dnF]
 ·intro j h1 h2
  have hj : j < l.length := by simpa [dnF] using h2
  rw [List.getElem_set]
  split
  ·rename_i e; subst e; simp [dnF]
  ·rename_i e
   simp only [dnF, List.getElem_map, List.mem_append, List.mem_singleton]
   have : ¬ l[j] = l[i] := fun he => e ((List.getElem_inj hn).1 he).symm
   simp [this]
end
end Go.G
