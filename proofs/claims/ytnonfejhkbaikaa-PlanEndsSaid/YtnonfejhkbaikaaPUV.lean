/- Things in order, as plain law: each once; what comes next; what is reached. -/
import Derived.Test.YtnonfejhkbaikaaPKE
namespace Go.G
set_option linter.unusedVariables false
set_option linter.unusedSectionVars false
section
variable {α β : Type} [DecidableEq α] [DecidableEq β]
def cg (acc : List α) : List α → List α
 | [] => acc
 | x :: r => cg (if x ∈ acc then acc else acc ++ [x]) r
def unl (xs : List α) : List α := cg [] xs
theorem vy (acc : List α) : ∀ (xs : List α) (k : α), k ∈ cg acc xs ↔ k ∈ acc ∨ k ∈ xs
 | [], k => by simp [cg]
 | x :: r, k => by
  rw [cg, vy]
  by_cases h : x ∈ acc
  ·simp only [h, if_true, List.mem_cons]
   constructor
   ·rintro (h1 | h1) <;> simp [h1]
   ·rintro (h1 | rfl | h1) <;> simp [*]
  ·simp [h, or_assoc]
theorem ye (xs : List α) (k : α) : k ∈ unl xs ↔ k ∈ xs := by simp [unl, vy]
theorem qj : ∀ (xs acc : List α), acc.Nodup → (cg acc xs).Nodup
 | [], acc, h => h
 | x :: r, acc, h => by
  rw [cg]
  refine qj r _ ?_
  split
  ·exact h
  ·rename_i hx
   rw [List.nodup_append]
   exact ⟨h, by simp, by rintro a ha b hb rfl; simp at hb; subst hb; exact hx ha⟩
theorem yU (xs : List α) : (unl xs).Nodup := qj xs [] List.nodup_nil
theorem uN : ∀ (xs acc : List α), (cg acc xs).length ≤ acc.length + xs.length
 | [], acc => by simp [cg]
 | x :: r, acc => by
  rw [cg]
  refine Nat.le_trans (uN r _) ?_
  split <;> simp <;> omega
theorem xm (xs : List α) : (unl xs).length ≤ xs.length := by have := uN xs []; simpa [unl] using this
theorem yT : ∀ (xs acc : List α), (acc ++ xs).Nodup → cg acc xs = acc ++ xs
 | [], acc, _ => by simp [cg]
 | x :: r, acc, h => by
  have hx : x ∉ acc := by
   rw [List.nodup_append] at h
   intro hx
   exact h.2.2 x hx x (by simp) rfl
  rw [cg, if_neg hx, yT r _ (by simpa using h)]; simp
theorem Hh {xs : List α} (h : xs.Nodup) : unl xs = xs := yT xs [] h
def vj (l : List α) (A : α → List α) (d : List α) (x : α) : Bool := decide (x ∉ d) && (A x).all fun b => decide (b ∉ l) || decide (b ∈ d)
def nxt (l : List α) (A : α → List α) (d : List α) : Option α := l.find? (vj l A d)
def ml (l : List α) (A : α → List α) : Nat → List α → Option (List α)
 | 0, d => some d
 | k + 1, d => match nxt l A d with
  | none => none
  | some x => ml l A k (d ++ [x])
def atF (l : List α) (k : α) : Option Go.Value := if k ∈ l then some (.int .i64 (l.idxOf k : Nat)) else none
theorem HM : atF ([] : List α) = fun _ => none := by funext k; simp [atF]
theorem Gw {l : List α} {x : α} (h : x ∉ l) : atF (l ++ [x]) = fun q => if q = x then some (.int .i64 (l.length : Nat)) else atF l q := by
 funext q
 unfold atF
 rw [List.idxOf_append]
 by_cases hq : q = x
 ·subst hq; simp [h]
 ·by_cases hm : q ∈ l <;> simp [hq, hm]
def pl (l : List α) (k : α) : Nat := l.idxOf k
theorem IZ {l : List α} {k : α} (h : k ∈ l) : atF l k = some (.int .i64 (pl l k : Nat)) := by unfold atF pl; rw [if_pos h]
theorem HN {l : List α} {k : α} (h : k ∉ l) : atF l k = none := by unfold atF; rw [if_neg h]
def ff (l ys : List α) : List Int := ys.filterMap fun y => if y ∈ l then some ((l.idxOf y : Nat) : Int) else none
theorem Bd (l ys : List α) : (ff l ys).length ≤ ys.length := List.length_filterMap_le _ _
theorem GN (l ys : List α) {k : Nat} (hk : k < ys.length) (h : ys[k] ∈ l) : ff l (ys.take (k + 1)) = ff l (ys.take k) ++ [((pl l ys[k] : Nat) : Int)] := by
 unfold ff
 rw [List.take_succ_eq_append_getElem hk, List.filterMap_append, List.filterMap_cons, if_pos h]; rfl
theorem FI (l ys : List α) {k : Nat} (hk : k < ys.length) (h : ys[k] ∉ l) : ff l (ys.take (k + 1)) = ff l (ys.take k) := by
 unfold ff
 rw [List.take_succ_eq_append_getElem hk, List.filterMap_append, List.filterMap_cons, if_neg h]; simp
def cz (l : List α) (A : α → List α) : List (List Int) := l.map fun x => ff l (A x)
def dnF (l d : List α) : List Bool := l.map fun x => decide (x ∈ d)
def okI (nss : List (List Int)) (ds : List Bool) (i : Nat) : Bool := !ds.getD i false && (nss.getD i []).all fun j => ds.getD j.toNat false
def p7 (nss : List (List Int)) (ds : List Bool) : Option Nat := (List.range nss.length).find? (okI nss ds)
theorem Fx {l d : List α} {i : Nat} (h : i < l.length) : (dnF l d).getD i false = decide (l[i] ∈ d) := by
 unfold dnF
 rw [List.getD_eq_getElem?_getD, List.getElem?_map, List.getElem?_eq_getElem h]; rfl
theorem Jk (l : List α) (A : α → List α) (d : List α) {i : Nat} (h : i < l.length) : okI (cz l A) (dnF l d) i = vj l A d l[i] := by
 unfold okI vj
 have e1 : (cz l A).getD i [] = (A l[i]).filterMap fun y => if y ∈ l then some ((l.idxOf y : Nat) : Int) else none := by
  unfold cz ff
  rw [List.getD_eq_getElem?_getD, List.getElem?_map, List.getElem?_eq_getElem h]; rfl
 rw [e1, Fx h]
 congr 1
 ·simp
 ·induction A l[i] with
  | nil => rfl
  | cons y r ih =>
   simp only [List.filterMap_cons, List.all_cons]
   by_cases hy : y ∈ l
   ·simp only [hy, if_true, List.all_cons, ih]
    have h2 := List.idxOf_lt_length_of_mem hy
    rw [Int.toNat_natCast, Fx h2, List.getElem_idxOf h2]
    simp
   ·simp only [hy, if_false, ih, not_false_eq_true, decide_true, Bool.true_or, Bool.true_and]
theorem D3 {γ : Type} (p : γ → Bool) : ∀ (l : List γ) (q : Nat → Bool), (∀ i (h : i < l.length), q i = p l[i]) → match (List.range l.length).find? q with
    | some i => ∃ h : i < l.length, l.find? p = some l[i]
    | none => l.find? p = none := by
 intro l q hq
 cases hf : (List.range l.length).find? q with
 | none =>
  rw [List.find?_eq_none] at hf
  rw [List.find?_eq_none]
  intro x hx
  obtain ⟨i, hi, rfl⟩ := List.getElem_of_mem hx
  rw [← hq i hi]
  exact hf i (by simpa using hi)
 | some i =>
  rw [List.find?_range_eq_some] at hf
  obtain ⟨h1, h2, h3⟩ := hf
  have h2 : i < l.length := by simpa using h2
  refine ⟨h2, ?_⟩
  rw [List.find?_eq_some_iff_getElem]
  refine ⟨by rw [← hq i h2]; exact h1, i, h2, rfl, fun j hj => ?_⟩
  rw [← hq j (by omega)]
  simpa using h3 j hj
theorem H9 (l : List α) (A : α → List α) (d : List α) : match p7 (cz l A) (dnF l d) with
    | some i => ∃ h : i < l.length, nxt l A d = some l[i]
    | none => nxt l A d = none := by
 have e : (cz l A).length = l.length := by simp [cz]
 unfold p7 nxt
 rw [e]
 exact D3 (vj l A d) l _ fun i h => Jk l A d h
theorem FK {l : List α} {A : α → List α} {ns : List Int} (h : ns ∈ cz l A) (hA : ∀ x ∈ l, (A x).length ≤ 2 ^ 20) : ns.length ≤ 2 ^ 40 ∧ ∀ j ∈ ns, 0 ≤ j ∧ j < (l.length : Int) := by
 unfold cz at h
 obtain ⟨x, hx, rfl⟩ := List.mem_map.1 h
 unfold ff
 refine ⟨?_, fun j hj => ?_⟩
 ·have h1 := List.length_filterMap_le (fun y => if y ∈ l then some ((l.idxOf y : Nat) : Int) else none) (A x)
  have := hA x hx
  omega
 ·obtain ⟨y, hy, hj⟩ := List.mem_filterMap.1 hj
  split at hj
  ·rename_i hm
   injection hj with hj
   have := List.idxOf_lt_length_of_mem hm
   omega
  ·cases hj
theorem HV {l d : List α} (hn : l.Nodup) {i : Nat} (h : i < l.length) : (dnF l d).set i true = dnF l (d ++ [l[i]]) := by
 apply List.ext_getElem
 ·simp [dnF]
 ·intro j h1 h2
  have hj : j < l.length := by simpa [dnF] using h2
  rw [List.getElem_set]
  split
  ·rename_i e; subst e; simp [dnF]
  ·rename_i e
   simp only [dnF, List.getElem_map, List.mem_append, List.mem_singleton]
   have : ¬ l[j] = l[i] := fun he => e ((List.getElem_inj hn).1 he).symm
   simp [this]
end
end Go.G
