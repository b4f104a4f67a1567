/- Layer 25, plainly: parts of a trace of commits that have a print each. -/
import Derived.Test.YtpacolplhcfamaaPY25
import Derived.Test.YtpacolplhcfamaaPE11b
namespace Go.G
open Go.Ab Go.Proofs Go.RowKit
set_option linter.unusedVariables false
set_option linter.unusedSimpArgs false
set_option maxRecDepth 100000

def letF (i : Nat) : UInt8 := u8N (97 + (i : Int))
def actP (i : Nat) : List Dw := [(1, 0, [letF i])]
/-- The print of a text of one letter. -/
def pT (i : Nat) : List UInt8 := printF (actP i) []
def abcT : List (List UInt8) := [[97], [98], [99]]
def whoF (ns : List Int) (i : Nat) : Nat := andN (ns.getD i 0) 3
def tgF (ns : List Int) (i : Nat) : List UInt8 := abcT.getD (andN (shrN (ns.getD i 0) 2) 255 % 3) []
def cfF (ns : List Int) (i : Nat) : Cm := ((whoF ns i : Int), tgF ns i, makeF (pT i) [letF i], false)
def dfF (ns : List Int) (i : Nat) : Dm := (tgF ns i, (whoF ns i : Int), 0, pT i)
theorem actP_ok : ∀ i, i < 14 → okA (actP i) = true := by
  have : (List.range 14).all (fun i => okA (actP i)) = true := by kernel_rfl
  intro i hi
  exact List.all_eq_true.1 this i (List.mem_range.2 hi)
theorem letF_inj : ∀ i, i < 14 → ∀ j, j < 14 → letF i = letF j → i = j := by
  have : (List.range 14).all (fun i => (List.range 14).all fun j => !decide (letF i = letF j) || decide (i = j)) = true := by kernel_rfl
  intro i hi j hj h
  have h1 := List.all_eq_true.1 (List.all_eq_true.1 this i (List.mem_range.2 hi)) j (List.mem_range.2 hj)
  rw [decide_eq_true h] at h1
  simpa using h1
theorem pT_back (i : Nat) (hi : i < 14) : prntO 4000 256 (pT i) = some (actP i, []) := prntO_back (by decide) (by decide) (actP_ok i hi) (by simp) (by simp)
theorem pT_inj {i j : Nat} (hi : i < 14) (hj : j < 14) (h : pT i = pT j) : i = j := by
  have h1 := pT_back i hi
  rw [h, pT_back j hj] at h1
  injection h1 with h1
  injection h1 with h1 _
  unfold actP at h1
  refine letF_inj i hi j hj ?_
  have := congrArg (fun l : List Dw => l.map (·.2.2)) h1
  simpa using this.symm
theorem pT_val (i : Nat) (hi : i < 14) : valO 4000 256 (pT i) = some [letF i] := by
  unfold valO
  rw [pT_back i hi, Option.bind_some]
  simp only
  unfold runA
  rw [if_pos (actP_ok i hi)]
  rfl
theorem pT_len (i : Nat) (hi : i < 14) : (pT i).length ≤ 1000 := by
  have h1 := actB_ok (actP_ok i hi)
  unfold pT printF
  simp only [List.length_append, be_length, insB, List.flatMap_nil, List.length_nil]; omega
theorem cf_open (ns : List Int) (i : Nat) (hi : i < 14) : openF (cfF ns i).2.2.1 = some (pT i, [letF i]) := openF_make _ _ (by have := pT_len i hi; omega) (by simp)
theorem cf_hon (ns : List Int) (i : Nat) (hi : i < 14) : honF (cfF ns i) = true := by
  unfold honF
  rw [cf_open ns i hi]
  simp only
  rw [pT_val i hi]; simp
theorem tells_cf (ns : List Int) {i j : Nat} (hi : i < 14) (hj : j < 14) : tellsF (dfF ns i) (cfF ns j) = (i == j) := by
  unfold tellsF
  rw [cf_open ns j hj]
  simp only
  by_cases e : i = j
  · subst e; simp [cfF, dfF]
  · have : ¬ pT i = pT j := fun h => e (pT_inj hi hj h)
    have h2 : (dfF ns i).2.2.2 = pT i := rfl
    rw [h2, decide_eq_false this]
    simp [e]
theorem with_sub (ns : List Int) : ∀ (js is : List Nat), (∀ i ∈ is, i < 14) → (∀ j ∈ js, j < 14) → withF (is.map (dfF ns)) (js.map (cfF ns)) = is.isSublist js
  | [], [], _, _ => rfl
  | [], _ :: _, _, _ => rfl
  | j :: js, [], _, _ => rfl
  | j :: js, i :: is, hi, hj => by
    have h1 := tells_cf ns (hi i (by simp)) (hj j (by simp))
    have e : withF ((i :: is).map (dfF ns)) ((j :: js).map (cfF ns)) = if tellsF (dfF ns i) (cfF ns j) = true then withF (is.map (dfF ns)) (js.map (cfF ns)) else withF ((i :: is).map (dfF ns)) (js.map (cfF ns)) := rfl
    rw [e, h1, with_sub ns js is (fun x hx => hi x (by simp [hx])) (fun x hx => hj x (by simp [hx])), with_sub ns js (i :: is) hi (fun x hx => hj x (by simp [hx]))]
    rw [List.isSublist]
termination_by js => js.length
theorem with_more : ∀ (l : List Cm) (d : List Dm) (k : List Cm), withF d l = true → withF d (l ++ k) = true
  | [], [], k, _ => by cases k <;> rfl
  | [], x :: d, k, h => by cases h
  | c :: l, [], k, _ => by rw [List.cons_append]; rfl
  | c :: l, x :: d, k, h => by
    have e : ∀ m : List Cm, withF (x :: d) (c :: m) = if tellsF x c = true then withF d m else withF (x :: d) m := fun _ => rfl
    rw [List.cons_append, e]
    rw [e] at h
    split
    · rename_i ht
      rw [if_pos ht] at h
      exact with_more l d k h
    · rename_i ht
      rw [if_neg ht] at h
      exact with_more l (x :: d) k h
/-- Places of commits, in their order. -/
def inc (n : Nat) (is : List Nat) : Bool := is.isSublist (List.range n)
theorem inc_iff {n : Nat} {is : List Nat} : inc n is = true ↔ is.Sublist (List.range n) := List.isSublist_iff_sublist
theorem inc_pw {n : Nat} {is : List Nat} (h : inc n is = true) : is.Pairwise (· < ·) := (List.pairwise_lt_range (n := n)).sublist (inc_iff.1 h)
theorem inc_sub {n : Nat} {is js : List Nat} (h : inc n is = true) (hs : js.Sublist is) : inc n js = true := inc_iff.2 (hs.trans (inc_iff.1 h))
theorem pw_at {is : List Nat} (h : is.Pairwise (· < ·)) {a b : Nat} (hab : a < b) (hb : b < is.length) : is[a] < is[b] := List.pairwise_iff_getElem.1 h a b (by omega) hb hab
theorem swap_no {n : Nat} {is : List Nat} (h : inc n is = true) {a b : Nat} (ha : a < is.length) (hb : b < is.length) : inc n ((is.set a is[b]).set b is[a]) = decide (a = b) := by
  have hp := inc_pw h
  by_cases e : a = b
  · subst e
    rw [decide_eq_true rfl]
    have : (is.set a is[a]).set a is[a] = is := by simp
    rw [this]; exact h
  · rw [decide_eq_false e]
    cases hi : inc n ((is.set a is[b]).set b is[a]) with
    | false => rfl
    | true =>
      have hq := inc_pw hi
      have hl : ((is.set a is[b]).set b is[a]).length = is.length := by simp
      have e1 : ((is.set a is[b]).set b is[a])[a]'(by omega) = is[b] := by
        rw [List.getElem_set_ne (by omega), List.getElem_set_self]
      have e2 : ((is.set a is[b]).set b is[a])[b]'(by omega) = is[a] := by rw [List.getElem_set_self]
      rcases Nat.lt_or_gt_of_ne e with hab | hab
      · have h1 := pw_at hp hab hb
        have h2 := pw_at hq hab (by omega)
        rw [e1, e2] at h2; omega
      · have h1 := pw_at hp hab ha
        have h2 := pw_at hq hab (by omega)
        rw [e1, e2] at h2; omega
theorem more_no {n : Nat} {is : List Nat} {a : Nat} (ha : a < is.length) : inc n (is ++ [is[a]]) = false := by
  cases hi : inc n (is ++ [is[a]]) with
  | false => rfl
  | true =>
    have hq := inc_pw hi
    have h2 := pw_at hq (a := a) (b := is.length) ha (by simp)
    rw [List.getElem_append_left ha, List.getElem_append_right (Nat.le_refl _)] at h2
    simp at h2
end Go.G
