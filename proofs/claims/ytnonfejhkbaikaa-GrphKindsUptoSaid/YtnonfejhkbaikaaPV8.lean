/- Things in order, as plain law: each once; what comes next; what is reached. -/
import Derived.Test.YtnonfejhkbaikaaPKE
namespace Go.G
set_option linter.unusedVariables false
set_option linter.unusedSectionVars false

section
variable {α β : Type} [DecidableEq α] [DecidableEq β]
/-- Each once, by its first place. -/
def unlA (acc : List α) : List α → List α
  | [] => acc
  | x :: r => unlA (if x ∈ acc then acc else acc ++ [x]) r
def unl (xs : List α) : List α := unlA [] xs
theorem unlA_mem (acc : List α) : ∀ (xs : List α) (k : α), k ∈ unlA acc xs ↔ k ∈ acc ∨ k ∈ xs
  | [], k => by simp [unlA]
  | x :: r, k => by
    rw [unlA, unlA_mem]
    by_cases h : x ∈ acc
    · simp only [h, if_true, List.mem_cons]
      constructor
      · rintro (h1 | h1) <;> simp [h1]
      · rintro (h1 | rfl | h1) <;> simp [*]
    · simp [h, or_assoc]
theorem unl_mem (xs : List α) (k : α) : k ∈ unl xs ↔ k ∈ xs := by simp [unl, unlA_mem]
theorem unlA_nodup : ∀ (xs acc : List α), acc.Nodup → (unlA acc xs).Nodup
  | [], acc, h => h
  | x :: r, acc, h => by
    rw [unlA]
    refine unlA_nodup r _ ?_
    split
    · exact h
    · rename_i hx
      rw [List.nodup_append]
      exact ⟨h, by simp, by rintro a ha b hb rfl; simp at hb; subst hb; exact hx ha⟩
theorem unl_nodup (xs : List α) : (unl xs).Nodup := unlA_nodup xs [] List.nodup_nil
theorem unlA_length : ∀ (xs acc : List α), (unlA acc xs).length ≤ acc.length + xs.length
  | [], acc => by simp [unlA]
  | x :: r, acc => by
    rw [unlA]
    refine Nat.le_trans (unlA_length r _) ?_
    split <;> simp <;> omega
theorem unl_length (xs : List α) : (unl xs).length ≤ xs.length := by have := unlA_length xs []; simpa [unl] using this
theorem unlA_map (f : α → β) (hf : ∀ x y, f x = f y → x = y) : ∀ (xs acc : List α), unlA (acc.map f) (xs.map f) = (unlA acc xs).map f
  | [], acc => rfl
  | x :: r, acc => by
    simp only [List.map_cons, unlA]
    have : f x ∈ acc.map f ↔ x ∈ acc := by
      rw [List.mem_map]
      exact ⟨fun ⟨y, h1, h2⟩ => hf _ _ h2 ▸ h1, fun h => ⟨x, h, rfl⟩⟩
    by_cases h : x ∈ acc
    · rw [if_pos (this.2 h), if_pos h, unlA_map f hf r]
    · rw [if_neg (fun h1 => h (this.1 h1)), if_neg h, ← unlA_map f hf r]; simp
theorem unl_map (f : α → β) (hf : ∀ x y, f x = f y → x = y) (xs : List α) : unl (xs.map f) = (unl xs).map f := unlA_map f hf xs []
theorem unlA_self : ∀ (xs acc : List α), (acc ++ xs).Nodup → unlA acc xs = acc ++ xs
  | [], acc, _ => by simp [unlA]
  | x :: r, acc, h => by
    have hx : x ∉ acc := by
      rw [List.nodup_append] at h
      intro hx
      exact h.2.2 x hx x (by simp) rfl
    rw [unlA, if_neg hx, unlA_self r _ (by simpa using h)]; simp
theorem unl_self {xs : List α} (h : xs.Nodup) : unl xs = xs := unlA_self xs [] h

/-- Whether one may come next. -/
def free (l : List α) (A : α → List α) (d : List α) (x : α) : Bool := decide (x ∉ d) && (A x).all fun b => decide (b ∉ l) || decide (b ∈ d)
def nxt (l : List α) (A : α → List α) (d : List α) : Option α := l.find? (free l A d)
/-- So many more behind what is done. -/
def ordF (l : List α) (A : α → List α) : Nat → List α → Option (List α)
  | 0, d => some d
  | k + 1, d => match nxt l A d with
    | none => none
    | some x => ordF l A k (d ++ [x])
theorem free_map (f : α → β) (hf : ∀ x y, f x = f y → x = y) (l : List α) (A : α → List α) (B : β → List β) (d : List α) (x : α) (hB : B (f x) = (A x).map f) : free (l.map f) B (d.map f) (f x) = free l A d x := by
  have hm : ∀ (l : List α) x, f x ∈ l.map f ↔ x ∈ l := fun l x => by
    rw [List.mem_map]
    exact ⟨fun ⟨y, h1, h2⟩ => hf _ _ h2 ▸ h1, fun h => ⟨x, h, rfl⟩⟩
  unfold free
  rw [hB, List.all_map]
  simp only [hm, Function.comp_def]
theorem nxt_map (f : α → β) (hf : ∀ x y, f x = f y → x = y) (l : List α) (A : α → List α) (B : β → List β) (d : List α) (hB : ∀ x ∈ l, B (f x) = (A x).map f) : nxt (l.map f) B (d.map f) = (nxt l A d).map f := by
  unfold nxt
  have : ∀ q : List α, (∀ x ∈ q, x ∈ l) → (q.map f).find? (free (l.map f) B (d.map f)) = (q.find? (free l A d)).map f := by
    intro q
    induction q with
    | nil => intro _; rfl
    | cons x r ih =>
      intro h
      simp only [List.map_cons, List.find?_cons, free_map f hf l A B d x (hB x (h x (by simp)))]
      cases free l A d x with
      | true => rfl
      | false => exact ih fun y hy => h y (by simp [hy])
  exact this l fun _ h => h
theorem ordF_map (f : α → β) (hf : ∀ x y, f x = f y → x = y) (l : List α) (A : α → List α) (B : β → List β) (hB : ∀ x ∈ l, B (f x) = (A x).map f) : ∀ (k : Nat) (d : List α), ordF (l.map f) B k (d.map f) = (ordF l A k d).map (List.map f)
  | 0, d => rfl
  | k + 1, d => by
    simp only [ordF, nxt_map f hf l A B d hB]
    cases nxt l A d with
    | none => rfl
    | some x =>
      simp only [Option.map_some]
      rw [← ordF_map f hf l A B hB k (d ++ [x])]; simp
/-- The same where only some are told apart. -/
theorem mem_mapOn (f : α → β) (P : α → Prop) (hf : ∀ x y, P x → P y → f x = f y → x = y) {l : List α} (hl : ∀ x ∈ l, P x) {x : α} (hx : P x) : f x ∈ l.map f ↔ x ∈ l := by
  rw [List.mem_map]
  exact ⟨fun ⟨y, h1, h2⟩ => hf _ _ (hl y h1) hx h2 ▸ h1, fun h => ⟨x, h, rfl⟩⟩
theorem unlA_mapOn (f : α → β) (P : α → Prop) (hf : ∀ x y, P x → P y → f x = f y → x = y) : ∀ (xs acc : List α), (∀ x ∈ xs, P x) → (∀ x ∈ acc, P x) → unlA (acc.map f) (xs.map f) = (unlA acc xs).map f
  | [], acc, _, _ => rfl
  | x :: r, acc, h, k => by
    simp only [List.map_cons, unlA]
    have hx := h x (by simp)
    have := mem_mapOn f P hf k hx
    by_cases hm : x ∈ acc
    · rw [if_pos (this.2 hm), if_pos hm, unlA_mapOn f P hf r acc (fun y hy => h y (by simp [hy])) k]
    · rw [if_neg (fun h1 => hm (this.1 h1)), if_neg hm, ← unlA_mapOn f P hf r _ (fun y hy => h y (by simp [hy])) (fun y hy => ?_)]
      · simp
      · rcases List.mem_append.1 hy with hy | hy
        · exact k y hy
        · simp at hy; subst hy; exact hx
theorem unl_mapOn (f : α → β) (xs : List α) (hf : ∀ x ∈ xs, ∀ y ∈ xs, f x = f y → x = y) : unl (xs.map f) = (unl xs).map f :=
  unlA_mapOn f (· ∈ xs) (fun x y hx hy h => hf x hx y hy h) xs [] (fun _ h => h) (fun _ h => by cases h)
theorem nxt_mapOn (f : α → β) (P : α → Prop) (hf : ∀ x y, P x → P y → f x = f y → x = y) (l : List α) (A : α → List α) (B : β → List β) (d : List α) (hl : ∀ x ∈ l, P x) (hd : ∀ x ∈ d, P x) (hB : ∀ x, P x → B (f x) = (A x).map f) (hA : ∀ x, P x → ∀ y ∈ A x, P y) :
    nxt (l.map f) B (d.map f) = (nxt l A d).map f := by
  have hfree : ∀ x, P x → free (l.map f) B (d.map f) (f x) = free l A d x := by
    intro x hx
    unfold free
    rw [hB x hx, List.all_map]
    congr 1
    · simp only [mem_mapOn f P hf hd hx]
    · have key : ∀ q : List α, (∀ y ∈ q, P y) → q.all ((fun b => decide (b ∉ l.map f) || decide (b ∈ d.map f)) ∘ f) = q.all fun b => decide (b ∉ l) || decide (b ∈ d) := by
        intro q
        induction q with
        | nil => intro _; rfl
        | cons y r ih =>
          intro hq
          have hy := hq y (by simp)
          simp only [List.all_cons, Function.comp_apply, mem_mapOn f P hf hd hy, mem_mapOn f P hf hl hy, ih fun z hz => hq z (by simp [hz])]
      exact key (A x) (hA x hx)
  unfold nxt
  have : ∀ q : List α, (∀ x ∈ q, P x) → (q.map f).find? (free (l.map f) B (d.map f)) = (q.find? (free l A d)).map f := by
    intro q
    induction q with
    | nil => intro _; rfl
    | cons x r ih =>
      intro h
      simp only [List.map_cons, List.find?_cons, hfree x (h x (by simp))]
      cases free l A d x with
      | true => rfl
      | false => exact ih fun y hy => h y (by simp [hy])
  exact this l hl
theorem ordF_mapOn (f : α → β) (l : List α) (A : α → List α) (B : β → List β) (P : α → Prop) (hf : ∀ x y, P x → P y → f x = f y → x = y) (hl : ∀ x ∈ l, P x) (hB : ∀ x, P x → B (f x) = (A x).map f) (hA : ∀ x, P x → ∀ y ∈ A x, P y) :
    ∀ (k : Nat) (d : List α), (∀ x ∈ d, P x) → ordF (l.map f) B k (d.map f) = (ordF l A k d).map (List.map f)
  | 0, d, _ => rfl
  | k + 1, d, hd => by
    simp only [ordF, nxt_mapOn f P hf l A B d hl hd hB hA]
    cases hn : nxt l A d with
    | none => rfl
    | some x =>
      simp only [Option.map_some]
      have hx := hl x (List.mem_of_find?_eq_some hn)
      rw [← ordF_mapOn f l A B P hf hl hB hA k (d ++ [x]) (fun y hy => ?_)]
      · simp
      · rcases List.mem_append.1 hy with hy | hy
        · exact hd y hy
        · simp at hy; subst hy; exact hx
theorem nxt_some {l : List α} {A : α → List α} {d : List α} {x : α} (h : nxt l A d = some x) : x ∈ l ∧ x ∉ d := by
  have h1 := List.mem_of_find?_eq_some h
  have h2 := List.find?_some h
  simp only [free, Bool.and_eq_true, decide_eq_true_eq] at h2
  exact ⟨h1, h2.1⟩

/-- The place of a thing, as a map finds it. -/
def atF (l : List α) (k : α) : Option Go.Value := if k ∈ l then some (.int .i64 (l.idxOf k : Nat)) else none
theorem atF_nil : atF ([] : List α) = fun _ => none := by funext k; simp [atF]
theorem atF_snoc {l : List α} {x : α} (h : x ∉ l) : atF (l ++ [x]) = fun q => if q = x then some (.int .i64 (l.length : Nat)) else atF l q := by
  funext q
  unfold atF
  rw [List.idxOf_append]
  by_cases hq : q = x
  · subst hq; simp [h]
  · by_cases hm : q ∈ l <;> simp [hq, hm]
/-- By places. -/
def pl (l : List α) (k : α) : Nat := l.idxOf k
theorem atF_in {l : List α} {k : α} (h : k ∈ l) : atF l k = some (.int .i64 (pl l k : Nat)) := by unfold atF pl; rw [if_pos h]
theorem atF_out {l : List α} {k : α} (h : k ∉ l) : atF l k = none := by unfold atF; rw [if_neg h]
def needR (l ys : List α) : List Int := ys.filterMap fun y => if y ∈ l then some ((l.idxOf y : Nat) : Int) else none
theorem needR_length (l ys : List α) : (needR l ys).length ≤ ys.length := List.length_filterMap_le _ _
theorem needR_in (l ys : List α) {k : Nat} (hk : k < ys.length) (h : ys[k] ∈ l) : needR l (ys.take (k + 1)) = needR l (ys.take k) ++ [((pl l ys[k] : Nat) : Int)] := by
  unfold needR
  rw [List.take_succ_eq_append_getElem hk, List.filterMap_append, List.filterMap_cons, if_pos h]; rfl
theorem needR_out (l ys : List α) {k : Nat} (hk : k < ys.length) (h : ys[k] ∉ l) : needR l (ys.take (k + 1)) = needR l (ys.take k) := by
  unfold needR
  rw [List.take_succ_eq_append_getElem hk, List.filterMap_append, List.filterMap_cons, if_neg h]; simp
def needsF (l : List α) (A : α → List α) : List (List Int) := l.map fun x => needR l (A x)
def dnF (l d : List α) : List Bool := l.map fun x => decide (x ∈ d)
def okI (nss : List (List Int)) (ds : List Bool) (i : Nat) : Bool := !ds.getD i false && (nss.getD i []).all fun j => ds.getD j.toNat false
def nxtI (nss : List (List Int)) (ds : List Bool) : Option Nat := (List.range nss.length).find? (okI nss ds)
theorem dnF_at {l d : List α} {i : Nat} (h : i < l.length) : (dnF l d).getD i false = decide (l[i] ∈ d) := by
  unfold dnF
  rw [List.getD_eq_getElem?_getD, List.getElem?_map, List.getElem?_eq_getElem h]; rfl
theorem okI_eq (l : List α) (A : α → List α) (d : List α) {i : Nat} (h : i < l.length) : okI (needsF l A) (dnF l d) i = free l A d l[i] := by
  unfold okI free
  have e1 : (needsF l A).getD i [] = (A l[i]).filterMap fun y => if y ∈ l then some ((l.idxOf y : Nat) : Int) else none := by
    unfold needsF needR
    rw [List.getD_eq_getElem?_getD, List.getElem?_map, List.getElem?_eq_getElem h]; rfl
  rw [e1, dnF_at h]
  congr 1
  · simp
  · induction A l[i] with
    | nil => rfl
    | cons y r ih =>
      simp only [List.filterMap_cons, List.all_cons]
      by_cases hy : y ∈ l
      · simp only [hy, if_true, List.all_cons, ih]
        have h2 := List.idxOf_lt_length_of_mem hy
        rw [Int.toNat_natCast, dnF_at h2, List.getElem_idxOf h2]
        simp
      · simp only [hy, if_false, ih, not_false_eq_true, decide_true, Bool.true_or, Bool.true_and]
theorem find_range {γ : Type} (p : γ → Bool) : ∀ (l : List γ) (q : Nat → Bool), (∀ i (h : i < l.length), q i = p l[i]) → match (List.range l.length).find? q with
    | some i => ∃ h : i < l.length, l.find? p = some l[i]
    | none => l.find? p = none := by
  intro l q hq
  cases hf : (List.range l.length).find? q with
  | none =>
    rw [List.find?_eq_none] at hf
    rw [List.find?_eq_none]
    intro x hx
    obtain ⟨i, hi, rfl⟩ := List.getElem_of_mem hx
    rw [← hq i hi]
    exact hf i (by simpa using hi)
  | some i =>
    rw [List.find?_range_eq_some] at hf
    obtain ⟨h1, h2, h3⟩ := hf
    have h2 : i < l.length := by simpa using h2
    refine ⟨h2, ?_⟩
    rw [List.find?_eq_some_iff_getElem]
    refine ⟨by rw [← hq i h2]; exact h1, i, h2, rfl, fun j hj => ?_⟩
    rw [← hq j (by omega)]
    simpa using h3 j hj
theorem nxtI_eq (l : List α) (A : α → List α) (d : List α) : match nxtI (needsF l A) (dnF l d) with
    | some i => ∃ h : i < l.length, nxt l A d = some l[i]
    | none => nxt l A d = none := by
  have e : (needsF l A).length = l.length := by simp [needsF]
  unfold nxtI nxt
  rw [e]
  exact find_range (free l A d) l _ fun i h => okI_eq l A d h
theorem needsF_in {l : List α} {A : α → List α} {ns : List Int} (h : ns ∈ needsF l A) (hA : ∀ x ∈ l, (A x).length ≤ 2 ^ 20) : ns.length ≤ 2 ^ 40 ∧ ∀ j ∈ ns, 0 ≤ j ∧ j < (l.length : Int) := by
  unfold needsF at h
  obtain ⟨x, hx, rfl⟩ := List.mem_map.1 h
  unfold needR
  refine ⟨?_, fun j hj => ?_⟩
  · have h1 := List.length_filterMap_le (fun y => if y ∈ l then some ((l.idxOf y : Nat) : Int) else none) (A x)
    have := hA x hx
    omega
  · obtain ⟨y, hy, hj⟩ := List.mem_filterMap.1 hj
    split at hj
    · rename_i hm
      injection hj with hj
      have := List.idxOf_lt_length_of_mem hm
      omega
    · cases hj
theorem dnF_put {l d : List α} (hn : l.Nodup) {i : Nat} (h : i < l.length) : (dnF l d).set i true = dnF l (d ++ [l[i]]) := by
  apply List.ext_getElem
  · simp [dnF]
  · intro j h1 h2
    have hj : j < l.length := by simpa [dnF] using h2
    rw [List.getElem_set]
    split
    · rename_i e; subst e; simp [dnF]
    · rename_i e
      simp only [dnF, List.getElem_map, List.mem_append, List.mem_singleton]
      have : ¬ l[j] = l[i] := fun he => e ((List.getElem_inj hn).1 he).symm
      simp [this]
end
end Go.G
