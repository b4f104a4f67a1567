/- What was not touched stands as it stood; light operations read what their operands name, and make at most one thing. -/
import Derived.Test.YtmdbdbjaipcgeaaAbOpRun
set_option linter.unusedVariables false
set_option linter.unusedSimpArgs false
namespace Go.Ab
open Go.RowKit

def Grow (M M' : Store) : Prop := M.n ≤ M'.n ∧ ∃ t, M'.log = t ++ M.log ∧ ∀ b, b < M.n → b ∉ t → M'.get b = M.get b
theorem Grow.refl (M : Store) : Grow M M := ⟨Nat.le_refl _, [], rfl, fun _ _ _ => rfl⟩
theorem Grow.trans {M M1 M2 : Store} (h : Grow M M1) (k : Grow M1 M2) : Grow M M2 := by
  obtain ⟨h1, t, h2, h3⟩ := h
  obtain ⟨k1, t', k2, k3⟩ := k
  refine ⟨Nat.le_trans h1 k1, t' ++ t, by rw [k2, h2, List.append_assoc], fun b hb hn => ?_⟩
  rw [k3 b (Nat.lt_of_lt_of_le hb h1) (fun h => hn (List.mem_append_left _ h)), h3 b hb (fun h => hn (List.mem_append_right _ h))]
theorem Grow.push (M : Store) (o : AObj) : Grow M (M.push o) := ⟨Nat.le_succ _, [], rfl, fun b hb _ => M.get_push_ne o (Nat.ne_of_lt hb)⟩
theorem Grow.set (M : Store) (i : Nat) (o : AObj) : Grow M (M.set i o) := by
  by_cases h : i < M.n
  · exact ⟨Nat.le_of_eq (M.set_n i o).symm, [i], by simp [Store.set, h], fun b hb hn => M.get_set_ne o (fun e => hn (by simp [e]))⟩
  · have : M.set i o = M := by simp [Store.set, h]
    rw [this]; exact .refl M

def Store.pushO (M : Store) : Option AObj → Store
  | none => M
  | some o => M.push o
theorem Grow.pushO (M : Store) (o : Option AObj) : Grow M (M.pushO o) := by cases o <;> first | exact .refl M | exact .push M _

theorem rowOf_get {M M0 : Store} {b : Nat} (h : M0.get b = M.get b) (o n : Nat) : rowOf M0 b o n = rowOf M b o n := by unfold rowOf; rw [h]

theorem aload_get {P : Program} {t : TypeId} {a : Value} {M M0 : Store} (h : ∀ b ∈ idsV a, M0.get b = M.get b) : aload P t a M0 = aload P t a M := by
  unfold aload
  split
  · rename_i b o
    have hb : M0.get b = M.get b := h b List.mem_cons_self
    simp only [rowOf_get hb]
  · rfl
theorem elemOk_get {M M0 : Store} {a : Option Addr} {e : TypeId} (h : ∀ x, a = some x → M0.get x.block = M.get x.block) : elemOk M0 a e = elemOk M a e := by
  unfold elemOk
  split
  · rfl
  · rw [h _ rfl]
theorem aslice_get {P : Program} {t : TypeId} {x : Value} {lo hi mx : Option Value} {M M0 : Store} (h : ∀ b ∈ idsV x, M0.get b = M.get b) : aslice P t x lo hi mx M0 = aslice P t x lo hi mx M := by
  unfold aslice
  split
  · rfl
  · rename_i a n c _
    have hb : ∀ y, a = some y → M0.get y.block = M.get y.block := fun y hy => h y.block (by subst hy; exact List.mem_cons_self)
    simp only [elemOk_get hb]
  · rfl
theorem alookup_get {P : Program} {t : TypeId} {x k : Value} {ok : Bool} {M M0 : Store} (h : ∀ b ∈ idsV x, M0.get b = M.get b) : alookup P t x k ok M0 = alookup P t x k ok M := by
  unfold alookup
  have : ∀ r, x = .map (some r) → M0.get r = M.get r := fun r hr => h r (by simp [idsV, hr])
  cases x with
  | map r => cases r with
    | none => rfl
    | some r => simp only [this r rfl]
  | _ => rfl
theorem alen_get {P : Program} {t : TypeId} {x : Value} {M M0 : Store} (h : ∀ b ∈ idsV x, M0.get b = M.get b) : alen P t x M0 = alen P t x M := by
  unfold alen
  split <;> first | rfl | skip
  rw [h _ (by simp [idsV])]

theorem aalloc_light {P : Program} {t : TypeId} {M M' : Store} {v : Value} (h : aalloc P t M = some (v, M')) : ∃ p, M' = M.pushO p ∧ ∀ M0 : Store, M0.n = M.n → aalloc P t M0 = some (v, M0.pushO p) := by
  unfold aalloc at h ⊢
  obtain ⟨z, hz, h⟩ := Option.bind_eq_some_iff.1 h
  split at h
  · rename_i hp
    injection h with h; injection h with h h'; subst h; subst h'
    exact ⟨some _, rfl, fun M0 hn => by rw [hz, hn]; simp only [Option.bind_some, if_pos hp]; rfl⟩
  · cases h
theorem abox_light {t : TypeId} {x : Value} {M M' : Store} {v : Value} (h : abox t x M = some (v, M')) : ∃ p, M' = M.pushO p ∧ ∀ M0 : Store, M0.n = M.n → abox t x M0 = some (v, M0.pushO p) := by
  unfold abox at h ⊢
  split at h
  · rename_i hp
    injection h with h; injection h with h h'; subst h; subst h'
    exact ⟨some _, rfl, fun M0 hn => by rw [hn, if_pos hp]; rfl⟩
  · cases h
theorem abuildSlice_light {P : Program} {t : TypeId} {n : Nat} {ps : Array (Nat × Value)} {M M' : Store} {v : Value} (h : abuildSlice P t n ps M = some (v, M')) : ∃ p, M' = M.pushO p ∧ ∀ M0 : Store, M0.n = M.n → abuildSlice P t n ps M0 = some (v, M0.pushO p) := by
  unfold abuildSlice at h ⊢
  split at h
  · rename_i e he
    obtain ⟨s, hs, h⟩ := Option.bind_eq_some_iff.1 h
    obtain ⟨z, hz, h⟩ := Option.bind_eq_some_iff.1 h
    split at h
    · rename_i hp
      obtain ⟨c, hc, h⟩ := Option.bind_eq_some_iff.1 h
      injection h with h; injection h with h h'; subst h; subst h'
      exact ⟨some _, rfl, fun M0 hn => by simp only [he, hs, hz, Option.bind_some, if_pos hp, hc, hn]; rfl⟩
    · cases h
  · cases h
theorem amakeSlice_light {P : Program} {t : TypeId} {l c : Value} {M M' : Store} {v : Value} (h : amakeSlice P t l c M = some (v, M')) : ∃ p, M' = M.pushO p ∧ ∀ M0 : Store, M0.n = M.n → amakeSlice P t l c M0 = some (v, M0.pushO p) := by
  unfold amakeSlice at h ⊢
  split at h
  · rename_i e l c he
    obtain ⟨s, hs, h⟩ := Option.bind_eq_some_iff.1 h
    obtain ⟨y, hy, h⟩ := Option.bind_eq_some_iff.1 h
    obtain ⟨z, hz, h⟩ := Option.bind_eq_some_iff.1 h
    split at h
    · rename_i hp
      injection h with h; injection h with h h'; subst h; subst h'
      exact ⟨some _, rfl, fun M0 hn => by simp only [he, hs, hy, hz, Option.bind_some, if_pos hp, hn]; rfl⟩
    · cases h
  · cases h
theorem aconvert_light {P : Program} {s d : TypeId} (hsd : s ≠ d) {x : Value} {M M' : Store} {v : Value} (h : aconvert P s d x M = some (v, M')) :
    ∃ p, M' = M.pushO p ∧ ∀ M0 : Store, M0.n = M.n → (∀ b ∈ idsV x, M0.get b = M.get b) → aconvert P s d x M0 = some (v, M0.pushO p) := by
  unfold aconvert at h ⊢
  split at h
  · injection h with h; injection h with h h'; subst h; subst h'
    exact ⟨none, rfl, fun M0 hn hg => rfl⟩
  · injection h with h; injection h with h h'; subst h; subst h'
    exact ⟨none, rfl, fun M0 hn hg => rfl⟩
  · rename_i e str h1 h2
    split at h
    · rename_i h3
      split at h
      · cases h
      · rename_i hp
        injection h with h; injection h with h h'; subst h; subst h'
        exact ⟨some _, rfl, fun M0 hn hg => by simp only [h3, if_neg hp, hn]; rfl⟩
    · cases h
  · split at h
    · split at h
      · rename_i hq; exact absurd hq.1 hsd
      · cases h
    · cases h
  · rename_i e a n c h1 h2
    split at h
    · rename_i h3
      injection h with h; injection h with h h'; subst h; subst h'
      exact ⟨none, rfl, fun M0 hn hg => by first | rfl | (simp only [h1, h2, h3]; rfl)⟩
    · rename_i b o h3
      split at h
      · rename_i hz
        injection h with h; injection h with h h'; subst h; subst h'
        exact ⟨none, rfl, fun M0 hn hg => by simp only [h3, if_pos hz]; rfl⟩
      · rename_i hz
        obtain ⟨cs, hc, h⟩ := Option.bind_eq_some_iff.1 h
        obtain ⟨l, hl, h⟩ := Option.bind_eq_some_iff.1 h
        injection h with h; injection h with h h'; subst h; subst h'
        refine ⟨none, rfl, fun M0 hn hg => ?_⟩
        have hb : M0.get b = M.get b := hg b List.mem_cons_self
        simp only [h3, if_neg hz, rowOf_get hb, hc, Option.bind_some, hl]; rfl
    · cases h
  · cases h

theorem aop_light {P : Program} {ρ : Operand → Value} {o : Op} {M M' : Store} {r : Sum Value (Bool × Nat × Array Value)} (hl : lightO o = true) (h : aop P ρ o M = some (r, M')) :
    ∃ v p, r = .inl v ∧ M' = M.pushO p ∧ ∀ M0 : Store, M0.n = M.n → (∀ b ∈ readIds ρ o, M0.get b = M.get b) → aop P ρ o M0 = some (.inl v, M0.pushO p) := by
  cases o <;> first | (cases hl; done) | skip
  case move x => simp only [aop] at h ⊢; injection h with h; injection h with h h'; subst h; subst h'; exact ⟨_, none, rfl, rfl, fun _ _ _ => rfl⟩
  case assign x => simp only [aop] at h ⊢; injection h with h; injection h with h h'; subst h; subst h'; exact ⟨_, none, rfl, rfl, fun _ _ _ => rfl⟩
  case pick c a b =>
    simp only [aop] at h ⊢
    split at h
    · rename_i t ht
      injection h with h; injection h with h h'; subst h; subst h'; exact ⟨_, none, rfl, rfl, fun _ _ _ => by first | rfl | (simp only [ht]; rfl)⟩
    · cases h
  case alloc t =>
    simp only [aop] at h ⊢
    obtain ⟨⟨v, M1⟩, h1, h⟩ := bind_some h
    injection h with h h'; subst h; subst h'
    obtain ⟨p, h2, h3⟩ := aalloc_light h1
    exact ⟨_, p, rfl, h2, fun M0 hn _ => by rw [h3 M0 hn]; rfl⟩
  case box t x =>
    simp only [aop] at h ⊢
    obtain ⟨⟨v, M1⟩, h1, h⟩ := bind_some h
    injection h with h h'; subst h; subst h'
    obtain ⟨p, h2, h3⟩ := abox_light h1
    exact ⟨_, p, rfl, h2, fun M0 hn _ => by rw [h3 M0 hn]; rfl⟩
  case buildSlice t n ps =>
    simp only [aop] at h ⊢
    obtain ⟨⟨v, M1⟩, h1, h⟩ := bind_some h
    injection h with h h'; subst h; subst h'
    obtain ⟨p, h2, h3⟩ := abuildSlice_light h1
    exact ⟨_, p, rfl, h2, fun M0 hn _ => by rw [h3 M0 hn]; rfl⟩
  case makeSlice t l c =>
    simp only [aop] at h ⊢
    obtain ⟨⟨v, M1⟩, h1, h⟩ := bind_some h
    injection h with h h'; subst h; subst h'
    obtain ⟨p, h2, h3⟩ := amakeSlice_light h1
    exact ⟨_, p, rfl, h2, fun M0 hn _ => by rw [h3 M0 hn]; rfl⟩
  case convert s d x =>
    simp only [aop] at h ⊢
    obtain ⟨⟨v, M1⟩, h1, h⟩ := bind_some h
    injection h with h h'; subst h; subst h'
    obtain ⟨p, h2, h3⟩ := aconvert_light (by simpa [lightO] using hl) h1
    exact ⟨_, p, rfl, h2, fun M0 hn hg => by rw [h3 M0 hn hg]; rfl⟩
  case load t a =>
    simp only [aop] at h ⊢
    obtain ⟨v, h1, h⟩ := bind_some h
    injection h with h h'; subst h; subst h'
    exact ⟨_, none, rfl, rfl, fun M0 _ hg => by rw [aload_get hg, h1]; rfl⟩
  case slice t x lo hi mx =>
    simp only [aop] at h ⊢
    obtain ⟨v, h1, h⟩ := bind_some h
    injection h with h h'; subst h; subst h'
    exact ⟨_, none, rfl, rfl, fun M0 _ hg => by rw [aslice_get hg, h1]; rfl⟩
  case lookup t x k ok =>
    simp only [aop] at h ⊢
    obtain ⟨v, h1, h⟩ := bind_some h
    injection h with h h'; subst h; subst h'
    exact ⟨_, none, rfl, rfl, fun M0 _ hg => by rw [alookup_get hg, h1]; rfl⟩
  case nilCheck x =>
    simp only [aop] at h ⊢
    split at h
    · rename_i q hq
      injection h with h; injection h with h h'; subst h; subst h'; exact ⟨_, none, rfl, rfl, fun _ _ _ => by first | rfl | (simp only [hq]; rfl)⟩
    · cases h
  case makeInterface t x =>
    simp only [aop] at h ⊢
    split at h
    · cases h
    · rename_i d hd hni
      split at h
      · rename_i hb
        injection h with h; injection h with h h'; subst h; subst h'
        exact ⟨_, none, rfl, rfl, fun _ _ _ => by rw [if_pos hb]; rfl⟩
      · cases h
    · cases h
  case makeFunc fn first captured =>
    simp only [aop] at h ⊢
    split at h
    · rename_i hb
      injection h with h; injection h with h h'; subst h; subst h'; exact ⟨_, none, rfl, rfl, fun _ _ _ => by rw [if_pos hb]; rfl⟩
    · cases h
  case makeMap t rs =>
    cases rs with
    | some r => cases hl
    | none =>
      simp only [aop] at h ⊢
      split at h
      · rename_i hu
        injection h with h; injection h with h h'; subst h; subst h'
        exact ⟨_, some _, rfl, rfl, fun M0 hn _ => by simp only [hn]; rfl⟩
      · cases h
  case extract t i =>
    simp only [aop] at h ⊢
    split at h
    · rename_i vs hq
      obtain ⟨v, h2, h⟩ := bind_some h
      injection h with h h'; subst h; subst h'
      exact ⟨_, none, rfl, rfl, fun _ _ _ => by first | (simp only [h2]; rfl) | (simp only [hq, h2]; rfl)⟩
    · cases h
  case call c =>
    obtain ⟨callee, args, argTypes⟩ := c
    cases callee with
    | builtin b =>
      simp only [aop] at h ⊢
      obtain ⟨⟨v, M1⟩, h1, h⟩ := bind_some h
      injection h with h h'; subst h; subst h'
      unfold abuiltin at h1 ⊢
      have hid : ∀ x ∈ (args.map ρ).toList, ∀ i ∈ idsV x, i ∈ readIds ρ (.call ⟨.builtin b, args, argTypes⟩) := by
        intro x hx i hi
        simp only [Array.toList_map, List.mem_map] at hx
        obtain ⟨y, hy, rfl⟩ := hx
        simp only [readIds, List.mem_flatMap]
        exact ⟨y, hy, hi⟩
      split at h1 <;> first | (cases hl; done) | skip
      · rename_i x hx
        obtain ⟨t, ht, h1⟩ := Option.bind_eq_some_iff.1 h1
        obtain ⟨v, hv, h1⟩ := Option.bind_eq_some_iff.1 h1
        injection h1 with h1; injection h1 with h1 h1'; subst h1; subst h1'
        refine ⟨_, none, rfl, rfl, fun M0 _ hg => ?_⟩
        have := alen_get (P := P) (t := t) (x := x) (M := M) (M0 := M0) fun b hb => hg b (hid x (by rw [hx]; exact List.mem_cons_self) b hb)
        simp only [ht, Option.bind_some, this, hv]; rfl
      · rename_i x y hx
        obtain ⟨v, hv, h1⟩ := Option.bind_eq_some_iff.1 h1
        injection h1 with h1; injection h1 with h1 h1'; subst h1; subst h1'
        exact ⟨_, none, rfl, rfl, fun M0 _ hg => by simp only [hv]; rfl⟩
      · rename_i x hx
        obtain ⟨t, ht, h1⟩ := Option.bind_eq_some_iff.1 h1
        obtain ⟨v, hv, h1⟩ := Option.bind_eq_some_iff.1 h1
        injection h1 with h1; injection h1 with h1 h1'; subst h1; subst h1'
        exact ⟨_, none, rfl, rfl, fun M0 _ hg => by simp only [ht, Option.bind_some, hv]; rfl⟩
      · rename_i x y hx
        obtain ⟨v, hv, h1⟩ := Option.bind_eq_some_iff.1 h1
        injection h1 with h1; injection h1 with h1 h1'; subst h1; subst h1'
        exact ⟨_, none, rfl, rfl, fun M0 _ hg => by simp only [hv]; rfl⟩
      · cases h1
    | value f => cases hl
    | invoke r m => cases hl
  all_goals
    simp only [aop] at h ⊢
    obtain ⟨v, h1, h⟩ := bind_some h
    injection h with h h'; subst h; subst h'
    exact ⟨_, none, rfl, rfl, fun _ _ _ => by rw [h1]; rfl⟩

theorem agrow_grow {base : Option Addr} {n cap s : Nat} {e : TypeId} {m : Nat} {ys : List Value} {M M' : Store} {v : Value} (h : agrow base n cap s e m ys M = some (v, M')) : Grow M M' := by
  unfold agrow at h
  split at h
  · split at h
    · injection h with h; injection h with h h'; subst h'; exact .push _ _
    · cases h
  · split at h
    · split at h
      · injection h with h; injection h with h h'; subst h'; exact .push _ _
      · obtain ⟨old, ho, h⟩ := Option.bind_eq_some_iff.1 h
        injection h with h; injection h with h h'; subst h'; exact .push _ _
    · split at h
      · split at h
        · split at h
          · injection h with h; injection h with h h'; subst h'; exact (Grow.set _ _ _).trans (.push _ _)
          · cases h
        · cases h
      · cases h
  · cases h

theorem aop_grow {P : Program} {ρ : Operand → Value} {o : Op} {M M' : Store} {r : Sum Value (Bool × Nat × Array Value)} (h : aop P ρ o M = some (r, M')) : Grow M M' := by
  cases hl : lightO o with
  | true =>
    obtain ⟨v, p, rfl, rfl, _⟩ := aop_light hl h
    exact .pushO M p
  | false =>
    cases o <;> first | (cases hl; done) | (simp only [aop] at h; cases h; done) | skip
    case convert s d x =>
      simp only [aop] at h
      obtain ⟨⟨v, M1⟩, h1, h⟩ := bind_some h
      injection h with h h'; subst h'
      obtain rfl : s = d := by simpa [lightO] using hl
      unfold aconvert at h1
      split at h1
      · injection h1 with h1; injection h1 with h1 h1'; subst h1'; exact .refl _
      · injection h1 with h1; injection h1 with h1 h1'; subst h1'; exact .refl _
      · split at h1
        · split at h1
          · cases h1
          · injection h1 with h1; injection h1 with h1 h1'; subst h1'; exact .push _ _
        · cases h1
      · split at h1
        · split at h1
          · injection h1 with h1; injection h1 with h1 h1'; subst h1'; exact .set _ _ _
          · cases h1
        · cases h1
      · split at h1
        · injection h1 with h1; injection h1 with h1 h1'; subst h1'; exact .refl _
        · split at h1
          · injection h1 with h1; injection h1 with h1 h1'; subst h1'; exact .refl _
          · obtain ⟨_, _, h1⟩ := Option.bind_eq_some_iff.1 h1
            obtain ⟨_, _, h1⟩ := Option.bind_eq_some_iff.1 h1
            injection h1 with h1; injection h1 with h1 h1'; subst h1'; exact .refl _
        · cases h1
      · cases h1
    case store t x y =>
      simp only [aop] at h
      obtain ⟨M1, h1, h⟩ := bind_some h
      injection h with h h'; subst h'
      unfold astore at h1
      split at h1
      · split at h1
        · split at h1
          · injection h1 with h1; subst h1; exact .set _ _ _
          · cases h1
        · cases h1
      · cases h1
    case mapUpdate t m k x =>
      simp only [aop] at h
      obtain ⟨M1, h1, h⟩ := bind_some h
      injection h with h h'; subst h'
      unfold amapUpdate at h1
      split at h1
      · obtain ⟨kd, hk, h1⟩ := Option.bind_eq_some_iff.1 h1
        split at h1
        · cases h1
        · split at h1
          · cases h1
          · split at h1
            · split at h1
              · cases h1
              · split at h1
                · injection h1 with h1; subst h1; exact .set _ _ _
                · injection h1 with h1; subst h1; exact .set _ _ _
            · cases h1
      · cases h1
    case makeMap t rs =>
      cases rs with
      | none => cases hl
      | some r =>
        simp only [aop] at h
        split at h
        · rename_i h2; cases h2
        · cases h
    case call c =>
      obtain ⟨callee, args, argTypes⟩ := c
      cases callee with
      | builtin b =>
        simp only [aop] at h
        obtain ⟨⟨v, M1⟩, h1, h⟩ := bind_some h
        injection h with h h'; subst h'
        unfold abuiltin at h1
        split at h1
        · unfold aappend at h1
          obtain ⟨_, _, h1⟩ := Option.bind_eq_some_iff.1 h1
          obtain ⟨_, _, h1⟩ := Option.bind_eq_some_iff.1 h1
          obtain ⟨_, _, h1⟩ := Option.bind_eq_some_iff.1 h1
          obtain ⟨_, _, h1⟩ := Option.bind_eq_some_iff.1 h1
          obtain ⟨_, _, h1⟩ := Option.bind_eq_some_iff.1 h1
          obtain ⟨_, _, h1⟩ := Option.bind_eq_some_iff.1 h1
          obtain ⟨_, _, h1⟩ := Option.bind_eq_some_iff.1 h1
          split at h1
          · split at h1
            · injection h1 with h1; injection h1 with h1 h1'; subst h1'; exact .refl _
            · split at h1
              · exact agrow_grow h1
              · cases h1
          · cases h1
        · cases hl
        · cases hl
        · cases hl
        · cases hl
        · unfold acopy at h1
          obtain ⟨_, _, h1⟩ := Option.bind_eq_some_iff.1 h1
          obtain ⟨_, _, h1⟩ := Option.bind_eq_some_iff.1 h1
          obtain ⟨_, _, h1⟩ := Option.bind_eq_some_iff.1 h1
          split at h1
          · split at h1
            · injection h1 with h1; injection h1 with h1 h1'; subst h1'; exact .refl _
            · split at h1
              · obtain ⟨_, _, h1⟩ := Option.bind_eq_some_iff.1 h1
                split at h1
                · split at h1
                  · injection h1 with h1; injection h1 with h1 h1'; subst h1'; exact .set _ _ _
                  · cases h1
                · cases h1
              · cases h1
          · cases h1
        · obtain ⟨_, _, h1⟩ := Option.bind_eq_some_iff.1 h1
          obtain ⟨M2, h2, h1⟩ := Option.bind_eq_some_iff.1 h1
          injection h1 with h1; injection h1 with h1 h1'; subst h1'
          unfold adelete at h2
          split at h2
          · obtain ⟨_, _, h2⟩ := Option.bind_eq_some_iff.1 h2
            split at h2
            · cases h2
            · split at h2
              · split at h2
                · cases h2
                · split at h2
                  · injection h2 with h2; subst h2; exact .set _ _ _
                  · injection h2 with h2; subst h2; exact .set _ _ _
              · cases h2
          · cases h2
        · cases h1
      | value f =>
        simp only [aop] at h
        split at h
        · injection h with h; injection h with h h'; subst h'; exact .refl _
        · injection h with h; injection h with h h'; subst h'; exact .refl _
        · cases h
      | invoke r m => simp only [aop] at h; cases h

end Go.Ab
