/- ... -/
import Derived.Test.YtjchjhkhopcalaaGreatDoorPKB
import Derived.OrdersIn
import Derived.LoopNIn
import Derived.TacticsIn
import Derived.RangeFuncLeaves
import Derived.RangeFuncRecord
import Derived.RangeFuncNested
import Derived.ProofKit
import Derived.OpenShut
import Derived.JoinedCond
set_option linter.unusedVariables false
set_option linter.unusedSimpArgs false
namespace Go.Ab
open Go.RowKit
def Grow (M M' : Store) : Prop := M.n ≤ M'.n ∧ ∃ t, M'.log = t ++ M.log ∧ ∀ b, b < M.n → b ∉ t → M'.get b = M.get b
theorem Grow.refl (M : Store) : Grow M M := ⟨Nat.le_refl _, [], rfl, fun _ _ _ => rfl⟩
theorem Grow.trans {M M1 M2 : Store} (h : Grow M M1) (k : Grow M1 M2) : Grow M M2 := by
 obtain ⟨h1, t, h2, h3⟩ := h
 obtain ⟨k1, t', k2, k3⟩ := k
 refine ⟨Nat.le_trans h1 k1, t' ++ t, by rw [k2, h2, List.append_assoc], fun b hb hn => ?_⟩
 rw [k3 b (Nat.lt_of_lt_of_le hb h1) (fun h => hn (List.mem_append_left _ h)), h3 b hb (fun h => hn (List.mem_append_right _ h))]
theorem Grow.push (M : Store) (o : aJ) : Grow M (M.push o) := ⟨Nat.le_succ _, [], rfl, fun b hb _ => M.get_push_ne o (Nat.ne_of_lt hb)⟩
theorem Grow.set (M : Store) (i : Nat) (o : aJ) : Grow M (M.set i o) := by
 by_cases h : i < M.n
 ·exact ⟨Nat.le_of_eq (M.set_n i o).symm, [i], by simp [Store.set, h], fun b hb hn => M.get_set_ne o (fun e => hn (by simp [e]))⟩
 ·have : M.set i o = M := by simp [Store.set, h]
  rw [this]; exact .refl M
def Store.pushO (M : Store) : Option aJ → Store
 | none => M
 | some o => M.push o
theorem Grow.pushO (M : Store) (o : Option aJ) : Grow M (M.pushO o) := by cases o <;> first | exact .refl M | exact .push M _
theorem gE {M M0 : Store} {b : Nat} (h : M0.get b = M.get b) (o n : Nat) : b8 M0 b o n = b8 M b o n := by unfold b8; rw [h]
theorem qG {P : Program} {t : TypeId} {a : Value} {M M0 : Store} (h : ∀ b ∈ cw a, M0.get b = M.get b) : ee P t a M0 = ee P t a M := by
 unfold ee
 split
 ·rename_i b o
  have hb : M0.get b = M.get b := h b List.mem_cons_self
  simp only [gE hb]
 ·rfl
theorem pW {M M0 : Store} {a : Option Addr} {e : TypeId} (h : ∀ x, a = some x → M0.get x.block = M.get x.block) : bJ M0 a e = bJ M a e := by
 unfold bJ
 split
 ·rfl
 ·rw [h _ rfl]
theorem pH {P : Program} {t : TypeId} {x : Value} {lo hi mx : Option Value} {M M0 : Store} (h : ∀ b ∈ cw x, M0.get b = M.get b) : dA P t x lo hi mx M0 = dA P t x lo hi mx M := by
 unfold dA
 split
 ·rfl
 ·rename_i a n c _
  have hb : ∀ y, a = some y → M0.get y.block = M.get y.block := fun y hy => h y.block (by subst hy; exact List.mem_cons_self)
  simp only [pW hb]
 ·rfl
theorem oI {P : Program} {t : TypeId} {x k : Value} {ok : Bool} {M M0 : Store} (h : ∀ b ∈ cw x, M0.get b = M.get b) : dU P t x k ok M0 = dU P t x k ok M := by
 unfold dU
 have : ∀ r, x = .map (some r) → M0.get r = M.get r := fun r hr => h r (by simp [cw, hr])
 cases x with
 | map r => cases r with
  | none => rfl
  | some r => simp only [this r rfl]
 | _ => rfl
theorem rr {P : Program} {t : TypeId} {x : Value} {M M0 : Store} (h : ∀ b ∈ cw x, M0.get b = M.get b) : eC P t x M0 = eC P t x M := by
 unfold eC
 split <;> first | rfl | skip
 rw [h _ (by simp [cw])]
theorem nq {P : Program} {t : TypeId} {M M' : Store} {v : Value} (h : fZ P t M = some (v, M')) : ∃ p, M' = M.pushO p ∧ ∀ M0 : Store, M0.n = M.n → fZ P t M0 = some (v, M0.pushO p) := by
 unfold fZ at h ⊢
 obtain ⟨z, hz, h⟩ := Option.bind_eq_some_iff.1 h
 split at h
 ·rename_i hp
  injection h with h; injection h with h h'; subst h; subst h'
  exact ⟨some _, rfl, fun M0 hn => by rw [hz, hn]; simp only [Option.bind_some, if_pos hp]; rfl⟩
 ·cases h
theorem px {t : TypeId} {x : Value} {M M' : Store} {v : Value} (h : kq t x M = some (v, M')) : ∃ p, M' = M.pushO p ∧ ∀ M0 : Store, M0.n = M.n → kq t x M0 = some (v, M0.pushO p) := by
 unfold kq at h ⊢
 split at h
 ·rename_i hp
  injection h with h; injection h with h h'; subst h; subst h'
  exact ⟨some _, rfl, fun M0 hn => by rw [hn, if_pos hp]; rfl⟩
 ·cases h
theorem jR {P : Program} {t : TypeId} {n : Nat} {ps : Array (Nat × Value)} {M M' : Store} {v : Value} (h : co P t n ps M = some (v, M')) : ∃ p, M' = M.pushO p ∧ ∀ M0 : Store, M0.n = M.n → co P t n ps M0 = some (v, M0.pushO p) := by
 unfold co at h ⊢
 split at h
 ·rename_i e he
  obtain ⟨s, hs, h⟩ := Option.bind_eq_some_iff.1 h
  obtain ⟨z, hz, h⟩ := Option.bind_eq_some_iff.1 h
  split at h
  ·rename_i hp
   obtain ⟨c, hc, h⟩ := Option.bind_eq_some_iff.1 h
   injection h with h; injection h with h h'; subst h; subst h'
   exact ⟨some _, rfl, fun M0 hn => by simp only [he, hs, hz, Option.bind_some, if_pos hp, hc, hn]; rfl⟩
  ·cases h
 ·cases h
theorem kr {P : Program} {t : TypeId} {l c : Value} {M M' : Store} {v : Value} (h : cP P t l c M = some (v, M')) : ∃ p, M' = M.pushO p ∧ ∀ M0 : Store, M0.n = M.n → cP P t l c M0 = some (v, M0.pushO p) := by
 unfold cP at h ⊢
 split at h
 ·rename_i e l c he
  obtain ⟨s, hs, h⟩ := Option.bind_eq_some_iff.1 h
  obtain ⟨y, hy, h⟩ := Option.bind_eq_some_iff.1 h
  obtain ⟨z, hz, h⟩ := Option.bind_eq_some_iff.1 h
  split at h
  ·rename_i hp
   injection h with h; injection h with h h'; subst h; subst h'
   exact ⟨some _, rfl, fun M0 hn => by simp only [he, hs, hy, hz, Option.bind_some, if_pos hp, hn]; rfl⟩
  ·cases h
 ·cases h
theorem lM {P : Program} {s d : TypeId} (hsd : s ≠ d) {x : Value} {M M' : Store} {v : Value} (h : bq P s d x M = some (v, M')) :
    ∃ p, M' = M.pushO p ∧ ∀ M0 : Store, M0.n = M.n → (∀ b ∈ cw x, M0.get b = M.get b) → bq P s d x M0 = some (v, M0.pushO p) := by
 unfold bq at h ⊢
 split at h
 ·injection h with h; injection h with h h'; subst h; subst h'
  exact ⟨none, rfl, fun M0 hn hg => rfl⟩
 ·injection h with h; injection h with h h'; subst h; subst h'
  exact ⟨none, rfl, fun M0 hn hg => rfl⟩
 ·rename_i e str h1 h2
  split at h
  ·rename_i h3
   split at h
   ·cases h
   ·rename_i hp
    injection h with h; injection h with h h'; subst h; subst h'
    exact ⟨some _, rfl, fun M0 hn hg => by simp only [h3, if_neg hp, hn]; rfl⟩
  ·cases h
 ·split at h
  ·split at h
   ·rename_i hq; exact absurd hq.1 hsd
   ·cases h
  ·cases h
 ·rename_i e a n c h1 h2
  split at h
  ·rename_i h3
   injection h with h; injection h with h h'; subst h; subst h'
   exact ⟨none, rfl, fun M0 hn hg => by first | rfl | (simp only [h1, h2, h3]; rfl)⟩
  ·rename_i b o h3
   split at h
   ·rename_i hz
    injection h with h; injection h with h h'; subst h; subst h'
    exact ⟨none, rfl, fun M0 hn hg => by simp only [h3, if_pos hz]; rfl⟩
   ·rename_i hz
    obtain ⟨cs, hc, h⟩ := Option.bind_eq_some_iff.1 h
    obtain ⟨l, hl, h⟩ := Option.bind_eq_some_iff.1 h
    injection h with h; injection h with h h'; subst h; subst h'
    refine ⟨none, rfl, fun M0 hn hg => ?_⟩
    have hb : M0.get b = M.get b := hg b List.mem_cons_self
    simp only [h3, if_neg hz, gE hb, hc, Option.bind_some, hl]; rfl
  ·cases h
 ·cases h
theorem gp {P : Program} {ρ : Operand → Value} {o : Op} {M M' : Store} {r : Sum Value (Bool × Nat × Array Value)} (hl : a6 o = true) (h : aop P ρ o M = some (r, M')) :
    ∃ v p, r = .inl v ∧ M' = M.pushO p ∧ ∀ M0 : Store, M0.n = M.n → (∀ b ∈ aA ρ o, M0.get b = M.get b) → aop P ρ o M0 = some (.inl v, M0.pushO p) := by
 cases o <;> first | (cases hl; done) | skip
 case move x => simp only [aop] at h ⊢; injection h with h; injection h with h h'; subst h; subst h'; exact ⟨_, none, rfl, rfl, fun _ _ _ => rfl⟩
 case assign x => simp only [aop] at h ⊢; injection h with h; injection h with h h'; subst h; subst h'; exact ⟨_, none, rfl, rfl, fun _ _ _ => rfl⟩
 case pick c a b =>
  simp only [aop] at h ⊢
  split at h
  ·rename_i t ht
   injection h with h; injection h with h h'; subst h; subst h'; exact ⟨_, none, rfl, rfl, fun _ _ _ => by first | rfl | (simp only [ht]; rfl)⟩
  ·cases h
 case alloc t =>
  simp only [aop] at h ⊢
  obtain ⟨⟨v, M1⟩, h1, h⟩ := bind_some h
  injection h with h h'; subst h; subst h'
  obtain ⟨p, h2, h3⟩ := nq h1
  exact ⟨_, p, rfl, h2, fun M0 hn _ => by rw [h3 M0 hn]; rfl⟩
 case box t x =>
  simp only [aop] at h ⊢
  obtain ⟨⟨v, M1⟩, h1, h⟩ := bind_some h
  injection h with h h'; subst h; subst h'
  obtain ⟨p, h2, h3⟩ := px h1
  exact ⟨_, p, rfl, h2, fun M0 hn _ => by rw [h3 M0 hn]; rfl⟩
 case buildSlice t n ps =>
  simp only [aop] at h ⊢
  obtain ⟨⟨v, M1⟩, h1, h⟩ := bind_some h
  injection h with h h'; subst h; subst h'
  obtain ⟨p, h2, h3⟩ := jR h1
  exact ⟨_, p, rfl, h2, fun M0 hn _ => by rw [h3 M0 hn]; rfl⟩
 case makeSlice t l c =>
  simp only [aop] at h ⊢
  obtain ⟨⟨v, M1⟩, h1, h⟩ := bind_some h
  injection h with h h'; subst h; subst h'
  obtain ⟨p, h2, h3⟩ := kr h1
  exact ⟨_, p, rfl, h2, fun M0 hn _ => by rw [h3 M0 hn]; rfl⟩
 case convert s d x =>
  simp only [aop] at h ⊢
  obtain ⟨⟨v, M1⟩, h1, h⟩ := bind_some h
  injection h with h h'; subst h; subst h'
  obtain ⟨p, h2, h3⟩ := lM (by simpa [a6] using hl) h1
  exact ⟨_, p, rfl, h2, fun M0 hn hg => by rw [h3 M0 hn hg]; rfl⟩
 case load t a =>
  simp only [aop] at h ⊢
  obtain ⟨v, h1, h⟩ := bind_some h
  injection h with h h'; subst h; subst h'
  exact ⟨_, none, rfl, rfl, fun M0 _ hg => by rw [qG hg, h1]; rfl⟩
 case slice t x lo hi mx =>
  simp only [aop] at h ⊢
  obtain ⟨v, h1, h⟩ := bind_some h
  injection h with h h'; subst h; subst h'
  exact ⟨_, none, rfl, rfl, fun M0 _ hg => by rw [pH hg, h1]; rfl⟩
 case lookup t x k ok =>
  simp only [aop] at h ⊢
  obtain ⟨v, h1, h⟩ := bind_some h
  injection h with h h'; subst h; subst h'
  exact ⟨_, none, rfl, rfl, fun M0 _ hg => by rw [oI hg, h1]; rfl⟩
 case nilCheck x =>
  simp only [aop] at h ⊢
  split at h
  ·rename_i q hq
   injection h with h; injection h with h h'; subst h; subst h'; exact ⟨_, none, rfl, rfl, fun _ _ _ => by first | rfl | (simp only [hq]; rfl)⟩
  ·cases h
 case makeInterface t x =>
  simp only [aop] at h ⊢
  split at h
  ·cases h
  ·rename_i d hd hni
   split at h
   ·rename_i hb
    injection h with h; injection h with h h'; subst h; subst h'
    exact ⟨_, none, rfl, rfl, fun _ _ _ => by rw [if_pos hb]; rfl⟩
   ·cases h
  ·cases h
 case makeFunc fn first captured =>
  simp only [aop] at h ⊢
  split at h
  ·rename_i hb
   injection h with h; injection h with h h'; subst h; subst h'; exact ⟨_, none, rfl, rfl, fun _ _ _ => by rw [if_pos hb]; rfl⟩
  ·cases h
 case makeMap t rs =>
  cases rs with
  | some r => cases hl
  | none =>
   simp only [aop] at h ⊢
   split at h
   ·rename_i hu
    injection h with h; injection h with h h'; subst h; subst h'
    exact ⟨_, some _, rfl, rfl, fun M0 hn _ => by simp only [hn]; rfl⟩
   ·cases h
 case extract t i =>
  simp only [aop] at h ⊢
  split at h
  ·rename_i vs hq
   obtain ⟨v, h2, h⟩ := bind_some h
   injection h with h h'; subst h; subst h'
   exact ⟨_, none, rfl, rfl, fun _ _ _ => by first | (simp only [h2]; rfl) | (simp only [hq, h2]; rfl)⟩
  ·cases h
 case call c =>
  obtain ⟨callee, args, argTypes⟩ := c
  cases callee with
  | builtin b =>
   simp only [aop] at h ⊢
   obtain ⟨⟨v, M1⟩, h1, h⟩ := bind_some h
   injection h with h h'; subst h; subst h'
   unfold aD at h1 ⊢
   have hid : ∀ x ∈ (args.map ρ).toList, ∀ i ∈ cw x, i ∈ aA ρ (.call ⟨.builtin b, args, argTypes⟩) := by
    intro x hx i hi
    simp only [Array.toList_map, List.mem_map] at hx
    obtain ⟨y, hy, rfl⟩ := hx
    simp only [aA, List.mem_flatMap]
    exact ⟨y, hy, hi⟩
   split at h1 <;> first | (cases hl; done) | skip
   ·rename_i x hx
    obtain ⟨t, ht, h1⟩ := Option.bind_eq_some_iff.1 h1
    obtain ⟨v, hv, h1⟩ := Option.bind_eq_some_iff.1 h1
    injection h1 with h1; injection h1 with h1 h1'; subst h1; subst h1'
    refine ⟨_, none, rfl, rfl, fun M0 _ hg => ?_⟩
    have := rr (P := P) (t := t) (x := x) (M := M) (M0 := M0) fun b hb => hg b (hid x (by rw [hx]; exact List.mem_cons_self) b hb)
    simp only [ht, Option.bind_some, this, hv]; rfl
   ·rename_i x y hx
    obtain ⟨v, hv, h1⟩ := Option.bind_eq_some_iff.1 h1
    injection h1 with h1; injection h1 with h1 h1'; subst h1; subst h1'
    exact ⟨_, none, rfl, rfl, fun M0 _ hg => by simp only [hv]; rfl⟩
   ·rename_i x hx
    obtain ⟨t, ht, h1⟩ := Option.bind_eq_some_iff.1 h1
    obtain ⟨v, hv, h1⟩ := Option.bind_eq_some_iff.1 h1
    injection h1 with h1; injection h1 with h1 h1'; subst h1; subst h1'
    exact ⟨_, none, rfl, rfl, fun M0 _ hg => by simp only [ht, Option.bind_some, hv]; rfl⟩
   ·rename_i x y hx
    obtain ⟨v, hv, h1⟩ := Option.bind_eq_some_iff.1 h1
    injection h1 with h1; injection h1 with h1 h1'; subst h1; subst h1'
    exact ⟨_, none, rfl, rfl, fun M0 _ hg => by simp only [hv]; rfl⟩
   ·cases h1
  | value f => cases hl
  | invoke r m => cases hl
 all_goals
  simp only [aop] at h ⊢
  obtain ⟨v, h1, h⟩ := bind_some h
  injection h with h h'; subst h; subst h'
  exact ⟨_, none, rfl, rfl, fun _ _ _ => by rw [h1]; rfl⟩
theorem pE {base : Option Addr} {n cap s : Nat} {e : TypeId} {m : Nat} {ys : List Value} {M M' : Store} {v : Value} (h : bL base n cap s e m ys M = some (v, M')) : Grow M M' := by
 unfold bL at h
 split at h
 ·split at h
  ·injection h with h; injection h with h h'; subst h'; exact .push _ _
  ·cases h
 ·split at h
  ·split at h
   ·injection h with h; injection h with h h'; subst h'; exact .push _ _
   ·obtain ⟨old, ho, h⟩ := Option.bind_eq_some_iff.1 h
    injection h with h; injection h with h h'; subst h'; exact .push _ _
  ·split at h
   ·split at h
    ·split at h
     ·injection h with h; injection h with h h'; subst h'; exact (Grow.set _ _ _).trans (.push _ _)
     ·cases h
    ·cases h
   ·cases h
 ·cases h
theorem Store.pushO_log (M : Store) (o : Option aJ) : (M.pushO o).log = M.log := by cases o <;> rfl
theorem Store.pushO_get (M : Store) (o : Option aJ) {b : Nat} (h : b < M.n) : (M.pushO o).get b = M.get b := by
 cases o
 ·rfl
 ·exact M.get_push_ne _ (Nat.ne_of_lt h)
theorem Store.set_log' (M : Store) (o : aJ) {i : Nat} (h : i < M.n) : (M.set i o).log = i :: M.log := by simp [Store.set, h]
theorem Store.set_none_get (M : Store) (i : Nat) : (M.set i none).get i = none := by
 unfold Store.set
 split
 ·rename_i h
  simp only [Store.get, if_pos h]
  rw [List.getElem?_set]
  split
  ·split <;> rfl
  ·rename_i h1; exact absurd rfl h1
 ·rename_i h
  simp only [Store.get, if_neg h]
def Store.dropO (M : Store) : Option Nat → Store
 | none => M
 | some b => M.set b none
theorem oH {base : Option Addr} {n cap s : Nat} {e : TypeId} {m : Nat} {ys : List Value} {M M' : Store} {v : Value} (h : bL base n cap s e m ys M = some (v, M')) :
    ∃ k p, M' = (M.dropO k).pushO p ∧ (∀ b, k = some b → b < M.n ∧ ∃ x, base = some x ∧ x.block = b) ∧ ∀ M0 : Store, M0.n = M.n → (∀ x, base = some x → M0.get x.block = M.get x.block) → bL base n cap s e m ys M0 = some (v, (M0.dropO k).pushO p) := by
 unfold bL at h
 split at h
 ·split at h
  ·rename_i hn0
   injection h with h; injection h with h h'; subst h; subst h'
   exact ⟨none, some _, rfl, (fun b e => by cases e), fun M0 hn _ => by simp only [bL, if_pos hn0, hn]; rfl⟩
  ·cases h
 ·rename_i b o
  split at h
  ·rename_i hc
   split at h
   ·rename_i hn0
    injection h with h; injection h with h h'; subst h; subst h'
    exact ⟨none, some _, rfl, (fun b e => by cases e), fun M0 hn _ => by simp only [bL, if_pos hc, if_pos hn0, hn]; rfl⟩
   ·rename_i hn0
    obtain ⟨old, ho, h⟩ := Option.bind_eq_some_iff.1 h
    injection h with h; injection h with h h'; subst h; subst h'
    refine ⟨none, some _, rfl, (fun b e => by cases e), fun M0 hn hg => ?_⟩
    have hb : M0.get b = M.get b := hg _ rfl
    simp only [bL, if_pos hc, if_neg hn0, gE hb, ho, Option.bind_some, hn]; rfl
  ·rename_i hc
   split at h
   ·rename_i hc1
    split at h
    ·rename_i c e' hb
     split at h
     ·rename_i hcond
      injection h with h; injection h with h h'; subst h; subst h'
      refine ⟨some b, some _, rfl, (fun b' e => by injection e with e; subst e; exact ⟨M.lt_of_get hb, _, rfl, rfl⟩), fun M0 hn hg => ?_⟩
      have hb0 : M0.get b = M.get b := hg _ rfl
      rw [hb] at hb0
      simp only [bL, if_neg hc, if_pos hc1, hb0, if_pos hcond, hn]; rfl
     ·cases h
    ·cases h
   ·cases h
 ·cases h
theorem mz {P : Program} {e xt : TypeId} {s : Nat} {x : Value} {M M0 : Store} (h : ∀ b ∈ cw x, M0.get b = M.get b) : dp P e xt s x M0 = dp P e xt s x M := by
 unfold dp
 split <;> first | rfl | skip
 rename_i b o n c _
 rw [gE (h b (by simp [cw]))]
theorem mZ {P : Program} {ts : Array TypeId} {v x : Value} {M M' : Store} {r : Value} (h : bZ P ts v x M = some (r, M')) :
    ∃ k p, M' = (M.dropO k).pushO p ∧ (∀ b, k = some b → b < M.n ∧ b ∈ cw v) ∧ ∀ M0 : Store, M0.n = M.n → (∀ b ∈ cw v, M0.get b = M.get b) → (∀ b ∈ cw x, M0.get b = M.get b) → bZ P ts v x M0 = some (r, (M0.dropO k).pushO p) := by
 unfold bZ at h
 obtain ⟨t, h1, h⟩ := Option.bind_eq_some_iff.1 h
 obtain ⟨xt, h2, h⟩ := Option.bind_eq_some_iff.1 h
 obtain ⟨e, h3, h⟩ := Option.bind_eq_some_iff.1 h
 obtain ⟨s, h4, h⟩ := Option.bind_eq_some_iff.1 h
 obtain ⟨by_, h5, h⟩ := Option.bind_eq_some_iff.1 h
 obtain ⟨z, h6, h⟩ := Option.bind_eq_some_iff.1 h
 obtain ⟨my, h7, h⟩ := Option.bind_eq_some_iff.1 h
 split at h
 ·rename_i base n cap
  split at h
  ·rename_i h0
   injection h with h; injection h with h h'; subst h; subst h'
   refine ⟨none, none, rfl, (fun b e => by cases e), fun M0 hn hv hx => ?_⟩
   simp only [bZ, h1, h2, h3, h4, h5, h6, mz hx, h7, Option.bind_some, if_pos h0]; rfl
  ·rename_i h0
   split at h
   ·rename_i hc
    obtain ⟨k, p, e1, e2, e3⟩ := oH h
    refine ⟨k, p, e1, (fun b hb => ?_), fun M0 hn hv hx => ?_⟩
    ·obtain ⟨q1, y, rfl, rfl⟩ := e2 b hb
     exact ⟨q1, by simp [cw]⟩
    ·have := e3 M0 hn fun y hy => by subst hy; exact hv _ (by simp [cw])
     simp only [bZ, h1, h2, h3, h4, h5, h6, mz hx, h7, Option.bind_some, if_neg h0, if_pos hc, this]
   ·cases h
 ·cases h
theorem oY {P : Program} {ρ : Operand → Value} {o : Op} {M M' : Store} {r : Sum Value (Bool × Nat × Array Value)} (hl : nD o = true) (h : aop P ρ o M = some (r, M')) :
    ∃ v k p, r = .inl v ∧ M' = (M.dropO k).pushO p ∧ (∀ b, k = some b → b < M.n ∧ b ∈ aA ρ o) ∧ ∀ M0 : Store, M0.n = M.n → (∀ b ∈ aA ρ o, M0.get b = M.get b) → aop P ρ o M0 = some (.inl v, (M0.dropO k).pushO p) := by
 cases o <;> first | (cases hl; done) | skip
 case call c =>
  obtain ⟨callee, args, argTypes⟩ := c
  cases callee with
  | builtin b =>
   cases b <;> first | (cases hl; done) | skip
   simp only [aop] at h ⊢
   obtain ⟨⟨v, M1⟩, h1, h⟩ := bind_some h
   injection h with h h'; subst h; subst h'
   unfold aD at h1 ⊢
   have hid : ∀ x ∈ (args.map ρ).toList, ∀ i ∈ cw x, i ∈ aA ρ (.call ⟨.builtin .append, args, argTypes⟩) := by
    intro x hx i hi
    simp only [Array.toList_map, List.mem_map] at hx
    obtain ⟨y, hy, rfl⟩ := hx
    simp only [aA, List.mem_flatMap]
    exact ⟨y, hy, hi⟩
   split at h1 <;> first | (rename_i hb _; cases hb; done) | skip
   ·rename_i x y _ hx
    obtain ⟨k, p, e1, e2, e3⟩ := mZ h1
    refine ⟨v, k, p, rfl, e1, (fun b hb => ⟨(e2 b hb).1, hid x (by rw [hx]; simp) b (e2 b hb).2⟩), fun M0 hn hg => ?_⟩
    have := e3 M0 hn (fun b hb => hg b (hid x (by rw [hx]; simp) b hb)) (fun b hb => hg b (hid y (by rw [hx]; simp) b hb))
    simp only [this]; rfl
   ·cases h1
  | value f => cases hl
  | invoke r m => cases hl
theorem iw {P : Program} {ρ : Operand → Value} {o : Op} {M M' : Store} {r : Sum Value (Bool × Nat × Array Value)} (h : aop P ρ o M = some (r, M')) : Grow M M' := by
 cases hl : a6 o with
 | true =>
  obtain ⟨v, p, rfl, rfl, _⟩ := gp hl h
  exact .pushO M p
 | false =>
  cases o <;> first | (cases hl; done) | (simp only [aop] at h; cases h; done) | skip
  case convert s d x =>
   simp only [aop] at h
   obtain ⟨⟨v, M1⟩, h1, h⟩ := bind_some h
   injection h with h h'; subst h'
   obtain rfl : s = d := by simpa [a6] using hl
   unfold bq at h1
   split at h1
   ·injection h1 with h1; injection h1 with h1 h1'; subst h1'; exact .refl _
   ·injection h1 with h1; injection h1 with h1 h1'; subst h1'; exact .refl _
   ·split at h1
    ·split at h1
     ·cases h1
     ·injection h1 with h1; injection h1 with h1 h1'; subst h1'; exact .push _ _
    ·cases h1
   ·split at h1
    ·split at h1
     ·injection h1 with h1; injection h1 with h1 h1'; subst h1'; exact .set _ _ _
     ·cases h1
    ·cases h1
   ·split at h1
    ·injection h1 with h1; injection h1 with h1 h1'; subst h1'; exact .refl _
    ·split at h1
     ·injection h1 with h1; injection h1 with h1 h1'; subst h1'; exact .refl _
     ·obtain ⟨_, _, h1⟩ := Option.bind_eq_some_iff.1 h1
      obtain ⟨_, _, h1⟩ := Option.bind_eq_some_iff.1 h1
      injection h1 with h1; injection h1 with h1 h1'; subst h1'; exact .refl _
    ·cases h1
   ·cases h1
  case store t x y =>
   simp only [aop] at h
   obtain ⟨M1, h1, h⟩ := bind_some h
   injection h with h h'; subst h'
   unfold jm at h1
   split at h1
   ·split at h1
    ·split at h1
     ·injection h1 with h1; subst h1; exact .set _ _ _
     ·cases h1
    ·cases h1
   ·cases h1
  case mapUpdate t m k x =>
   simp only [aop] at h
   obtain ⟨M1, h1, h⟩ := bind_some h
   injection h with h h'; subst h'
   unfold bw at h1
   split at h1
   ·obtain ⟨kd, hk, h1⟩ := Option.bind_eq_some_iff.1 h1
    split at h1
    ·cases h1
    ·split at h1
     ·cases h1
     ·split at h1
      ·split at h1
       ·cases h1
       ·split at h1
        ·injection h1 with h1; subst h1; exact .set _ _ _
        ·injection h1 with h1; subst h1; exact .set _ _ _
      ·cases h1
   ·cases h1
  case insert t m k x =>
   simp only [aop] at h
   obtain ⟨M1, h1, h⟩ := bind_some h
   injection h with h h'; subst h'
   unfold bw at h1
   split at h1
   ·obtain ⟨kd, hk, h1⟩ := Option.bind_eq_some_iff.1 h1
    split at h1
    ·cases h1
    ·split at h1
     ·cases h1
     ·split at h1
      ·split at h1
       ·cases h1
       ·split at h1
        ·injection h1 with h1; subst h1; exact .set _ _ _
        ·injection h1 with h1; subst h1; exact .set _ _ _
      ·cases h1
   ·cases h1
  case makeMap t rs =>
   cases rs with
   | none => cases hl
   | some r =>
    simp only [aop] at h
    split at h
    ·rename_i h2; cases h2
    ·cases h
  case call c =>
   obtain ⟨callee, args, argTypes⟩ := c
   cases callee with
   | builtin b =>
    simp only [aop] at h
    obtain ⟨⟨v, M1⟩, h1, h⟩ := bind_some h
    injection h with h h'; subst h'
    unfold aD at h1
    split at h1
    ·unfold bZ at h1
     obtain ⟨_, _, h1⟩ := Option.bind_eq_some_iff.1 h1
     obtain ⟨_, _, h1⟩ := Option.bind_eq_some_iff.1 h1
     obtain ⟨_, _, h1⟩ := Option.bind_eq_some_iff.1 h1
     obtain ⟨_, _, h1⟩ := Option.bind_eq_some_iff.1 h1
     obtain ⟨_, _, h1⟩ := Option.bind_eq_some_iff.1 h1
     obtain ⟨_, _, h1⟩ := Option.bind_eq_some_iff.1 h1
     obtain ⟨_, _, h1⟩ := Option.bind_eq_some_iff.1 h1
     split at h1
     ·split at h1
      ·injection h1 with h1; injection h1 with h1 h1'; subst h1'; exact .refl _
      ·split at h1
       ·exact pE h1
       ·cases h1
     ·cases h1
    ·cases hl
    ·cases hl
    ·cases hl
    ·cases hl
    ·unfold m6 at h1
     obtain ⟨_, _, h1⟩ := Option.bind_eq_some_iff.1 h1
     obtain ⟨_, _, h1⟩ := Option.bind_eq_some_iff.1 h1
     obtain ⟨_, _, h1⟩ := Option.bind_eq_some_iff.1 h1
     split at h1
     ·split at h1
      ·injection h1 with h1; injection h1 with h1 h1'; subst h1'; exact .refl _
      ·split at h1
       ·obtain ⟨_, _, h1⟩ := Option.bind_eq_some_iff.1 h1
        split at h1
        ·split at h1
         ·injection h1 with h1; injection h1 with h1 h1'; subst h1'; exact .set _ _ _
         ·cases h1
        ·cases h1
       ·cases h1
     ·cases h1
    ·obtain ⟨_, _, h1⟩ := Option.bind_eq_some_iff.1 h1
     obtain ⟨M2, h2, h1⟩ := Option.bind_eq_some_iff.1 h1
     injection h1 with h1; injection h1 with h1 h1'; subst h1'
     unfold eB at h2
     split at h2
     ·obtain ⟨_, _, h2⟩ := Option.bind_eq_some_iff.1 h2
      split at h2
      ·cases h2
      ·split at h2
       ·split at h2
        ·cases h2
        ·split at h2
         ·injection h2 with h2; subst h2; exact .set _ _ _
         ·injection h2 with h2; subst h2; exact .set _ _ _
       ·cases h2
     ·cases h2
    ·cases h1
   | value f =>
    simp only [aop] at h
    split at h
    ·injection h with h; injection h with h h'; subst h'; exact .refl _
    ·injection h with h; injection h with h h'; subst h'; exact .refl _
    ·cases h
   | invoke r m => simp only [aop] at h; cases h
end Go.Ab

set_option linter.unusedVariables false
set_option linter.unusedSimpArgs false
namespace Go.Ab
open Go.RowKit
open Classical
def fen (ro : Option Nat) : Fence := { Fence.wide with round := ro }
theorem mE {P : Program} {f : FuncId} {args : Array Value} {w : World} {R : Ending → World → Prop} (ro : Option Nat) (h : Calls P f args w R) : CallsIn (fen ro) 0 P f args w R := callsIn_wide.2 h
theorem qP {P : Program} {f : FuncId} {args : Array Value} {w : World} {R : Ending → World → Prop} {ro : Option Nat} (h : CallsIn (fen ro) 0 P f args w R) : Calls P f args w R := callsIn_wide.1 h
def ay (P : Program) (f : FuncId) (g : Array Value → Store → Option (Value × Store)) : Prop :=
 ∀ args M v M', g args M = some (v, M') → ((∃ fn c, P.funcs[f]? = some fn ∧ fn.body = some c ∧ (fn.name == "runtime.NumGoroutine") = false) ∧ Grow M M') ∧
  ∀ μ w cargs, GOk μ w.shape? → Rel P μ M w → LRel (VRel P μ w.shape?) cargs.toList args.toList → Calls P f cargs w (fun e w' => ∃ cv, e = .returned cv ∧ Made P μ M w v M' cv w')
def dz (P : Program) (f : FuncId) (g : Array Value → Store → Option (Value × Store)) : Prop :=
 ∀ args M v M', g args M = some (v, M') → Grow M M' ∧ (∀ x ∈ args.toList, ∀ l a b, x ≠ .func (.yield l) a b) ∧
  ∀ μ w cargs, GOk μ w.shape? → Rel P μ M w → LRel (VRel P μ w.shape?) cargs.toList args.toList → ∃ cv w', (callFunc f cargs).run P w = .ok (.value cv) w' ∧ Made P μ M w v M' cv w'
def re (P : Program) (l : Nat) (g : Array Value → Store → Option (Value × Store)) : Prop :=
 ∀ args M v M', g args M = some (v, M') → Grow M M' ∧
  ∀ μ w cargs k, μ l = some k → GOk μ w.shape? → Rel P μ M w → LRel (VRel P μ w.shape?) cargs.toList args.toList → ∀ ro, ∃ f tmps x y, (Instr.yield k.b cargs).run P w = .ok (.round k.b f tmps x y) w ∧
   RoundIn (fen ro) 0 P k.b f tmps x y w (fun e w' => ∃ cv, e = .returned cv ∧ Made P μ M w v M' cv w')
structure CallOk (P : Program) (call : ap) : Prop where
 fn : ∀ f, ay P f (call true f) ∨ dz P f (call true f)
 round : ∀ l, re P l (call false l)
theorem CallOk.grow {P : Program} {call : ap} (h : CallOk P call) {g : Bool} {f : Nat} {args : Array Value} {M M' : Store} {v : Value} (hc : call g f args M = some (v, M')) : Grow M M' := by
 cases g with
 | true =>
  rcases h.fn f with h | h
  ·exact (h args M v M' hc).1.2
  ·exact (h args M v M' hc).1
 | false => exact (h.round f args M v M' hc).1
theorem jq {P : Program} {f : FuncId} {fn : Func} {c : Code} (hf : P.funcs[f]? = some fn) (hb : fn.body = some c) (hn : (fn.name == "runtime.NumGoroutine") = false) (args : Array Value) (w : World) :
    (callFunc f args).run P w = .ok (.enter f args) w := by
 have hn' : ¬ fn.name = "runtime.NumGoroutine" := by simpa using hn
 simp [callFunc, hf, hb, hn']
theorem bh {P : Program} {ρ : Operand → Value} {o : Op} {M : Store} {x : Sum Value (Bool × Nat × Array Value) × Store} (h : aop P ρ o M = some x) : ∀ c, o ≠ .defer c := by
 rintro c rfl
 simp [aop] at h
section
variable {P : Program} {o : Oper} {a : Act} {w w' : World} {K : Act → World → Prop} {Q : Exit → Act → World → Prop} {ro : Option Nat}
theorem fH (hd : ∀ c, o.op ≠ .defer c) {v : Value} (h : (execOp a.eval o).run P w = .ok (.value v) w') (hk : K (a.put o.dst v) w') : o.wpIn (fen ro) 0 P a w K Q :=
 ⟨fun _ _ => trivial, by rw [Oper.semAt_eq _ _ _ hd, h]; exact hk⟩
theorem ek (hd : ∀ c, o.op ≠ .defer c) (h : (execOp a.eval o).run P w = .ok .skip w') (hk : K (a.put o.dst undef) w') : o.wpIn (fen ro) 0 P a w K Q :=
 ⟨fun _ _ => trivial, by rw [Oper.semAt_eq _ _ _ hd, h]; exact hk⟩
theorem kc {call : ap} (hc : CallOk P call) (hd : ∀ c, o.op ≠ .defer c) {μ : Map} {M M1 M2 : Store} (hG : GOk μ w.shape?) (hR : Rel P μ M w) {g : Bool} {f : Nat} {args : Array Value} (hn : nk P μ M w (.inr (g, f, args)) M1 o a) {v : Value} (h : call g f args M1 = some (v, M2))
    (hk : ∀ cv w', Made P μ M w v M2 cv w' → K (a.put o.dst cv) w') : o.wpIn (fen ro) 0 P a w K Q := by
 refine ⟨fun _ _ => trivial, ?_⟩
 rw [Oper.semAt_eq _ _ _ hd]
 cases g with
 | true =>
  obtain ⟨rfl, cargs, hrun, hargs⟩ := hn
  rcases hc.fn f with hfn | hfn
  ·obtain ⟨⟨⟨fn, c, hf, hb, hn⟩, _⟩, hcc⟩ := hfn args _ v M2 h
   rw [hrun, jq hf hb hn]
   refine ⟨fun h => by simp [fen, Fence.wide] at h, (mE ro (hcc μ w cargs hG hR hargs)).mono fun e w' he => ?_⟩
   obtain ⟨cv, rfl, hM⟩ := he
   exact hk cv w' hM
  ·obtain ⟨_, _, hcc⟩ := hfn args _ v M2 h
   obtain ⟨cv, w', hx, hM⟩ := hcc μ w cargs hG hR hargs
   rw [hrun, hx]
   exact hk cv w' hM
 | false =>
  obtain ⟨rfl, k, cargs, hl, hrun, hargs⟩ := hn
  obtain ⟨_, hcc⟩ := hc.round f args _ v M2 h
  obtain ⟨fr, tmps, x, y, hy, hr⟩ := hcc μ w cargs k hl hG hR hargs ro
  rw [hrun, hy]
  refine ⟨fun h => by simp [fen, Fence.wide] at h, hr.mono fun e w' he => ?_⟩
  obtain ⟨cv, rfl, hM⟩ := he
  exact hk cv w' hM
end
theorem f3 (a : Act) (d : Option Tmp) (v : Value) (i : Nat) : (a.put d v).tmps.getD i undef = if d = some i ∧ i < a.tmps.size then v else a.tmps.getD i undef := by
 cases d with
 | none => simp [Act.put]
 | some d =>
  simp only [Act.put]
  by_cases hi : i < a.tmps.size
  ·by_cases hd : d = i
   ·subst hd; simp [Array.getD, hi]
   ·simp [Array.getD, hi, hd]
  ·simp [Array.getD, hi]
@[simp] theorem oi (a : Act) (d : Option Tmp) (v : Value) : (a.put d v).tmps.size = a.tmps.size := by cases d <;> simp [Act.put]
@[simp] theorem qb (a : Act) (d : Option Tmp) (v : Value) : (a.put d v).defers = a.defers := by cases d <;> rfl
theorem f0 (a : AAct) (d : Option Tmp) (v : Value) (i : Nat) : (a.put d v).get i = if d = some i ∧ a.t.has i = true then v else a.get i := by
 cases d with
 | none => simp [AAct.put]
 | some d =>
  simp only [AAct.put, AAct.get, PT.get_put, Option.some.injEq]
@[simp] theorem nB (a : AAct) (d : Option Tmp) (v : Value) (i : Nat) : (a.put d v).t.has i = a.t.has i := by cases d <;> simp [AAct.put, PT.has_put]
@[simp] theorem oE (a : AAct) (d : Option Tmp) (v : Value) : (a.put d v).defers = a.defers := by cases d <;> rfl
theorem qo {P : Program} {μ : Map} {sh : Shp} {ca : Act} {a : AAct} (hs : ∀ i, a.t.has i = true ↔ i < ca.tmps.size) (ops : Array Oper) (j : Nat)
    (h : ∀ d, (ops[j]?).bind (·.dst) = some d → VRel P μ sh (ca.tmps.getD d undef) (a.get d)) : yielded ops ca.tmps j = a.yielded ops j := by
 unfold yielded AAct.yielded
 cases hd : (ops[j]?).bind (·.dst) with
 | none => rfl
 | some d =>
  simp only [Option.bind_some]
  have ht := h d hd
  simp only [Array.getD, AAct.get] at ht
  by_cases hlt : d < ca.tmps.size
  ·rw [dif_pos hlt] at ht
   rw [Array.getElem?_eq_getElem hlt]
   simp only [Array.getInternal_eq_getElem] at ht
   generalize ca.tmps[d] = u at ht
   generalize a.t.get d = v at ht
   cases u <;> cases v <;> first
    | rfl
    | exact ht.elim
    | (obtain rfl : _ = _ := ht; rfl)
  ·have hn : a.t.has d = false := by
     cases hb : a.t.has d with
     | false => rfl
     | true => exact absurd ((hs d).1 hb) hlt
   rw [Array.getElem?_eq_none (xs := ca.tmps) (Nat.le_of_not_lt hlt), PT.get_none _ _ hn]
   rfl
theorem mQ {P : Program} {μ : Map} {sh : Shp} {ca : Act} {a : AAct} (hs : ∀ i, a.t.has i = true ↔ i < ca.tmps.size) (ops : Array Oper) (o : Oper)
    (h : ∀ d, d ∈ o.looksAt ops → VRel P μ sh (ca.tmps.getD d undef) (a.get d)) : Region.wanted o (yielded ops ca.tmps) = Region.wanted o (AAct.yielded ops a) := by
 unfold Region.wanted
 cases hg : o.guard with
 | none => rfl
 | some gw =>
  obtain ⟨g, want⟩ := gw
  simp only [qo hs ops g fun d hd => h d (by simp [Oper.looksAt, hg, hd])]
theorem hP {P : Program} {μ : Map} {sh : Shp} {a : AAct} {ca : Act} {ops : Array Oper} {o : Oper} (hG : GOk μ sh) (ho : hY o = true) (h : ∀ d, d ∈ o.looksAt ops → VRel P μ sh (ca.tmps.getD d undef) (a.get d)) :
    ∀ x ∈ o.op.operands.toList, VRel P μ sh (ca.eval x) (a.eval x) := by
 intro x hx
 have hc : g9 x = true := Array.all_eq_true_iff_forall_mem.1 ho x (by simpa using hx)
 cases x with
 | tmp t => exact h t (List.mem_append_left _ (List.mem_filterMap.2 ⟨.tmp t, hx, rfl⟩))
 | const v => exact kB (a := ⟨.fill 0 0, []⟩) (ca := ⟨#[], []⟩) hG (fun i => by rw [AAct.get, PT.get_fill]; exact VRel.undef) hc
 | func f => exact ⟨rfl, LRel.nil _, LRel.nil _⟩
 | global g => exact ll hG g
theorem iy {P : Program} {call : ap} (hc : CallOk P call) {ops : Array Oper} {o : Oper} {a a' : AAct} {M M' : Store} (h : aU P call ops o a M = some (a', M')) : Grow M M' := by
 unfold aU at h
 split at h
 ·split at h
  ·rename_i v M1 h1
   injection h with h; injection h with h h'; subst h'
   exact iw h1
  ·rename_i g f args M1 h1
   split at h
   ·rename_i v M2 h2
    injection h with h; injection h with h h'; subst h'
    exact (iw h1).trans (hc.grow h2)
   ·cases h
  ·cases h
 ·injection h with h; injection h with h h'; subst h'; exact .refl M
theorem jk {P : Program} {call : ap} {ops : Array Oper} {o : Oper} {a a' : AAct} {M M' : Store} (h : aU P call ops o a M = some (a', M')) : ∃ v, a' = a.put o.dst v := by
 unfold aU at h
 split at h
 ·split at h
  ·injection h with h; injection h with h h'; exact ⟨_, h.symm⟩
  ·split at h
   ·injection h with h; injection h with h h'; exact ⟨_, h.symm⟩
   ·cases h
  ·cases h
 ·injection h with h; injection h with h h'; exact ⟨_, h.symm⟩
noncomputable def Map.on (μ : Map) (p : Nat → Prop) : Map := fun b => if p b then μ b else none
theorem Map.on_le (μ : Map) (p : Nat → Prop) : MLe (μ.on p) μ := fun b l h => by
 unfold Map.on at h; split at h
 ·exact h
 ·cases h
theorem Map.on_sub {μ μ' : Map} {p q : Nat → Prop} (hm : MLe μ μ') (h : ∀ b, p b → q b) : MLe (μ.on p) (μ'.on q) := fun b l hb => by
 unfold Map.on at hb ⊢
 split at hb
 ·rename_i hp; rw [if_pos (h b hp)]; exact hm b l hb
 ·cases hb
theorem Map.on_some {μ : Map} {p : Nat → Prop} {b : Nat} {l : Loc} (h : μ.on p b = some l) : p b ∧ μ b = some l := by
 unfold Map.on at h; split at h
 ·rename_i hp; exact ⟨hp, h⟩
 ·cases h
theorem Map.on_eq {μ : Map} {p : Nat → Prop} {b : Nat} (h : p b) : μ.on p b = μ b := if_pos h
section
variable (ops : Array Oper) (S : Nat → AAct × Store) (T : Nat → List Nat) (B : Nat → Nat → Prop)
def New (i b : Nat) : Prop := (S i).2.n ≤ b ∧ b < (S (i + 1)).2.n
def Tch (i b : Nat) : Prop := (b ∈ T i ∧ b < (S i).2.n) ∨ New S i b
def Acc (i b : Nat) : Prop := b < (S 0).2.n ∨ ∃ j, B i j ∧ New S j b
def gI : Option Nat → Nat → Prop
 | none, b => b < (S 0).2.n
 | some j, b => Acc S B j b ∨ New S j b
def Rd (i b : Nat) : Prop := Acc S B i b ∧ ∀ o, ops[i]? = some o → fp o.op = true → b ∈ aA (S i).1.eval o.op
structure TraceOk (P : Program) (call : ap) : Prop where
 callok : CallOk P call
 ok : ∀ (i : Nat) (o : Oper), ops[i]? = some o → hY o = true
 step : ∀ (i : Nat) (o : Oper), ops[i]? = some o → aU P call ops o (S i).1 (S i).2 = some (S (i + 1))
 log : ∀ i, i < ops.size → (S (i + 1)).2.log = T i ++ (S i).2.log
 edge : ∀ (i : Nat) (o : Oper), ops[i]? = some o → ∀ j, B i j ↔ ∃ e ∈ o.after, Region.binds .any e = true ∧ (j = e.on ∨ B e.on j)
 edgeLt : ∀ (i : Nat) (o : Oper), ops[i]? = some o → ∀ e ∈ o.after, Region.binds .any e = true → e.on < i
 ssa : ∀ (i : Nat) (o : Oper) (j : Nat) (q : Oper) (d : Tmp), ops[i]? = some o → ops[j]? = some q → q.dst = some d → (d ∈ o.looksAt ops → B i j ∨ B j i) ∧ (i ≠ j → o.dst ≠ some d)
 cf : ∀ i b, i < ops.size → b ∈ T i → b < (S i).2.n → (S i).2.get b ≠ none ∧ Acc S B i b ∧ ∀ k, k < ops.size → k ≠ i → Rd ops S B k b → B i k ∨ B k i
end
section
variable {P : Program} {call : ap} {ops : Array Oper} {S : Nat → AAct × Store} {T : Nat → List Nat} {B : Nat → Nat → Prop}
theorem ef {i : Nat} (h : i < ops.size) : ∃ o, ops[i]? = some o := ⟨_, Array.getElem?_eq_getElem h⟩
theorem lt_of_get {i : Nat} {o : Oper} (h : ops[i]? = some o) : i < ops.size := (Array.getElem?_eq_some_iff.1 h).1
theorem TraceOk.lt (H : TraceOk ops S T B P call) : ∀ i j, i < ops.size → B i j → j < i := by
 intro i
 induction i using Nat.strongRecOn with
 | ind i ih =>
  intro j hi hb
  obtain ⟨o, ho⟩ := ef hi
  obtain ⟨e, he, hbi, h⟩ := (H.edge i o ho j).1 hb
  have h1 := H.edgeLt i o ho e he hbi
  rcases h with rfl | h
  ·exact h1
  ·exact Nat.lt_trans (ih e.on h1 j (Nat.lt_trans h1 hi) h) h1
theorem TraceOk.tr (H : TraceOk ops S T B P call) : ∀ i j k, i < ops.size → B i j → B j k → B i k := by
 intro i
 induction i using Nat.strongRecOn with
 | ind i ih =>
  intro j k hi hb hk
  obtain ⟨o, ho⟩ := ef hi
  obtain ⟨e, he, hbi, h⟩ := (H.edge i o ho j).1 hb
  have h1 := H.edgeLt i o ho e he hbi
  rcases h with rfl | h
  ·exact (H.edge i o ho k).2 ⟨e, he, hbi, .inr hk⟩
  ·exact (H.edge i o ho k).2 ⟨e, he, hbi, .inr (ih e.on h1 j k (Nat.lt_trans h1 hi) h hk)⟩
theorem TraceOk.grow (H : TraceOk ops S T B P call) {i : Nat} (hi : i < ops.size) : (S i).2.n ≤ (S (i + 1)).2.n ∧ ∀ b, b < (S i).2.n → b ∉ T i → (S (i + 1)).2.get b = (S i).2.get b := by
 obtain ⟨o, ho⟩ := ef hi
 obtain ⟨h1, t, h2, h3⟩ := iy H.callok (a := (S i).1) (M := (S i).2) (a' := (S (i + 1)).1) (M' := (S (i + 1)).2) (H.step i o ho)
 have : t = T i := by
  rw [H.log i hi] at h2
  exact (List.append_cancel_right h2).symm
 subst this
 exact ⟨h1, h3⟩
theorem TraceOk.mono (H : TraceOk ops S T B P call) {i j : Nat} (hij : i ≤ j) (hj : j ≤ ops.size) : (S i).2.n ≤ (S j).2.n := by
 induction j with
 | zero => rw [Nat.le_zero.1 hij]; exact Nat.le_refl _
 | succ j ih =>
  rcases Nat.lt_or_ge i (j + 1) with h | h
  ·exact Nat.le_trans (ih (by omega) (by omega)) (H.grow (by omega)).1
  ·rw [Nat.le_antisymm hij h]; exact Nat.le_refl _
theorem TraceOk.stay (H : TraceOk ops S T B P call) {j i b : Nat} (hij : j ≤ i) (hi : i ≤ ops.size) (hb : b < (S j).2.n) (hn : ∀ k, j ≤ k → k < i → b ∉ T k) : (S i).2.get b = (S j).2.get b := by
 induction i with
 | zero => rw [Nat.le_zero.1 hij]
 | succ i ih =>
  rcases Nat.lt_or_ge j (i + 1) with h | h
  ·rw [(H.grow (by omega)).2 b (Nat.lt_of_lt_of_le hb (H.mono (by omega) (by omega))) (hn i (by omega) (by omega))]
   exact ih (by omega) (by omega) fun k h1 h2 => hn k h1 (by omega)
  ·rw [Nat.le_antisymm hij h]
theorem TraceOk.uniq (H : TraceOk ops S T B P call) {j k b : Nat} (hj : j < ops.size) (hk : k < ops.size) (h1 : New S j b) (h2 : New S k b) : j = k := by
 rcases Nat.lt_trichotomy j k with h | h | h
 ·have := H.mono (i := j + 1) (j := k) h (by omega)
  have := h1.2; have := h2.1; omega
 ·exact h
 ·have := H.mono (i := k + 1) (j := j) h (by omega)
  have := h2.2; have := h1.1; omega
theorem TraceOk.tmp (H : TraceOk ops S T B P call) {j i t : Nat} (hij : j ≤ i) (hi : i ≤ ops.size) (hn : ∀ (k : Nat) (q : Oper), j ≤ k → k < i → ops[k]? = some q → q.dst ≠ some t) : (S i).1.get t = (S j).1.get t := by
 induction i with
 | zero => rw [Nat.le_zero.1 hij]
 | succ i ih =>
  rcases Nat.lt_or_ge j (i + 1) with h | h
  ·obtain ⟨o, ho⟩ := ef (ops := ops) (show i < ops.size by omega)
   obtain ⟨v, hv⟩ := jk (a' := (S (i + 1)).1) (M' := (S (i + 1)).2) (H.step i o ho)
   rw [hv, f0, if_neg fun h => hn i o (by omega) (by omega) ho h.1]
   exact ih (by omega) (by omega) fun k q h1 h2 => hn k q h1 (by omega)
  ·rw [Nat.le_antisymm hij h]
theorem TraceOk.size (H : TraceOk ops S T B P call) {i : Nat} (hi : i ≤ ops.size) : ∀ t, (S i).1.t.has t = (S 0).1.t.has t := by
 induction i with
 | zero => exact fun _ => rfl
 | succ i ih =>
  obtain ⟨o, ho⟩ := ef (ops := ops) (show i < ops.size by omega)
  obtain ⟨v, hv⟩ := jk (a' := (S (i + 1)).1) (M' := (S (i + 1)).2) (H.step i o ho)
  intro t; rw [hv, nB]; exact ih (by omega) t
def Cur (S : Nat → AAct × Store) (T : Nat → List Nat) (B : Nat → Nat → Prop) (n : Nat) (E : Nat → Prop) (b : Nat) (o : aJ) : Option Nat → Prop
 | none => b < (S 0).2.n ∧ o = (S 0).2.get b ∧ ∀ j, j < n → E j → b ∉ T j
 | some j => j < n ∧ E j ∧ Tch S T j b ∧ o = (S (j + 1)).2.get b ∧ ∀ k, k < n → E k → Tch S T k b → k = j ∨ B j k
structure Inv (P : Program) (ops : Array Oper) (S : Nat → AAct × Store) (T : Nat → List Nat) (B : Nat → Nat → Prop) (df : List Deferred) (μ0 : Map) (w0 : World) (E : Nat → Prop) (μ : Map) (w : World) (ca : Act) : Prop where
 size : ∀ t, (S 0).1.t.has t = true ↔ t < ca.tmps.size
 defers : ca.defers = df
 dom : ∀ b l, μ b = some l → (b < (S 0).2.n ∨ ∃ j, j < ops.size ∧ E j ∧ New S j b) ∧ l.b < w.heap.size
 obj : ∀ b l, μ b = some l → ∃ o s, Cur S T B ops.size E b o s ∧ ObjRel P (μ.on (gI S B s)) w l o
 excl : ∀ b b' l l', μ b = some l → μ b' = some l' → b ≠ b' → ∀ o s o' s', Cur S T B ops.size E b o s → Cur S T B ops.size E b' o' s' → o ≠ none → o' ≠ none → l.own = true → l.b ≠ l'.b
 old : ∀ t, (∀ (j : Nat) (q : Oper), ops[j]? = some q → E j → q.dst ≠ some t) → VRel P (μ.on (gI S B none)) w.shape? (ca.tmps.getD t undef) ((S 0).1.get t)
 done : ∀ (j : Nat) (q : Oper) (t : Tmp), ops[j]? = some q → E j → q.dst = some t → VRel P (μ.on (gI S B (some j))) w.shape? (ca.tmps.getD t undef) ((S (j + 1)).1.get t)
 le : MLe μ0 μ
 hsize : w0.heap.size ≤ w.heap.size
 os : w.os = w0.os
 tape : w.tape = w0.tape
 output : w.output = w0.output
 shp : SLe w0.shape? w.shape?
 frame : ∀ b, b < w0.heap.size → (∀ j, j < ops.size → E j → ∀ x ∈ T j, ∀ l, μ0 x = some l → l.own = true → l.b ≠ b) → w.heap[b]? = w0.heap[b]?
 fresh : ∀ i l, μ i = some l → μ0 i = some l ∨ ((S 0).2.n ≤ i ∧ True ∧ (w0.heap.size ≤ l.b ∨ ∃ j, j < ops.size ∧ E j ∧ ∃ x ∈ T j, ∃ k, μ0 x = some k ∧ k.own = true ∧ k.b = l.b))
theorem TraceOk.cur (H : TraceOk ops S T B P call) {E : Nat → Prop} (hE : ∀ j k, j < ops.size → E j → B j k → E k) {i : Nat} (hin : i < ops.size) (hi : ¬ E i) (hr : ∀ k, B i k → E k)
    {b : Nat} (hrd : Rd ops S B i b) {o : aJ} {s : Option Nat} (hc : Cur S T B ops.size E b o s) : o = (S i).2.get b ∧ ∀ b', gI S B s b' → Acc S B i b' := by
 cases s with
 | none =>
  obtain ⟨h1, h2, h3⟩ := hc
  refine ⟨?_, fun b' h => .inl h⟩
  rw [h2]
  refine (H.stay (Nat.zero_le i) (Nat.le_of_lt hin) h1 fun k _ hk hb => ?_).symm
  have hkn : k < ops.size := Nat.lt_trans hk hin
  have hbk : b < (S k).2.n := Nat.lt_of_lt_of_le h1 (H.mono (Nat.zero_le k) (Nat.le_of_lt hkn))
  rcases (H.cf k b hkn hb hbk).2.2 i hin (Nat.ne_of_gt hk) hrd with h | h
  ·have := H.lt k i hkn h; omega
  ·exact h3 k hkn (hr k h) hb
 | some j =>
  obtain ⟨hjn, hEj, ht, h2, h3⟩ := hc
  have hij : B i j := by
   rcases ht with ⟨h4, h5⟩ | h4
   ·rcases (H.cf j b hjn h4 h5).2.2 i hin (fun e => hi (e ▸ hEj)) hrd with h | h
    ·exact absurd (hE j i hjn hEj h) hi
    ·exact h
   ·rcases hrd.1 with h | ⟨j', h5, h6⟩
    ·have := H.mono (Nat.zero_le j) (Nat.le_of_lt hjn)
     have := h4.1; omega
    ·have hj' := H.lt i j' hin h5
     rw [H.uniq hjn (Nat.lt_trans hj' hin) h4 h6]; exact h5
  have hji := H.lt i j hin hij
  have hbj : b < (S (j + 1)).2.n := by
   rcases ht with ⟨h4, h5⟩ | h4
   ·exact Nat.lt_of_lt_of_le h5 (H.mono (Nat.le_succ j) hjn)
   ·exact h4.2
  refine ⟨?_, fun b' h => ?_⟩
  ·rw [h2]
   refine (H.stay hji (Nat.le_of_lt hin) hbj fun k hk1 hk hb => ?_).symm
   have hkn : k < ops.size := Nat.lt_trans hk hin
   have hbk : b < (S k).2.n := Nat.lt_of_lt_of_le hbj (H.mono hk1 (Nat.le_of_lt hkn))
   rcases (H.cf k b hkn hb hbk).2.2 i hin (Nat.ne_of_gt hk) hrd with h | h
   ·have := H.lt k i hkn h; omega
   ·rcases h3 k hkn (hr k h) (.inl ⟨hb, hbk⟩) with h | h
    ·omega
    ·have := H.lt j k hjn h; omega
  ·rcases h with (h | ⟨j2, h4, h5⟩) | h
   ·exact .inl h
   ·exact .inr ⟨j2, H.tr i j j2 hin hij h4, h5⟩
   ·exact .inr ⟨j, hij, h⟩
theorem ObjRel.keep {P : Program} {μ μ' : Map} {w w' : World} {l : Loc} {o : aJ} (h : ObjRel P μ w l o) (hm : MLe μ μ') (hs : SLe w.shape? w'.shape?) (hb : o ≠ none → w'.heap[l.b]? = w.heap[l.b]?) : ObjRel P μ' w' l o := by
 cases o with
 | none => trivial
 | some o =>
  cases o with
  | inl x =>
   obtain ⟨c, e, own⟩ := x
   obtain ⟨h1, cc, ce, fr, h2, h3, h4⟩ := h
   exact ⟨h1, cc, ce, fr, (hb (by simp)).trans h2, h3.mono fun _ _ => CRel.mono hm hs, h4⟩
  | inr x => exact ObjRel.mono hm hs (hb (by simp)) h
theorem TraceOk.accLt (H : TraceOk ops S T B P call) {i b : Nat} (hin : i < ops.size) (h : Acc S B i b) : b < (S i).2.n := by
 rcases h with h | ⟨j, h1, h2⟩
 ·exact Nat.lt_of_lt_of_le h (H.mono (Nat.zero_le i) (Nat.le_of_lt hin))
 ·exact Nat.lt_of_lt_of_le h2.2 (H.mono (H.lt i j hin h1) (Nat.le_of_lt hin))
theorem Inv.rel (H : TraceOk ops S T B P call) {E : Nat → Prop} (hE : ∀ j k, j < ops.size → E j → B j k → E k) {i : Nat} (hin : i < ops.size) (hi : ¬ E i) (hr : ∀ k, B i k → E k)
    {df : List Deferred} {μ0 μ : Map} {w0 w : World} {ca : Act} (I : Inv P ops S T B df μ0 w0 E μ w ca) {M0 : Store} (hn : M0.n = (S i).2.n)
    (hg : ∀ b, Acc S B i b → M0.get b ≠ none → M0.get b = (S i).2.get b ∧ Rd ops S B i b) : Rel P (μ.on (Acc S B i)) M0 w where
 dom b l h := by
  obtain ⟨h1, h2⟩ := Map.on_some h
  exact ⟨by rw [hn]; exact H.accLt hin h1, (I.dom b l h2).2⟩
 obj b l h := by
  obtain ⟨h1, h2⟩ := Map.on_some h
  by_cases hz : M0.get b = none
  ·rw [hz]; trivial
  ·obtain ⟨h3, h4⟩ := hg b h1 hz
   obtain ⟨o, s, h5, h6⟩ := I.obj b l h2
   obtain ⟨h7, h8⟩ := H.cur hE hin hi hr h4 h5
   rw [h3, ← h7]
   exact h6.keep (Map.on_sub (.refl _) h8) (.refl _) fun _ => rfl
 excl b b' l l' h h' hne hz hz' ho := by
  obtain ⟨h1, h2⟩ := Map.on_some h
  obtain ⟨h1', h2'⟩ := Map.on_some h'
  obtain ⟨h3, h4⟩ := hg b h1 hz
  obtain ⟨h3', h4'⟩ := hg b' h1' hz'
  obtain ⟨o, s, h5, h6⟩ := I.obj b l h2
  obtain ⟨o', s', h5', h6'⟩ := I.obj b' l' h2'
  have h7 := (H.cur hE hin hi hr h4 h5).1
  have h7' := (H.cur hE hin hi hr h4' h5').1
  exact I.excl b b' l l' h2 h2' hne o s o' s' h5 h5' (by rw [h7, ← h3]; exact hz) (by rw [h7', ← h3']; exact hz') ho
theorem Inv.look (H : TraceOk ops S T B P call) {E : Nat → Prop} (hE : ∀ j k, j < ops.size → E j → B j k → E k) {i : Nat} {o : Oper} (ho : ops[i]? = some o) (hi : ¬ E i) (hr : ∀ k, B i k → E k)
    {df : List Deferred} {μ0 μ : Map} {w0 w : World} {ca : Act} (I : Inv P ops S T B df μ0 w0 E μ w ca) : ∀ d, d ∈ o.looksAt ops → VRel P (μ.on (Acc S B i)) w.shape? (ca.tmps.getD d undef) ((S i).1.get d) := by
 intro d hd
 have hin := lt_of_get ho
 by_cases h : ∃ (j : Nat) (q : Oper), ops[j]? = some q ∧ q.dst = some d
 ·obtain ⟨j, q, hq, hqd⟩ := h
  have old : B j i → VRel P (μ.on (Acc S B i)) w.shape? (ca.tmps.getD d undef) ((S i).1.get d) := fun hji => by
   have hlt := H.lt j i (lt_of_get hq) hji
   have huniq : ∀ (k : Nat) (q' : Oper), ops[k]? = some q' → q'.dst = some d → k = j := fun k q' hq' hd' => by
    by_cases e : k = j
    ·exact e
    ·exact absurd hd' ((H.ssa k q' j q d hq' hq hqd).2 e)
   rw [H.tmp (Nat.zero_le i) (Nat.le_of_lt hin) fun k q' _ hk hq' hd' => by have := huniq k q' hq' hd'; omega]
   exact (I.old d fun k q' hq' hk hd' => hi (hE j i (lt_of_get hq) (huniq k q' hq' hd' ▸ hk) hji)).mono (Map.on_sub (.refl _) fun b' h => .inl h) (.refl _)
  rcases (H.ssa i o j q d ho hq hqd).1 hd with hij | hji
  case inr => exact old hji
  have hji := H.lt i j hin hij
  have h1 := I.done j q d hq (hr j hij) hqd
  rw [H.tmp (j := j + 1) hji (Nat.le_of_lt hin) fun k q' hk _ hq' => (H.ssa k q' j q d hq' hq hqd).2 (by omega)]
  refine h1.mono (Map.on_sub (.refl _) fun b' h => ?_) (.refl _)
  rcases h with (h | ⟨j2, h4, h5⟩) | h
  ·exact .inl h
  ·exact .inr ⟨j2, H.tr i j j2 hin hij h4, h5⟩
  ·exact .inr ⟨j, hij, h⟩
 ·have h' : ∀ (j : Nat) (q : Oper), ops[j]? = some q → q.dst ≠ some d := fun j q hq hd => h ⟨j, q, hq, hd⟩
  rw [H.tmp (Nat.zero_le i) (Nat.le_of_lt hin) fun k q _ _ hq => h' k q hq]
  exact (I.old d fun j q hq _ => h' j q hq).mono (Map.on_sub (.refl _) fun b' h => .inl h) (.refl _)
def Store.only (M : Store) (p : Nat → Bool) : Store := ⟨M.n, (List.range M.n).map (fun k => if p (M.n - 1 - k) then M.get (M.n - 1 - k) else none), M.log⟩
theorem Store.only_get (M : Store) (p : Nat → Bool) (b : Nat) : (M.only p).get b = if p b then M.get b else none := by
 by_cases h : b < M.n
 ·have h1 : M.n - 1 - b < M.n := by omega
  have h2 : M.n - 1 - (M.n - 1 - b) = b := by omega
  simp [Store.only, Store.get, h, h1, h2]
 ·rw [M.get_ge (Nat.le_of_not_lt h), Store.get_ge _ (show (M.only p).n ≤ b from Nat.le_of_not_lt h)]; simp
theorem Inv.next (H : TraceOk ops S T B P call) {E : Nat → Prop} (hE : ∀ j k, j < ops.size → E j → B j k → E k) {i : Nat} {o : Oper} (ho : ops[i]? = some o) (hi : ¬ E i) (hr : ∀ k, B i k → E k)
    {df : List Deferred} {μ0 μ : Map} {w0 w : World} {ca : Act} (I : Inv P ops S T B df μ0 w0 E μ w ca) (hT : fp o.op = true → ∀ x ∈ T i, x < (S i).2.n → x ∈ aA (S i).1.eval o.op) {M0 M1 : Store} (hn : M0.n = (S i).2.n) (hn1 : M1.n = (S (i + 1)).2.n) (hl : M1.log = T i ++ M0.log)
    (hg1 : ∀ b, (b ∈ T i ∧ b < (S i).2.n) ∨ New S i b → M1.get b = (S (i + 1)).2.get b) {v cv : Value} (hv : (S (i + 1)).1 = (S i).1.put o.dst v) {w' : World} (hM : Made P (μ.on (Acc S B i)) M0 w v M1 cv w') :
    ∃ μ', Inv P ops S T B df μ0 w0 (fun j => E j ∨ j = i) μ' w' (ca.put o.dst cv) := by
 obtain ⟨μi, hR, hS, hcv⟩ := hM
 have hin := lt_of_get ho
 obtain ⟨t, ht, hfr, hnew⟩ := hS.log
 have : t = T i := by rw [hl] at ht; exact (List.append_cancel_right ht).symm
 subst this
 have h0i : (S 0).2.n ≤ (S i).2.n := H.mono (Nat.zero_le i) (Nat.le_of_lt hin)
 have nacc : ∀ b, New S i b → ¬ Acc S B i b := fun b h h' => by
  have := H.accLt hin h'; have := h.1; omega
 have nE : ∀ b, New S i b → μ b = none := fun b h => by
  cases hm : μ b with
  | none => rfl
  | some l =>
   rcases (I.dom b l hm).1 with h1 | ⟨j, hj, hEj, h1⟩
   ·have := h.1; omega
   ·exact absurd (H.uniq hj hin h1 h ▸ hEj) hi
 let μ' : Map := fun b => if New S i b then μi b else μ b
 have mnew : ∀ b, New S i b → μ' b = μi b := fun b h => if_pos h
 have mold : ∀ b, ¬ New S i b → μ' b = μ b := fun b h => if_neg h
 have hle : MLe μ μ' := fun b l h => by
  rw [mold b fun hb => by rw [nE b hb] at h; cases h]; exact h
 have hi' : MLe μi (μ'.on (gI S B (some i))) := fun b l h => by
  by_cases hb : New S i b
  ·rw [Map.on_eq (show gI S B (some i) b from .inr hb), mnew b hb]; exact h
  ·rcases hnew b l h with h1 | ⟨h1, _, _⟩
   ·obtain ⟨h2, h3⟩ := Map.on_some h1
    rw [Map.on_eq (show gI S B (some i) b from .inl h2)]; exact hle b l h3
   ·exact absurd ⟨hn ▸ h1, hn1 ▸ (hR.dom b l h).1⟩ hb
 -- who was touched was there, and is the operation's own
 have touched : ∀ x l, x ∈ T i → μ x = some l → (μ.on (Acc S B i)) x = some l → ∀ ox sx, Cur S T B ops.size E x ox sx → ox ≠ none := by
  intro x l hx hm hmo ox sx hc
  have hax := (Map.on_some hmo).1
  have hxi := H.accLt hin hax
  obtain ⟨h1, h2, _⟩ := H.cf i x hin hx hxi
  have hrd : Rd ops S B i x := ⟨hax, fun o' ho' hlo => by
   rw [ho] at ho'; injection ho' with ho'; subst ho'
   exact hT hlo x hx hxi⟩
  rw [(H.cur hE hin hi hr hrd hc).1]; exact h1
 -- what holds now was so ahead, but for what was touched
 have back : ∀ b l ob s, μ b = some l → ¬ New S i b → Cur S T B ops.size (fun j => E j ∨ j = i) b ob s → ob ≠ none → ∃ ob' s', Cur S T B ops.size E b ob' s' ∧ ob' ≠ none := by
  intro b l ob s hm hb hc hne
  by_cases hx : b ∈ T i ∧ b < (S i).2.n
  ·obtain ⟨ox, sx, h1, _⟩ := I.obj b l hm
   exact ⟨ox, sx, h1, touched b l hx.1 hm (by rw [Map.on_eq (H.cf i b hin hx.1 hx.2).2.1]; exact hm) ox sx h1⟩
  ·have hnt : ¬ Tch S T i b := fun h => h.elim hx hb
   cases s with
   | none => exact ⟨ob, none, ⟨hc.1, hc.2.1, fun j hj hEj => hc.2.2 j hj (.inl hEj)⟩, hne⟩
   | some j =>
    obtain ⟨h1, h2, h3, h4, h5⟩ := hc
    have hji : j ≠ i := fun e => hnt (e ▸ h3)
    exact ⟨ob, some j, ⟨h1, h2.resolve_right hji, h3, h4, fun k hk hEk => h5 k hk (.inl hEk)⟩, hne⟩
 -- a new one's block is no other's
 have cB : ∀ b b' l l', New S i b → ¬ New S i b' → μi b = some l → μ b' = some l' → ∀ ob s ob' s', Cur S T B ops.size (fun j => E j ∨ j = i) b ob s → Cur S T B ops.size (fun j => E j ∨ j = i) b' ob' s' → ob ≠ none → ob' ≠ none → l.b ≠ l'.b := by
  intro b b' l l' hb hb' hm hm' ob s ob' s' hc hc' hne hne'
  rcases hnew b l hm with h1 | ⟨_, hown, h1⟩
  ·exact absurd (Map.on_some h1).1 (nacc b hb)
  ·rcases h1 with h1 | ⟨x, hx, k, hk, hko, hkb⟩
   ·have := (I.dom b' l' hm').2; omega
   ·obtain ⟨hax, hmx⟩ := Map.on_some hk
    obtain ⟨ob2, s2, hc2, hne2⟩ := back b' l' ob' s' hm' hb' hc' hne'
    by_cases hxb : x = b'
    ·subst hxb
     have hxi := H.accLt hin hax
     have e1 : M1.get b = ob := by
      rw [hg1 b (.inr hb)]
      cases s with
      | none => have := hc.1; have := hb.1; omega
      | some j =>
       obtain ⟨q1, q2, q3, q4, q5⟩ := hc
       rcases q5 i hin (.inr rfl) (.inr hb) with e | e
       ·rw [q4, e]
       ·rcases q3 with ⟨q3, q3'⟩ | q3
        ·have hEj : E j := q2.resolve_right fun e' => by
           subst e'; have := H.lt j j hin e; omega
         have := H.lt j i q1 e
         rcases (H.cf j b q1 q3 q3').2.1 with h | ⟨j2, h, h'⟩
         ·have := hb.1; omega
         ·have hj2 := H.lt j j2 q1 h
          rw [H.uniq (Nat.lt_trans hj2 q1) hin h' hb] at h
          exact absurd (hE j i q1 hEj h) hi
        ·rw [q4, H.uniq q1 hin q3 hb]
     have e2 : M1.get x = ob' := by
      rw [hg1 x (.inl ⟨hx, hxi⟩)]
      cases s' with
      | none => exact absurd hx (hc'.2.2 i hin (.inr rfl))
      | some j =>
       obtain ⟨q1, q2, q3, q4, q5⟩ := hc'
       rcases q5 i hin (.inr rfl) (.inl ⟨hx, hxi⟩) with e | e
       ·rw [q4, e]
       ·have hEj : E j := q2.resolve_right fun e' => by
          subst e'; have := H.lt j j hin e; omega
        exact absurd (hE j i q1 hEj e) hi
     exact hR.excl x b k l (hS.le x k hk) hm (fun e => hb' (e ▸ hb)) (by rw [e2]; exact hne') (by rw [e1]; exact hne) hko |> fun h => by
      rw [hmx] at hm'; injection hm' with hm'; rw [← hm']; exact h.symm
    ·obtain ⟨ox, sx, hcx, _⟩ := I.obj x k hmx
     rw [← hkb]
     exact I.excl x b' k l' hmx hm' hxb ox sx ob2 s2 hcx hc2 (touched x k hx hmx hk ox sx hcx) hne2 hko
 have hi'on : MLe (μ.on (Acc S B i)) (μ'.on (gI S B (some i))) := (hS.le).trans hi'
 have frame' : ∀ b, b < w.heap.size → (∀ x ∈ T i, ∀ l, μ x = some l → Acc S B i x → l.own = true → l.b ≠ b) → w'.heap[b]? = w.heap[b]? := fun b hb hq =>
  hfr b hb fun x hx l hxl ho' => hq x hx l (Map.on_some hxl).2 (Map.on_some hxl).1 ho'
 -- the last that touched, whoever it was
 have mine : ∀ b, b ∈ T i → b < (S i).2.n → ∀ k, k < ops.size → E k → Tch S T k b → B i k := by
  intro b hb hbi k hk hEk ht
  obtain ⟨h1, h2, _⟩ := H.cf i b hin hb hbi
  have hrd : Rd ops S B i b := ⟨h2, fun o' ho' hlo => by
   rw [ho] at ho'; injection ho' with ho'; subst ho'
   exact hT hlo b hb hbi⟩
  rcases ht with ⟨h3, h4⟩ | h3
  ·rcases (H.cf k b hk h3 h4).2.2 i hin (fun e => hi (e ▸ hEk)) hrd with h | h
   ·exact absurd (hE k i hk hEk h) hi
   ·exact h
  ·rcases h2 with h | ⟨j, h4, h5⟩
   ·have := H.mono (Nat.zero_le k) (Nat.le_of_lt hk); have := h3.1; omega
   ·rw [H.uniq hk (Nat.lt_trans (H.lt i j hin h4) hin) h3 h5]; exact h4
 refine ⟨μ', ?_⟩
 refine { size := by intro t; rw [oi]; exact I.size t, defers := by rw [qb]; exact I.defers, dom := ?_, obj := ?_, excl := ?_, old := ?_, done := ?_, le := I.le.trans hle, hsize := Nat.le_trans I.hsize hS.size, os := hS.os.trans I.os, tape := hS.tape.trans I.tape, output := hS.output.trans I.output, shp := I.shp.trans hS.shp, frame := ?_, fresh := ?_ }
 ·intro b l hm
  by_cases hb : New S i b
  ·rw [mnew b hb] at hm
   exact ⟨.inr ⟨i, hin, .inr rfl, hb⟩, (hR.dom b l hm).2⟩
  ·rw [mold b hb] at hm
   obtain ⟨h1, h2⟩ := I.dom b l hm
   exact ⟨h1.imp id fun ⟨j, h3, h4, h5⟩ => ⟨j, h3, .inl h4, h5⟩, Nat.lt_of_lt_of_le h2 hS.size⟩
 ·intro b l hm
  by_cases hb : New S i b
  ·rw [mnew b hb] at hm
   refine ⟨(S (i + 1)).2.get b, some i, ⟨hin, .inr rfl, .inr hb, rfl, fun k hk hEk ht => ?_⟩, ?_⟩
   ·rcases hEk with hEk | rfl
    ·rcases ht with ⟨h3, h4⟩ | h3
     ·rcases (H.cf k b hk h3 h4).2.1 with h | ⟨j2, h, h'⟩
      ·have := hb.1; omega
      ·rw [H.uniq (Nat.lt_trans (H.lt k j2 hk h) hk) hin h' hb] at h
       exact absurd (hE k i hk hEk h) hi
     ·exact .inl (H.uniq hk hin h3 hb)
    ·exact .inl rfl
   ·rw [← hg1 b (.inr hb)]
    exact (hR.obj b l hm).keep hi' (.refl _) fun _ => rfl
  ·rw [mold b hb] at hm
   by_cases hx : b ∈ T i ∧ b < (S i).2.n
   ·have hax := (H.cf i b hin hx.1 hx.2).2.1
    refine ⟨(S (i + 1)).2.get b, some i, ⟨hin, .inr rfl, .inl hx, rfl, fun k hk hEk ht => ?_⟩, ?_⟩
    ·rcases hEk with hEk | rfl
     ·exact .inr (mine b hx.1 hx.2 k hk hEk ht)
     ·exact .inl rfl
    ·rw [← hg1 b (.inl hx)]
     exact (hR.obj b l (hS.le b l (by rw [Map.on_eq hax]; exact hm))).keep hi' (.refl _) fun _ => rfl
   ·have hnt : ¬ Tch S T i b := fun h => h.elim hx hb
    obtain ⟨ob, s, hc, hobj⟩ := I.obj b l hm
    refine ⟨ob, s, ?_, hobj.keep (Map.on_sub hle fun _ h => h) hS.shp fun hne => frame' l.b (I.dom b l hm).2 fun x hx' lx hlx hax ho' => ?_⟩
    ·cases s with
     | none => exact ⟨hc.1, hc.2.1, fun j hj hEj => hEj.elim (hc.2.2 j hj) fun e => e ▸ fun hbT => hx ⟨hbT, Nat.lt_of_lt_of_le hc.1 h0i⟩⟩
     | some j =>
      obtain ⟨h1, h2, h3, h4, h5⟩ := hc
      exact ⟨h1, .inl h2, h3, h4, fun k hk hEk ht => hEk.elim (fun h => h5 k hk h ht) fun e => absurd (e ▸ ht) hnt⟩
    ·obtain ⟨ox, sx, hcx, _⟩ := I.obj x lx hlx
     exact I.excl x b lx l hlx hm (fun e => hx ⟨e ▸ hx', e ▸ H.accLt hin hax⟩) ox sx ob s hcx hc (touched x lx hx' hlx (by rw [Map.on_eq hax]; exact hlx) ox sx hcx) hne ho'
 ·intro b b' l l' hm hm' hne ob s ob' s' hc hc' hz hz' ho'
  by_cases hb : New S i b
  ·rw [mnew b hb] at hm
   by_cases hb' : New S i b'
   ·rw [mnew b' hb'] at hm'
    have ev : ∀ b ob s, New S i b → Cur S T B ops.size (fun j => E j ∨ j = i) b ob s → M1.get b = ob := by
     intro b ob s hb hc
     rw [hg1 b (.inr hb)]
     cases s with
     | none => have := hc.1; have := hb.1; omega
     | some j =>
      obtain ⟨q1, q2, q3, q4, q5⟩ := hc
      rcases q5 i hin (.inr rfl) (.inr hb) with e | e
      ·rw [q4, e]
      ·rcases q3 with ⟨q3, q3'⟩ | q3
       ·have hEj : E j := q2.resolve_right fun e' => by
          subst e'; have := H.lt j j hin e; omega
        exact absurd (hE j i q1 hEj e) hi
       ·rw [q4, H.uniq q1 hin q3 hb]
    exact hR.excl b b' l l' hm hm' hne (by rw [ev b ob s hb hc]; exact hz) (by rw [ev b' ob' s' hb' hc']; exact hz') ho'
   ·rw [mold b' hb'] at hm'
    exact cB b b' l l' hb hb' hm hm' ob s ob' s' hc hc' hz hz'
  ·rw [mold b hb] at hm
   by_cases hb' : New S i b'
   ·rw [mnew b' hb'] at hm'
    exact (cB b' b l' l hb' hb hm' hm ob' s' ob s hc' hc hz' hz).symm
   ·rw [mold b' hb'] at hm'
    obtain ⟨o1, s1, c1, z1⟩ := back b l ob s hm hb hc hz
    obtain ⟨o2, s2, c2, z2⟩ := back b' l' ob' s' hm' hb' hc' hz'
    exact I.excl b b' l l' hm hm' hne o1 s1 o2 s2 c1 c2 z1 z2 ho'
 ·intro t ht
  rw [f3, if_neg fun h => ht i o ho (.inr rfl) h.1]
  exact (I.old t fun j q hq hEj => ht j q hq (.inl hEj)).mono (Map.on_sub hle fun _ h => h) hS.shp
 ·intro j q t hq hEj hqt
  by_cases hji : j = i
  ·subst hji
   rw [ho] at hq; injection hq with hq; subst hq
   rw [hv, f3, f0, hqt]
   have hsz : ∀ t, (S j).1.t.has t = true ↔ t < ca.tmps.size := fun t => by rw [H.size (Nat.le_of_lt hin)]; exact I.size t
   by_cases hts : t < ca.tmps.size
   ·rw [if_pos ⟨rfl, hts⟩, if_pos ⟨rfl, (hsz t).2 hts⟩]
    exact hcv.mono hi' (.refl _)
   ·rw [if_neg fun h => hts h.2, if_neg fun h => hts ((hsz t).1 h.2)]
    have e1 : ca.tmps.getD t undef = undef := by simp [Array.getD, hts]
    have e2 : (S j).1.get t = undef := PT.get_none _ _ (by cases hb : (S j).1.t.has t with | false => rfl | true => exact absurd ((hsz t).1 hb) hts)
    rw [e1, e2]; exact VRel.undef
  ·have hEj' := hEj.resolve_right hji
   rw [f3, if_neg fun h => (H.ssa i o j q t ho hq hqt).2 (Ne.symm hji) h.1]
   exact (I.done j q t hq hEj' hqt).mono (Map.on_sub hle fun _ h => h) hS.shp
 ·intro b hb hq
  have h1 : w'.heap[b]? = w.heap[b]? := frame' b (Nat.lt_of_lt_of_le hb I.hsize) fun x hx l hl hax ho' hlb => by
   rcases I.fresh x l hl with h | ⟨_, h2, h3⟩
   ·exact hq i hin (.inr rfl) x hx l h ho' hlb
   ·rcases h3 with h3 | ⟨j, hj, hEj, y, hy, k, hk, hko, hkb⟩
    ·omega
    ·exact hq j hj (.inl hEj) y hy k hk hko (hkb.trans hlb)
  rw [h1]
  exact I.frame b hb fun j hj hEj => hq j hj (.inl hEj)
 ·intro b l hm
  by_cases hb : New S i b
  ·rw [mnew b hb] at hm
   rcases hnew b l hm with h1 | ⟨_, hown, h1⟩
   ·exact absurd (Map.on_some h1).1 (nacc b hb)
   ·refine .inr ⟨Nat.le_trans h0i hb.1, hown, ?_⟩
    rcases h1 with h1 | ⟨x, hx, k, hk, hko, hkb⟩
    ·exact .inl (Nat.le_trans I.hsize h1)
    ·rcases I.fresh x k (Map.on_some hk).2 with h | ⟨_, h2, h3⟩
     ·exact .inr ⟨i, hin, .inr rfl, x, hx, k, h, hko, hkb⟩
     ·rcases h3 with h3 | ⟨j, hj, hEj, y, hy, k', hk', hko', hkb'⟩
      ·exact .inl (hkb ▸ h3)
      ·exact .inr ⟨j, hj, .inl hEj, y, hy, k', hk', hko', hkb'.trans hkb⟩
  ·rw [mold b hb] at hm
   rcases I.fresh b l hm with h | ⟨h1, h2, h3⟩
   ·exact .inl h
   ·exact .inr ⟨h1, h2, h3.imp id fun ⟨j, hj, hEj, r⟩ => ⟨j, hj, .inl hEj, r⟩⟩
theorem Inv.op (H : TraceOk ops S T B P call) {E : Nat → Prop} (hE : ∀ j k, j < ops.size → E j → B j k → E k) {i : Nat} {o : Oper} (ho : ops[i]? = some o) (hi : ¬ E i) (hr : ∀ k, B i k → E k)
    {df : List Deferred} {μ0 μ : Map} {w0 w : World} {ca : Act} (hG0 : GOk μ0 w0.shape?) (hGn : ∀ g i, gix a7 0 g = some i → i < (S 0).2.n) (I : Inv P ops S T B df μ0 w0 E μ w ca) {ro : Option Nat} {Q : Exit → Act → World → Prop} {K : Act → World → Prop}
    (hK : ∀ ca' μ' w', Inv P ops S T B df μ0 w0 (fun j => E j ∨ j = i) μ' w' ca' → K ca' w') : wpOpIn (fen ro) 0 P ops Q i K ca w := by
 have hin := lt_of_get ho
 have hG : GOk (μ.on (Acc S B i)) w.shape? := fun g b e => ⟨by rw [Map.on_eq (show Acc S B i b from .inl (hGn g b e))]; exact I.le _ _ (hG0 g b e).1, (hG0 g b e).2.imp fun _ k => I.shp _ _ k⟩
 have look := I.look H hE ho hi hr
 have hsz : ∀ t, (S i).1.t.has t = true ↔ t < ca.tmps.size := fun t => by rw [H.size (Nat.le_of_lt hin)]; exact I.size t
 have hst := H.step i o ho
 have hlog := H.log i hin
 unfold wpOpIn
 simp only [ho]
 rw [mQ hsz ops o look]
 unfold aU at hst
 -- nothing was touched
 have quiet : ∀ p : Option aJ, (S (i + 1)).2 = (S i).2.pushO p → T i = [] := fun p hp => by
  rw [hp] at hlog
  have : (S i).2.log = T i ++ (S i).2.log := by cases p <;> exact hlog
  exact List.append_left_eq_self.1 this.symm
 have blank : ∀ q : Nat → Bool, (∀ b, q b = true → ∀ o', ops[i]? = some o' → fp o'.op = true → b ∈ aA (S i).1.eval o'.op) → Rel P (μ.on (Acc S B i)) ((S i).2.only q) w := fun q hq =>
  I.rel H hE hin hi hr rfl fun b hb hz => by
   rw [Store.only_get] at hz ⊢
   split at hz
   ·rename_i h; rw [if_pos h]; exact ⟨rfl, hb, hq b h⟩
   ·exact absurd rfl hz
 split at hst
 ·rename_i hw
  rw [if_pos hw]
  cases hli : fp o.op with
  | true =>
   have hq : Rel P (μ.on (Acc S B i)) ((S i).2.only fun b => (aA (S i).1.eval o.op).contains b) w := blank _ fun b hb o' ho' _ => by
    rw [ho] at ho'; injection ho' with ho'; subst ho'
    simpa using hb
   cases hll : a6 o.op with
   | true =>
    split at hst
    ·rename_i v M1 h1
     obtain ⟨v', p, hv', hp, h2⟩ := gp hll h1
     injection hv' with hv'; subst hv'
     injection hst with hst
     have e1 : (S (i + 1)).1 = (S i).1.put o.dst v := by rw [← hst]
     have e2 : (S (i + 1)).2 = (S i).2.pushO p := by rw [← hst]; exact hp
     have h3 := h2 ((S i).2.only fun b => (aA (S i).1.eval o.op).contains b) rfl fun b hb => by rw [Store.only_get, if_pos (by simpa using hb)]
     have hN := fJ hq (hP hG (H.ok i o ho) look) h3
     obtain ⟨cv, w', hrun, hM⟩ := hN
     have hTi := quiet p e2
     obtain ⟨μ', hI⟩ := I.next H hE ho hi hr (fun _ x hx => by rw [hTi] at hx; cases hx) (M0 := (S i).2.only fun b => (aA (S i).1.eval o.op).contains b) (M1 := ((S i).2.only fun b => (aA (S i).1.eval o.op).contains b).pushO p) rfl (by rw [e2]; cases p <;> rfl) (by rw [hTi]; cases p <;> rfl)
      (fun b hb => by
       rw [hTi] at hb
       rcases hb with hb | hb
       ·cases hb.1
       ·unfold New at hb
        rw [e2] at hb ⊢
        cases p with
        | none => have := hb.1; have := hb.2; simp only [Store.pushO] at this; omega
        | some ob =>
         have hb1 := hb.1
         have hb2 : b < (S i).2.n + 1 := hb.2
         obtain rfl : b = (S i).2.n := by omega
         simp only [Store.pushO]
         rw [Store.get_push_eq]
         exact Store.get_push_eq _ _) e1 hM
     rcases hrun with hrun | ⟨hrun, rfl⟩
     ·exact fH (bh h1) hrun (hK _ μ' w' hI)
     ·exact ek (bh h1) hrun (hK _ μ' w' hI)
    ·rename_i g f args M1 h1
     obtain ⟨v', p, hv', _⟩ := gp hll h1
     cases hv'
    ·cases hst
   | false =>
    have hla : nD o.op = true := by unfold fp at hli; rw [hll, Bool.false_or] at hli; exact hli
    split at hst
    ·rename_i v M1 h1
     obtain ⟨v', k, p, hv', hp, hkk, h2⟩ := oY hla h1
     injection hv' with hv'; subst hv'
     injection hst with hst
     have e1 : (S (i + 1)).1 = (S i).1.put o.dst v := by rw [← hst]
     have e2 : (S (i + 1)).2 = ((S i).2.dropO k).pushO p := by rw [← hst]; exact hp
     have h3 := h2 ((S i).2.only fun b => (aA (S i).1.eval o.op).contains b) rfl fun b hb => by rw [Store.only_get, if_pos (by simpa using hb)]
     have hN := fJ hq (hP hG (H.ok i o ho) look) h3
     obtain ⟨cv, w', hrun, hM⟩ := hN
     have hTk : T i = k.toList := by
      rw [e2] at hlog
      have e3 : (((S i).2.dropO k).pushO p).log = k.toList ++ (S i).2.log := by
       rw [Store.pushO_log]
       cases k with
       | none => rfl
       | some b => exact Store.set_log' _ _ (hkk b rfl).1
      rw [e3] at hlog
      exact (List.append_cancel_right hlog).symm
     have hrd : ∀ x ∈ T i, x ∈ aA (S i).1.eval o.op := fun x hx => by
      rw [hTk] at hx
      exact (hkk x (by simpa using hx)).2
     have hN0 : ∀ M0 : Store, ((M0.dropO k).pushO p).n = M0.n + (if p.isSome = true then 1 else 0) := fun M0 => by
      have : (M0.dropO k).n = M0.n := by
       cases k with
       | none => rfl
       | some b => exact Store.set_n _ _ _
      cases p <;> simp [Store.pushO, this]
     obtain ⟨μ', hI⟩ := I.next H hE ho hi hr (fun _ x hx _ => hrd x hx) (M0 := (S i).2.only fun b => (aA (S i).1.eval o.op).contains b) (M1 := (((S i).2.only fun b => (aA (S i).1.eval o.op).contains b).dropO k).pushO p) rfl
      (by rw [e2, hN0, hN0]; rfl)
      (by
       rw [Store.pushO_log, hTk]
       cases k with
       | none => rfl
       | some b => exact Store.set_log' _ _ (hkk b rfl).1)
      (fun b hb => by
       rw [e2]
       have hnd : ∀ M0 : Store, (M0.dropO k).n = M0.n := fun M0 => by
        cases k with
        | none => rfl
        | some b => exact Store.set_n _ _ _
       rcases hb with ⟨hb, hbn⟩ | hb
       ·have hkb : k = some b := by rw [hTk] at hb; simpa using hb
        have hg : ∀ M0 : Store, b < M0.n → ((M0.dropO k).pushO p).get b = none := fun M0 hlt => by
         rw [Store.pushO_get _ _ (by rw [hnd]; omega), hkb]
         exact Store.set_none_get _ _
        refine (hg _ ?_).trans (hg _ ?_).symm <;> exact hbn
       ·unfold New at hb
        rw [e2, hN0] at hb
        cases p with
        | none => simp at hb; omega
        | some ob =>
         have hb1 := hb.1
         have hb2 : b < (S i).2.n + 1 := hb.2
         obtain rfl : b = (S i).2.n := by omega
         simp only [Store.pushO]
         have q2 : ∀ M0 : Store, M0.n = (S i).2.n → ((M0.dropO k).push ob).get (S i).2.n = ob := fun M0 h => by
          have := Store.get_push_eq (M0.dropO k) ob
          rw [hnd, h] at this; exact this
         refine (q2 _ ?_).trans (q2 _ ?_).symm <;> rfl) e1 hM
     rcases hrun with hrun | ⟨hrun, rfl⟩
     ·exact fH (bh h1) hrun (hK _ μ' w' hI)
     ·exact ek (bh h1) hrun (hK _ μ' w' hI)
    ·rename_i g f args M1 h1
     obtain ⟨v', k, p, hv', _⟩ := oY hla h1
     cases hv'
    ·cases hst
  | false =>
   have hq : Rel P (μ.on (Acc S B i)) (S i).2 w := I.rel H hE hin hi hr rfl fun b hb _ => ⟨rfl, hb, fun o' ho' hl => by
    rw [ho] at ho'; injection ho' with ho'; subst ho'
    rw [hli] at hl; cases hl⟩
   have nx : ∀ v cv w', (S (i + 1)).1 = (S i).1.put o.dst v → Made P (μ.on (Acc S B i)) (S i).2 w v (S (i + 1)).2 cv w' → K (ca.put o.dst cv) w' := fun v cv w' e1 hM => by
    obtain ⟨μ', hI⟩ := I.next H hE ho hi hr (fun h => by rw [hli] at h; cases h) (M0 := (S i).2) (M1 := (S (i + 1)).2) rfl rfl hlog (fun _ _ => rfl) e1 hM
    exact hK _ μ' w' hI
   split at hst
   ·rename_i v M1 h1
    injection hst with hst
    have e1 : (S (i + 1)).1 = (S i).1.put o.dst v := by rw [← hst]
    have e2 : (S (i + 1)).2 = M1 := by rw [← hst]
    have hN := fJ hq (hP hG (H.ok i o ho) look) h1
    obtain ⟨cv, w', hrun, hM⟩ := hN
    rw [← e2] at hM
    rcases hrun with hrun | ⟨hrun, rfl⟩
    ·exact fH (bh h1) hrun (nx v cv w' e1 hM)
    ·exact ek (bh h1) hrun (nx v undef w' e1 hM)
   ·rename_i g f args M1 h1
    have hN := fJ hq (hP hG (H.ok i o ho) look) h1
    split at hst
    ·rename_i v M2 h2
     injection hst with hst
     have e1 : (S (i + 1)).1 = (S i).1.put o.dst v := by rw [← hst]
     have e2 : (S (i + 1)).2 = M2 := by rw [← hst]
     exact kc H.callok (bh h1) hG hq hN h2 fun cv w' hM => nx v cv w' e1 (by rw [e2]; exact hM)
    ·cases hst
   ·cases hst
 ·rename_i hw
  rw [if_neg hw]
  refine ⟨fun _ _ => trivial, ?_⟩
  injection hst with hst
  have e1 : (S (i + 1)).1 = (S i).1.put o.dst undef := by rw [← hst]
  have e2 : (S (i + 1)).2 = (S i).2.pushO none := by rw [← hst]; rfl
  have hTi := quiet none e2
  have hq : Rel P (μ.on (Acc S B i)) ((S i).2.only fun _ => false) w := blank _ fun b hb => by cases hb
  obtain ⟨μ', hI⟩ := I.next H hE ho hi hr (fun _ x hx => by rw [hTi] at hx; cases hx) (M0 := (S i).2.only fun _ => false) (M1 := (S i).2.only fun _ => false) rfl (by rw [e2]; rfl) (by rw [hTi]; rfl)
   (fun b hb => by
    rw [hTi] at hb
    rcases hb with hb | hb
    ·cases hb.1
    ·unfold New at hb; rw [e2] at hb
     have := hb.1; have := hb.2; simp only [Store.pushO] at this; omega) e1 (Made.pure hq (v := undef) (cv := undef) VRel.undef)
  exact hK _ μ' w hI
theorem Inv.init (H : TraceOk ops S T B P call) {df : List Deferred} {μ : Map} {w : World} {ca : Act} (hR : Rel P μ (S 0).2 w) (hsz : ∀ t, (S 0).1.t.has t = true ↔ t < ca.tmps.size) (hd : ca.defers = df)
    (ht : ∀ i : Nat, VRel P μ w.shape? (ca.tmps.getD i undef) ((S 0).1.get i)) : Inv P ops S T B df μ w (fun _ => False) μ w ca := by
 have on : MLe μ (μ.on (gI S B none)) := fun b l h => by rw [Map.on_eq (show gI S B none b from (hR.dom b l h).1)]; exact h
 have cu : ∀ b ob s, Cur S T B ops.size (fun _ => False) b ob s → ob = (S 0).2.get b := by
  intro b ob s hc
  cases s with
  | none => exact hc.2.1
  | some j => exact hc.2.1.elim
 exact { size := hsz, defers := hd, dom := fun b l h => ⟨.inl (hR.dom b l h).1, (hR.dom b l h).2⟩,
         obj := fun b l h => ⟨(S 0).2.get b, none, ⟨(hR.dom b l h).1, rfl, fun _ _ h => h.elim⟩, (hR.obj b l h).keep on (.refl _) fun _ => rfl⟩,
         excl := fun b b' l l' h h' hne ob s ob' s' hc hc' hz hz' => hR.excl b b' l l' h h' hne (by rw [← cu b ob s hc]; exact hz) (by rw [← cu b' ob' s' hc']; exact hz'),
         old := fun t _ => (ht t).mono on (.refl _), done := fun _ _ _ _ h => h.elim, le := .refl _, hsize := Nat.le_refl _, os := rfl, tape := rfl, output := rfl, shp := .refl _, frame := fun _ _ _ => rfl, fresh := fun _ _ h => .inl h }
theorem Inv.fin (H : TraceOk ops S T B P call) {df : List Deferred} {μ0 μ : Map} {w0 w : World} {ca : Act} {E : Nat → Prop} (hall : ∀ j, j < ops.size → E j) (I : Inv P ops S T B df μ0 w0 E μ w ca) :
    Step μ0 (S 0).2 w0 μ (S ops.size).2 w ∧ Rel P μ (S ops.size).2 w ∧ (∀ i : Nat, VRel P μ w.shape? (ca.tmps.getD i undef) ((S ops.size).1.get i)) := by
 have cu : ∀ b ob s, Cur S T B ops.size E b ob s → ob = (S ops.size).2.get b := by
  intro b ob s hc
  cases s with
  | none => rw [hc.2.1]; exact (H.stay (Nat.zero_le _) (Nat.le_refl _) hc.1 fun k _ hk => hc.2.2 k hk (hall k hk)).symm
  | some j =>
   obtain ⟨h1, h2, h3, h4, h5⟩ := hc
   rw [h4]
   have hbj : b < (S (j + 1)).2.n := by
    rcases h3 with ⟨h4, h5⟩ | h4
    ·exact Nat.lt_of_lt_of_le h5 (H.mono (Nat.le_succ j) h1)
    ·exact h4.2
   refine (H.stay h1 (Nat.le_refl _) hbj fun k hk1 hk hb => ?_).symm
   rcases h5 k hk (hall k hk) (.inl ⟨hb, Nat.lt_of_lt_of_le hbj (H.mono hk1 (Nat.le_of_lt hk))⟩) with h | h
   ·omega
   ·have := H.lt j k h1 h; omega
 have logs : ∀ i, i ≤ ops.size → ∃ t, (S i).2.log = t ++ (S 0).2.log ∧ ∀ j, j < i → ∀ x ∈ T j, x ∈ t := by
  intro i
  induction i with
  | zero => intro _; exact ⟨[], rfl, fun j hj => by omega⟩
  | succ i ih =>
   intro hi
   obtain ⟨t, h1, h2⟩ := ih (by omega)
   refine ⟨T i ++ t, by rw [H.log i hi, h1, List.append_assoc], fun j hj x hx => ?_⟩
   rcases Nat.lt_or_ge j i with h | h
   ·exact List.mem_append_right _ (h2 j h x hx)
   ·obtain rfl : j = i := by omega
    exact List.mem_append_left _ hx
 obtain ⟨t, ht, htm⟩ := logs ops.size (Nat.le_refl _)
 refine ⟨⟨I.le, H.mono (Nat.zero_le _) (Nat.le_refl _), I.hsize, I.os, I.tape, I.output, I.shp, t, ht, fun b hb hq => ?_, fun b l h => ?_⟩, ⟨fun b l h => ?_, fun b l h => ?_, fun b b' l l' h h' hne hz hz' => ?_⟩, fun i => ?_⟩
 ·exact I.frame b hb fun j hj _ x hx => hq x (htm j hj x hx)
 ·rcases I.fresh b l h with h | ⟨h1, h2, h3⟩
  ·exact .inl h
  ·exact .inr ⟨h1, h2, h3.imp id fun ⟨j, hj, _, x, hx, r⟩ => ⟨x, htm j hj x hx, r⟩⟩
 ·obtain ⟨h1, h2⟩ := I.dom b l h
  refine ⟨?_, h2⟩
  rcases h1 with h1 | ⟨j, hj, _, h1⟩
  ·exact Nat.lt_of_lt_of_le h1 (H.mono (Nat.zero_le _) (Nat.le_refl _))
  ·exact Nat.lt_of_lt_of_le h1.2 (H.mono hj (Nat.le_refl _))
 ·obtain ⟨ob, s, hc, ho⟩ := I.obj b l h
  rw [← cu b ob s hc]
  exact ho.keep (Map.on_le _ _) (.refl _) fun _ => rfl
 ·obtain ⟨ob, s, hc, _⟩ := I.obj b l h
  obtain ⟨ob', s', hc', _⟩ := I.obj b' l' h'
  exact I.excl b b' l l' h h' hne ob s ob' s' hc hc' (by rw [cu b ob s hc]; exact hz) (by rw [cu b' ob' s' hc']; exact hz')
 ·by_cases h : ∃ (j : Nat) (q : Oper), ops[j]? = some q ∧ q.dst = some i
  ·obtain ⟨j, q, hq, hqd⟩ := h
   have hj := lt_of_get hq
   rw [H.tmp (j := j + 1) hj (Nat.le_refl _) fun k q' hk _ hq' => (H.ssa k q' j q i hq' hq hqd).2 (by omega)]
   exact (I.done j q i hq (hall j hj) hqd).mono (Map.on_le _ _) (.refl _)
  ·have h' : ∀ (j : Nat) (q : Oper), ops[j]? = some q → q.dst ≠ some i := fun j q hq hd => h ⟨j, q, hq, hd⟩
   rw [H.tmp (Nat.zero_le _) (Nat.le_refl _) fun k q _ _ hq => h' k q hq]
   exact (I.old i fun j q hq _ => h' j q hq).mono (Map.on_le _ _) (.refl _)
theorem q7 (H : TraceOk ops S T B P call) {listed : Array Bool} (hs : listed.size = ops.size) (h : Region.ready .any ops listed = []) : ∀ j, j < ops.size → listed.getD j false = true := by
 intro j
 induction j using Nat.strongRecOn with
 | ind j ih =>
  intro hj
  obtain ⟨o, ho⟩ := ef hj
  cases hl : listed.getD j false with
  | true => rfl
  | false =>
   have : j ∈ Region.ready .any ops listed := mem_ready.2 ⟨by
       have : j < listed.size := by rw [hs]; exact hj
       simp [Array.getD, this] at hl ⊢; exact hl, o, ho, fun e he hb => ih e.on (H.edgeLt j o ho e he hb) (Nat.lt_trans (H.edgeLt j o ho e he hb) hj)⟩
   rw [h] at this; cases this
theorem Inv.any (H : TraceOk ops S T B P call) {ro : Option Nat} {df : List Deferred} {μ0 : Map} {w0 : World} {Q : Exit → Act → World → Prop} (hG0 : GOk μ0 w0.shape?) (hGn : ∀ g i, gix a7 0 g = some i → i < (S 0).2.n)
    (hQ : ∀ E μ w ca, (∀ j, j < ops.size → E j) → Inv P ops S T B df μ0 w0 E μ w ca → Q .normal ca w) :
    ∀ (fuel : Nat) (listed : Array Bool) (μ : Map) (w : World) (ca : Act), listed.size = ops.size → listed.toList.count false ≤ fuel → (∀ j k, j < ops.size → listed.getD j false = true → B j k → listed.getD k false = true) →
     Inv P ops S T B df μ0 w0 (fun j => listed.getD j false = true) μ w ca → wpAnyIn (fen ro) 0 P .any ops Q fuel listed ca w := by
 intro fuel
 induction fuel with
 | zero =>
  intro listed μ w ca hs hf hE I
  have hall : ∀ j, j < ops.size → listed.getD j false = true := fun j hj => by
   have hj' : j < listed.size := by rw [hs]; exact hj
   have h0 := List.count_eq_zero.1 (Nat.le_zero.1 hf)
   have hm : listed[j] ∈ listed.toList := by simp
   cases hl : listed[j] with
   | true => simp [Array.getD, hj', hl]
   | false => rw [hl] at hm; exact absurd hm h0
  refine ⟨?_, hQ _ μ w ca hall I⟩
  cases hr : Region.ready .any ops listed with
  | nil => rfl
  | cons j r =>
   have hm : j ∈ Region.ready .any ops listed := by rw [hr]; exact List.mem_cons_self
   obtain ⟨h1, o, ho, _⟩ := mem_ready.1 hm
   have hj := lt_of_get ho
   have h2 := hall j hj
   have hj' : j < listed.size := by rw [hs]; exact hj
   simp [Array.getD, hj'] at h1 h2
   rw [h1] at h2; cases h2
 | succ fuel ih =>
  intro listed μ w ca hs hf hE I
  refine ⟨fun hr => hQ _ μ w ca (q7 H hs hr) I, fun i hi => ?_⟩
  obtain ⟨h1, o, ho, hall⟩ := mem_ready.1 hi
  have hin := lt_of_get ho
  have hi' : i < listed.size := by rw [hs]; exact hin
  have hfalse : listed[i] = false := by simpa [Array.getD, hi'] using h1
  have hn : ¬ listed.getD i false = true := by simp [Array.getD, hi', hfalse]
  have hr : ∀ k, B i k → listed.getD k false = true := fun k hk => by
   obtain ⟨e, he, hb, h⟩ := (H.edge i o ho k).1 hk
   rcases h with rfl | h
   ·exact hall e he hb
   ·exact hE e.on k (Nat.lt_trans (H.edgeLt i o ho e he hb) hin) (hall e he hb) h
  refine I.op H hE ho hn hr hG0 hGn fun ca' μ' w' I' => ?_
  have hE' : (fun j => (listed.setIfInBounds i true).getD j false = true) = fun j => listed.getD j false = true ∨ j = i := funext fun j => propext (by
   by_cases hij : i = j
   ·subst hij; simp [Array.getD, hi']
   ·rw [getD_set_ne false hij]; exact ⟨.inl, fun h => h.resolve_right (Ne.symm hij)⟩)
  refine ih _ μ' w' ca' (by simp [hs]) ?_ (fun j k hj h hk => ?_) (by rw [hE']; exact I')
  ·have : (listed.setIfInBounds i true).toList.count false + 1 ≤ listed.toList.count false := by
     rw [Array.toList_setIfInBounds, List.count_set (by simpa using hi')]
     have hpos : 0 < listed.toList.count false := List.count_pos_iff.2 (by rw [← hfalse]; simp)
     have e : (listed.toList[i]'(by simpa using hi') == false) = true := by simp [hfalse]
     rw [if_pos e, if_neg (by simp)]; omega
   omega
  ·have h' : ((listed.setIfInBounds i true).getD j false = true) = (listed.getD j false = true ∨ j = i) := congrFun hE' j
   rw [h'] at h
   rcases h with h | rfl
   ·exact getD_set_true (hE j k hj h hk)
   ·exact getD_set_true (hr k hk)
theorem li (bs : List Nat) (j : Nat) : ∀ (es : List Edge) (m : Nat),
    (es.foldl (fun m e => if Region.binds .any e then m ||| 2 ^ e.on ||| bs.getD e.on 0 else m) m).testBit j = true ↔ (m.testBit j = true ∨ ∃ e ∈ es, Region.binds .any e = true ∧ (j = e.on ∨ (bs.getD e.on 0).testBit j = true)) := by
 intro es
 induction es with
 | nil => intro m; simp
 | cons e r ih =>
  intro m
  rw [List.foldl_cons, ih]
  by_cases hb : Region.binds .any e = true
  ·rw [if_pos hb]
   simp only [Nat.testBit_or, Bool.or_eq_true, Nat.testBit_two_pow, decide_eq_true_eq, List.mem_cons, exists_eq_or_imp, hb, true_and]
   constructor
   ·rintro (((h | h) | h) | h)
    ·exact .inl h
    ·exact .inr (.inl (.inl h.symm))
    ·exact .inr (.inl (.inr h))
    ·exact .inr (.inr h)
   ·rintro (h | (h | h) | h)
    ·exact .inl (.inl (.inl h))
    ·exact .inl (.inl (.inr h.symm))
    ·exact .inl (.inr h)
    ·exact .inr h
  ·rw [if_neg hb]
   simp [hb]
theorem jj {P : Program} {call : ap} {ops : Array Oper} : ∀ (l : List Oper) (a : AAct) (M : Store) (L : List (AAct × Store)), bB P call ops l a M = some L →
    L.length = l.length + 1 ∧ L[0]? = some (a, M) ∧ ∀ (i : Nat) (o : Oper), l[i]? = some o → ∃ s s', L[i]? = some s ∧ L[i + 1]? = some s' ∧ aU P call ops o s.1 s.2 = some s'
 | [], a, M, L, h => by
  simp only [bB] at h
  injection h with h; subst h
  exact ⟨rfl, rfl, fun i o ho => by simp at ho⟩
 | o :: r, a, M, L, h => by
  simp only [bB] at h
  split at h
  ·rename_i a' M' h1
   obtain ⟨L', h2, h⟩ := Option.bind_eq_some_iff.1 h
   injection h with h; subst h
   obtain ⟨q1, q2, q3⟩ := jj r a' M' L' h2
   refine ⟨by simp [q1], rfl, fun i o' ho' => ?_⟩
   cases i with
   | zero =>
    simp at ho'; subst ho'
    exact ⟨(a, M), (a', M'), rfl, by simpa using q2, h1⟩
   | succ i =>
    obtain ⟨s, s', h3, h4, h5⟩ := q3 i o' (by simpa using ho')
    exact ⟨s, s', by simpa using h3, by simpa using h4, h5⟩
  ·cases h
theorem qC {bs : List Nat} {L : List (AAct × Store)} {S : Nat → AAct × Store} {n : Nat} (hS : ∀ i, i ≤ n → L[i]? = some (S i)) {i b : Nat} (hi : i ≤ n) (h : dw bs (L.map (·.2.n)) i b = true) :
    Acc S (fun i j => (bs.getD i 0).testBit j = true) i b := by
 have hN : ∀ i, i ≤ n → (L.map (·.2.n)).getD i 0 = (S i).2.n := fun i hi => by simp [List.getD, hS i hi]
 unfold dw at h
 rw [hN 0 (Nat.zero_le _)] at h
 simp only [Bool.or_eq_true, decide_eq_true_eq, List.any_eq_true, List.mem_range, Bool.and_eq_true] at h
 rcases h with h | ⟨j, hj, h1, h2, h3⟩
 ·exact .inl h
 ·rw [hN j (by omega)] at h2
  rw [hN (j + 1) (by omega)] at h3
  exact .inr ⟨j, h1, h2, h3⟩
theorem sV {bs : List Nat} {L : List (AAct × Store)} {S : Nat → AAct × Store} {n : Nat} (hS : ∀ i, i ≤ n → L[i]? = some (S i)) {i b : Nat} (hi : i ≤ n) (hlt : ∀ j, (bs.getD i 0).testBit j = true → j < i)
    (h : Acc S (fun i j => (bs.getD i 0).testBit j = true) i b) : dw bs (L.map (·.2.n)) i b = true := by
 have hN : ∀ i, i ≤ n → (L.map (·.2.n)).getD i 0 = (S i).2.n := fun i hi => by simp [List.getD, hS i hi]
 unfold dw
 rw [hN 0 (Nat.zero_le _)]
 simp only [Bool.or_eq_true, decide_eq_true_eq, List.any_eq_true, List.mem_range, Bool.and_eq_true]
 rcases h with h | ⟨j, h1, h2, h3⟩
 ·exact .inl h
 ·have hj := hlt j h1
  exact .inr ⟨j, hj, h1, by rw [hN j (by omega)]; exact h2, by rw [hN (j + 1) (by omega)]; exact h3⟩
theorem oN {ops : Array Oper} (h : ju ops = true) :
    (∀ (i : Nat) (o : Oper), ops[i]? = some o → (bW ops.toList []).getD i 0 = jH (bW ops.toList []) o ∧ (∀ e ∈ o.after, Region.binds .any e = true → e.on < i) ∧
     ∀ (j : Nat) (q : Oper) (d : Tmp), ops[j]? = some q → q.dst = some d → (d ∈ o.looksAt ops → ((bW ops.toList []).getD i 0).testBit j = true ∨ ((bW ops.toList []).getD j 0).testBit i = true) ∧ (i ≠ j → o.dst ≠ some d)) := by
 intro i o ho
 have hi := lt_of_get ho
 unfold ju at h
 simp only [List.all_eq_true, List.mem_range] at h
 have h1 := h i hi
 simp only [ho, Bool.and_eq_true, beq_iff_eq, List.all_eq_true, List.mem_range] at h1
 obtain ⟨h2, h3, h4⟩ := h1
 refine ⟨h2, fun e he hb => ?_, fun j q d hq hd => ?_⟩
 ·have := h3 e (by simpa using he)
  simpa [hb] using this
 ·have := h4 j (lt_of_get hq)
  simp only [hq, hd, Bool.and_eq_true, Bool.or_eq_true, Bool.not_eq_true', beq_iff_eq, bne_iff_ne, ne_eq] at this
  refine ⟨fun hl => ?_, fun hij => ?_⟩
  ·rcases this.1 with h | h
   ·rw [List.contains_eq_mem] at h; simp [hl] at h
   ·exact h
  ·exact this.2.resolve_left hij
theorem sd {P : Program} {call : ap} (hc : CallOk P call) {ops : Array Oper} (hd : ju ops = true) (hok : ∀ o ∈ ops, hY o = true) {a : AAct} {M : Store} {L : List (AAct × Store)} (h : bB P call ops ops.toList a M = some L) (hcf : kx ops L = true) :
    TraceOk ops (fun i => L.getD i (a, M)) (fun i => tdiff (L.getD i (a, M)).2 (L.getD (i + 1) (a, M)).2) (fun i j => ((bW ops.toList []).getD i 0).testBit j = true) P call := by
 obtain ⟨hlen, h0, hstep⟩ := jj _ _ _ _ h
 have hS : ∀ i, i ≤ ops.size → L[i]? = some (L.getD i (a, M)) := fun i hi => by
  have : i < L.length := by rw [hlen]; simpa using Nat.lt_succ_of_le hi
  simp [List.getD, List.getElem?_eq_getElem this]
 have hst : ∀ (i : Nat) (o : Oper), ops[i]? = some o → aU P call ops o (L.getD i (a, M)).1 (L.getD i (a, M)).2 = some (L.getD (i + 1) (a, M)) := fun i o ho => by
  obtain ⟨s, s', h1, h2, h3⟩ := hstep i o (by simpa using ho)
  have e1 : L.getD i (a, M) = s := by simp [List.getD, h1]
  have e2 : L.getD (i + 1) (a, M) = s' := by simp [List.getD, h2]
  rw [e1, e2]; exact h3
 have hlog : ∀ i, i < ops.size → ∃ t, (L.getD (i + 1) (a, M)).2.log = t ++ (L.getD i (a, M)).2.log := fun i hi => by
  obtain ⟨o, ho⟩ := ef hi
  obtain ⟨_, t, h2, _⟩ := iy hc (a := (L.getD i (a, M)).1) (M := (L.getD i (a, M)).2) (a' := (L.getD (i + 1) (a, M)).1) (M' := (L.getD (i + 1) (a, M)).2) (hst i o ho)
  exact ⟨t, h2⟩
 have D := oN hd
 have hlt : ∀ i j, i < ops.size → ((bW ops.toList []).getD i 0).testBit j = true → j < i := by
  intro i
  induction i using Nat.strongRecOn with
  | ind i ih =>
   intro j hi hb
   obtain ⟨o, ho⟩ := ef hi
   obtain ⟨h1, h2, _⟩ := D i o ho
   rw [h1] at hb
   rcases (li _ j _ 0).1 hb with h | ⟨e, he, hbi, h⟩
   ·simp at h
   ·have h3 := h2 e (by simpa using he) hbi
    rcases h with rfl | h
    ·exact h3
    ·exact Nat.lt_trans (ih e.on h3 j (Nat.lt_trans h3 hi) h) h3
 refine ⟨hc, fun i o ho => hok o (Array.mem_of_getElem? ho), hst, fun i hi => ?_, fun i o ho j => ?_, fun i o ho => (D i o ho).2.1, fun i o j q d ho => (D i o ho).2.2 j q d, fun i b hi hb hbn => ?_⟩
 ·obtain ⟨t, ht⟩ := hlog i hi
  have : tdiff (L.getD i (a, M)).2 (L.getD (i + 1) (a, M)).2 = t := by
   unfold tdiff
   rw [ht]; simp
  rw [this]; exact ht
 ·obtain ⟨h1, _, _⟩ := D i o ho
  rw [h1]
  unfold jH
  rw [li]
  simp
 ·unfold kx at hcf
  rw [Bool.or_eq_true] at hcf
  rcases hcf with hcf | hcf
  ·have h1 := List.all_eq_true.1 hcf i (List.mem_range.2 hi)
   simp only [hS i (Nat.le_of_lt hi), hS (i + 1) hi] at h1
   have := List.all_eq_true.1 h1 b hb
   simp at this
   simp only [List.getD] at hbn
   omega
  ·have h1 := List.all_eq_true.1 hcf i (List.mem_range.2 hi)
   simp only [hS i (Nat.le_of_lt hi), hS (i + 1) hi] at h1
   have h2 := List.all_eq_true.1 h1 b hb
   rw [Bool.or_eq_true] at h2
   rcases h2 with h2 | h2
   ·have := of_decide_eq_true h2; omega
   ·simp only [Bool.and_eq_true] at h2
    obtain ⟨h3, h4, h5⟩ := h2
    refine ⟨fun h => by rw [h] at h3; simp at h3, qC hS (Nat.le_of_lt hi) h4, fun k hk hki hrd => ?_⟩
    have h6 := List.all_eq_true.1 h5 k (List.mem_range.2 hk)
    simp only [Bool.or_eq_true, beq_iff_eq, Bool.not_eq_true'] at h6
    rcases h6 with h6 | h6 | h6
    ·exact absurd h6 hki
    ·obtain ⟨o, ho⟩ := ef hk
     unfold rdB at h6
     simp only [ho, hS k (Nat.le_of_lt hk)] at h6
     rw [sV hS (Nat.le_of_lt hk) (fun j hj => hlt k j hk hj) hrd.1, Bool.true_and] at h6
     cases hli : fp o.op with
     | false => simp [hli] at h6
     | true =>
      have := hrd.2 o ho hli
      simp [hli] at h6
      exact absurd (by simpa using this) h6
    ·exact h6
theorem oT {P : Program} {μ : Map} {M : Store} {w : World} {d : Nat} (hR : Rel P μ M w) : Rel P μ M { w with drawn := d } :=
 ⟨hR.dom, fun b l h => (hR.obj b l h).keep (.refl _) (.refl _) fun _ => rfl, hR.excl⟩
theorem rn {P : Program} (hm : P.follows .mixedOrders = true) {call : ap} (hc : CallOk P call) {id : Nat} {ops : Array Oper} (hd : ju ops = true) (hok : ∀ o ∈ ops, hY o = true) {a a' : AAct} {M M' : Store} (h : cY P call ops a M = some (a', M'))
    {μ : Map} {w : World} {ca : Act} (hG : GOk μ w.shape?) (hR : Rel P μ M w) (hsz : ∀ t, a.t.has t = true ↔ t < ca.tmps.size) (ht : ∀ i : Nat, VRel P μ w.shape? (ca.tmps.getD i undef) (a.get i)) {ro : Option Nat} {Q : Exit → Act → World → Prop}
    (hQ : ∀ ca' μ' w', Step μ M w μ' M' w' → Rel P μ' M' w' → (∀ t, a'.t.has t = true ↔ t < ca'.tmps.size) → ca'.defers = ca.defers → (∀ i : Nat, VRel P μ' w'.shape? (ca'.tmps.getD i undef) (a'.get i)) → Q .normal ca' w') : (Code.region id ops true).wpIn (fen ro) 0 P Q ca w := by
 unfold cY at h
 obtain ⟨L, h1, h⟩ := Option.bind_eq_some_iff.1 h
 split at h
 ·rename_i hcf
  have H := sd hc hd hok h1 hcf
  obtain ⟨_, h0, _⟩ := jj _ _ _ _ h1
  have e0 : L.getD 0 (a, M) = (a, M) := by simp [List.getD, h0]
  have en : L.getD ops.size (a, M) = (a', M') := by simp [List.getD, h]
  refine wpIn_region_any hm ?_
  refine Inv.any H (df := ca.defers) (μ0 := μ) (w0 := { w with drawn := w.drawn + 1 }) hG (by simp only [e0]; exact fun g i e => (hR.dom _ _ (hG g i e).1).1) (fun E μ' w' ca' hall I => ?_) ops.size _ μ _ ca (by simp) (by simp) (fun j k hj h => ?_) ?_
  ·obtain ⟨q1, q2, q3⟩ := I.fin H hall
   have q4 := I.size
   have q4 : ∀ t, (L.getD ops.size (a, M)).1.t.has t = true ↔ t < ca'.tmps.size := fun t => by rw [H.size (Nat.le_refl _) t]; exact q4 t
   simp only [e0, en] at q1 q2 q3 q4
   exact hQ ca' μ' w' ⟨q1.le, q1.n, q1.size, q1.os, q1.tape, q1.output, q1.shp, q1.log⟩ q2 q4 I.defers q3
  ·simp [Array.getD, hj] at h
  ·have : (fun j => (Array.replicate ops.size false).getD j false = true) = fun _ => False := funext fun j => propext (by
     by_cases hj : j < ops.size <;> simp [Array.getD, hj])
   rw [this]
   exact Inv.init H (by simp only [e0]; exact oT hR) (by simp only [e0]; exact hsz) rfl (by simp only [e0]; exact ht)
 ·cases h
end
end Go.Ab

set_option linter.unusedVariables false
set_option linter.unusedSimpArgs false
namespace Go.Ab
open Go.RowKit
def DfRel (μ : Map) : List Deferred → List Deferred → Prop
 | [], [] => True
 | c :: cs, d :: ds => (∃ r k, d.target = .collected r ∧ μ r = some k ∧ c = { target := .collected k.b, args := #[] }) ∧ DfRel μ cs ds
 | _, _ => False
theorem DfRel.mono {μ μ' : Map} (hm : MLe μ μ') : ∀ {cs ds : List Deferred}, DfRel μ cs ds → DfRel μ' cs ds
 | [], [], _ => trivial
 | _ :: _, _ :: _, h => by
  obtain ⟨⟨r, k, h1, h2, h3⟩, h4⟩ := h
  exact ⟨⟨r, k, h1, hm _ _ h2, h3⟩, h4.mono hm⟩
 | [], _ :: _, h => h.elim
 | _ :: _, [], h => h.elim
structure ActRel (P : Program) (μ : Map) (sh : Shp) (ca : Act) (a : AAct) : Prop where
 size : ∀ t, a.t.has t = true ↔ t < ca.tmps.size
 defers : DfRel μ ca.defers a.defers
 tmps : ∀ i : Nat, VRel P μ sh (ca.tmps.getD i undef) (a.get i)
 glob : GOk μ sh
theorem ActRel.mono {P : Program} {μ μ' : Map} {sh sh' : Shp} {ca : Act} {a : AAct} (hm : MLe μ μ') (hs : SLe sh sh') (h : ActRel P μ sh ca a) : ActRel P μ' sh' ca a :=
 ⟨h.size, h.defers.mono hm, fun i => (h.tmps i).mono hm hs, h.glob.mono hm hs⟩
theorem ActRel.put {P : Program} {μ : Map} {sh : Shp} {ca : Act} {a : AAct} (h : ActRel P μ sh ca a) (d : Option Tmp) {cv v : Value} (hv : VRel P μ sh cv v) : ActRel P μ sh (ca.put d cv) (a.put d v) := by
 refine ⟨fun t => by rw [nB, oi]; exact h.size t, by simp [h.defers], fun i => ?_, h.glob⟩
 rw [f3, f0]
 have := h.size i
 by_cases hq : d = some i ∧ i < ca.tmps.size
 ·rw [if_pos hq, if_pos ⟨hq.1, this.2 hq.2⟩]; exact hv
 ·rw [if_neg hq, if_neg fun hp => hq ⟨hp.1, this.1 hp.2⟩]; exact h.tmps i
def RdRel (μ : Map) : Option Nat → Option Nat → Prop
 | none, none => True
 | some l, some b => ∃ k, μ l = some k ∧ k.b = b
 | _, _ => False
theorem RdRel.mono {μ μ' : Map} (hm : MLe μ μ') {l b : Option Nat} (h : RdRel μ l b) : RdRel μ' l b := by
 cases l <;> cases b <;> first
  | exact h
  | (obtain ⟨k, h1, h2⟩ := h; exact ⟨k, hm _ _ h1, h2⟩)
theorem oZ {P : Program} {call : ap} (hcall : CallOk P call) {ro : Option Nat} {ops : Array Oper} : ∀ (l : List Oper) (a : AAct) (M : Store) (a' : AAct) (M' : Store), bV P call ops l a M = some (a', M') → (∀ o ∈ l, hY o = true) →
    ∀ (μ : Map) (w : World) (ca : Act), Rel P μ M w → ActRel P μ w.shape? ca a → ∀ Q : Exit → Act → World → Prop,
     (∀ ca' μ' w', Step μ M w μ' M' w' → Rel P μ' M' w' → ActRel P μ' w'.shape? ca' a' → Q .normal ca' w') → wpListIn (fen ro) 0 P ops Q l ca w
 | [], a, M, a', M', h, _, μ, w, ca, hR, hA, Q, hQ => by
  simp only [bV] at h
  injection h with h; injection h with h h'; subst h; subst h'
  exact hQ ca μ w (.refl _ _ _) hR hA
 | o :: rest, a, M, a', M', h, hok, μ, w, ca, hR, hA, Q, hQ => by
  have hE := hP (ops := ops) hA.glob (hok o (by simp)) fun d _ => hA.tmps d
  have next : ∀ (a1 : AAct) (M1 : Store) (μ1 : Map) (w1 : World) (ca1 : Act), bV P call ops rest a1 M1 = some (a', M') → Step μ M w μ1 M1 w1 → Rel P μ1 M1 w1 → ActRel P μ1 w1.shape? ca1 a1 → wpListIn (fen ro) 0 P ops Q rest ca1 w1 :=
   fun a1 M1 μ1 w1 ca1 h1 hS hR1 hA1 => oZ hcall rest a1 M1 a' M' h1 (fun o ho => hok o (by simp [ho])) μ1 w1 ca1 hR1 hA1 Q fun ca' μ' w' hS' hR' hA' => hQ ca' μ' w' (hS.trans hR.dom hS') hR' hA'
  simp only [bV] at h
  unfold wpListIn
  rw [mQ hA.size ops o fun d _ => hA.tmps d]
  split at h
  ·rename_i hw
   rw [if_pos hw]
   split at h
   ·rename_i v M1 h1
    have hN := fJ hR hE h1
    obtain ⟨cv, w', hr, μ', hR', hS', hv'⟩ := hN
    have hn := next _ _ μ' w' (ca.put o.dst cv) h hS' hR' ((hA.mono hS'.le hS'.shp).put o.dst hv')
    rcases hr with hr | ⟨hr, rfl⟩
    ·exact fH (bh h1) hr hn
    ·exact ek (bh h1) hr hn
   ·rename_i g f args M1 h1
    have hN := fJ hR hE h1
    split at h
    ·rename_i v M2 h2
     refine kc hcall (bh h1) hA.glob hR hN h2 fun cv w' hM => ?_
     obtain ⟨μ', hR', hS', hv'⟩ := hM
     exact next _ _ μ' w' (ca.put o.dst cv) h hS' hR' ((hA.mono hS'.le hS'.shp).put o.dst hv')
    ·cases h
   ·cases h
  ·rename_i hw
   rw [if_neg hw]
   exact ⟨fun _ _ => trivial, next _ _ μ w (ca.put o.dst undef) h (.refl _ _ _) hR (hA.put o.dst VRel.undef)⟩
theorem j0 {P : Program} {call : ap} {ops : Array Oper} : ∀ (l : List Oper) (a : AAct) (M : Store) (L : List (AAct × Store)), bB P call ops l a M = some L → ∀ (i : Nat) (s : AAct × Store), L[i]? = some s → s.1.defers = a.defers
 | [], a, M, L, h, i, s, hs => by
  simp only [bB] at h
  injection h with h; subst h
  cases i with
  | zero => simp at hs; subst hs; rfl
  | succ i => simp at hs
 | o :: r, a, M, L, h, i, s, hs => by
  simp only [bB] at h
  split at h
  ·rename_i a' M' h1
   obtain ⟨L', h2, h⟩ := Option.bind_eq_some_iff.1 h
   injection h with h; subst h
   obtain ⟨v, hv⟩ := jk h1
   cases i with
   | zero => simp at hs; subst hs; rfl
   | succ i => rw [j0 r a' M' L' h2 i s (by simpa using hs), hv, oE]
  ·cases h
def ff : cK → Exit
 | 0 => .normal
 | 1 => .ret
 | n + 2 => .exit n
theorem ph {K : Act → World → Prop} {Q : Exit → Act → World → Prop} {e : cK} (h : e ≠ 0) {a : Act} {w : World} : Exit.then K Q (ff e) a w = Q (ff e) a w := by
 match e with
 | 0 => exact absurd rfl h
 | 1 => rfl
 | n + 2 => rfl
def ni (P : Program) (rd : Option Nat) (c : Code) (f : AAct → Store → Option (cK × AAct × Store)) : Prop :=
 ∀ a M e a' M', f a M = some (e, a', M') → ∀ (μ : Map) (w : World) (ca : Act) (ro : Option Nat), RdRel μ rd ro → Rel P μ M w → ActRel P μ w.shape? ca a → ∀ Q : Exit → Act → World → Prop,
  (∀ ca' μ' w', Step μ M w μ' M' w' → Rel P μ' M' w' → ActRel P μ' w'.shape? ca' a' → Q (ff e) ca' w') → c.wpIn (fen ro) 0 P Q ca w
theorem tj {P : Program} {rd : Option Nat} {c : Code} {f : AAct → Store → Option (cK × AAct × Store)} (hf : ni P rd c f) (n : Nat) : ni P rd (.loop c) (cO f n) := by
 intro a M e a' M' h μ w ca ro hro hR hA Q hQ
 refine wpIn_loop_rounds n ?_
 induction n generalizing a M μ w ca with
 | zero => cases h
 | succ n ih =>
  rw [roundsIn_succ]
  simp only [cO] at h
  split at h
  ·rename_i a1 M1 h1
   refine hf a M 0 a1 M1 h1 μ w ca ro hro hR hA _ fun ca1 μ1 w1 hS1 hR1 hA1 => ?_
   show Code.roundsIn (fen ro) 0 P c Q n ca1 w1
   exact ih a1 M1 h μ1 w1 ca1 (hro.mono hS1.le) hR1 hA1 fun ca' μ' w' hS' hR' hA' => hQ ca' μ' w' (hS1.trans hR.dom hS') hR' hA'
  ·rename_i hne
   refine hf a M e a' M' h μ w ca ro hro hR hA _ fun ca1 μ1 w1 hS1 hR1 hA1 => ?_
   have he : e ≠ 0 := by
    rintro rfl
    exact hne a' M' h
   rw [ph he]
   exact hQ ca1 μ1 w1 hS1 hR1 hA1
theorem lz {M : Store} {l : Nat} {r : ic} (h : eM M l = some r) : M.get l = some (.inr (.inr (some r))) := by
 unfold eM at h
 split at h
 ·rename_i r' hr; injection h with h; subst h; exact hr
 ·cases h
theorem dZ {P : Program} {μ : Map} {M : Store} {w : World} (hR : Rel P μ M w) {l : Nat} {k : Loc} (hl : μ l = some k) {r : ic} (h : eM M l = some r) : k.own = true ∧ ∃ q : Loop, w.heap[k.b]? = some (.loop q) ∧ RecRel P μ w.shape? q r := by
 have := hR.obj l k hl
 rw [lz h] at this
 exact this
theorem mR {w : World} {b : Nat} {o o' : Obj} (h : w.heap[b]? = some o) (ho : ∀ c e fr, o ≠ .cells c e fr) (ho' : ∀ c e fr, o' ≠ .cells c e fr) : WroteB w (w.putObj b o') b := by
 refine ⟨fun k hk => World.putObj_heap_other hk, World.putObj_size, ?_, rfl, rfl, rfl⟩
 have hlt := (Array.getElem?_eq_some_iff.1 h).1
 unfold World.shape?
 rw [World.putObj_heap_same hlt, h]
 cases o <;> cases o' <;> first
  | rfl
  | exact absurd rfl (ho _ _ _)
  | exact absurd rfl (ho' _ _ _)
theorem ma {P : Program} {μ : Map} {M : Store} {w : World} (hR : Rel P μ M w) {l : Nat} {k : Loc} (hl : μ l = some k) {r : ic} (h : eM M l = some r) {q q' : Loop} (hq : w.heap[k.b]? = some (.loop q)) {r' : ic} (hr : RecRel P μ w.shape? q' r') :
    Rel P μ (f8 M l r') (w.putObj k.b (.loop q')) ∧ Step μ M w μ (f8 M l r') (w.putObj k.b (.loop q')) := by
 obtain ⟨ho, _⟩ := dZ hR hl h
 have hw := mR (o' := .loop q') hq (by simp) (by simp)
 exact d3 hR hl (lz h) ho hw _ ⟨ho, q', World.putObj_heap_same (Array.getElem?_eq_some_iff.1 hq).1, hr.mono (.refl _) hw.sle⟩
theorem gq {P : Program} {call : ap} (hc : CallOk P call) {ops : Array Oper} : ∀ (l : List Oper) (a : AAct) (M : Store) (a' : AAct) (M' : Store), bV P call ops l a M = some (a', M') → Grow M M'
 | [], a, M, a', M', h => by
  simp only [bV] at h
  injection h with h; injection h with h h'; subst h'; exact .refl M
 | o :: rest, a, M, a', M', h => by
  simp only [bV] at h
  split at h
  ·split at h
   ·rename_i v M1 h1
    exact (iw h1).trans (gq hc rest _ M1 a' M' h)
   ·rename_i g f args M1 h1
    split at h
    ·rename_i v M2 h2
     exact ((iw h1).trans (hc.grow h2)).trans (gq hc rest _ M2 a' M' h)
    ·cases h
   ·cases h
  ·exact gq hc rest _ M a' M' h
theorem mB {P : Program} {call : ap} (hc : CallOk P call) {ops : Array Oper} : ∀ (l : List Oper) (a : AAct) (M : Store) (L : List (AAct × Store)), bB P call ops l a M = some L → ∀ (i : Nat) (s : AAct × Store), L[i]? = some s → Grow M s.2
 | [], a, M, L, h, i, s, hs => by
  simp only [bB] at h
  injection h with h; subst h
  cases i with
  | zero => simp at hs; subst hs; exact .refl M
  | succ i => simp at hs
 | o :: r, a, M, L, h, i, s, hs => by
  simp only [bB] at h
  split at h
  ·rename_i a' M' h1
   obtain ⟨L', h2, h⟩ := Option.bind_eq_some_iff.1 h
   injection h with h; subst h
   cases i with
   | zero => simp at hs; subst hs; exact .refl M
   | succ i => exact (iy hc h1).trans (mB hc r a' M' L' h2 i s (by simpa using hs))
  ·cases h
def kf (f : AAct → Store → Option (cK × AAct × Store)) : Prop := ∀ a M e a' M', f a M = some (e, a', M') → Grow M M'
theorem pG {f : AAct → Store → Option (cK × AAct × Store)} (hf : kf f) (n : Nat) : kf (cO f n) := by
 induction n with
 | zero => intro a M e a' M' h; cases h
 | succ n ih =>
  intro a M e a' M' h
  simp only [cO] at h
  split at h
  ·rename_i a1 M1 h1
   exact (hf a M 0 a1 M1 h1).trans (ih a1 M1 e a' M' h)
  ·exact hf a M e a' M' h
theorem oG {rd : Option Nat} {ps : Array Tmp} {x y : Code} {a : AAct} {M : Store} {s : AAct × Store} (h : fa rd ps x y a M = some s) : Grow M s.2 := by
 unfold fa at h
 split at h
 ·injection h with h; subst h; exact (Grow.push _ _).trans (.push _ _)
 ·obtain ⟨_, _, h⟩ := Option.bind_eq_some_iff.1 h
  injection h with h; subst h; exact .push _ _
theorem bu {P : Program} {call : ap} (hc : CallOk P call) (k : Nat) (rd : Option Nat) : ∀ c : Code, kf (ah P call k rd c)
 | .skip => fun a M e a' M' h => by simp only [ah] at h; injection h with h; injection h with h h'; injection h' with h' h''; subst h''; exact .refl M
 | .region id ops draw => fun a M e a' M' h => by
  simp only [ah] at h
  obtain ⟨⟨a1, M1⟩, h1, h⟩ := bind_some h
  injection h with h h'; injection h' with h' h''; subst h; subst h'; subst h''
  split at h1
  ·unfold cY at h1
   obtain ⟨L, h2, h1⟩ := Option.bind_eq_some_iff.1 h1
   split at h1
   ·exact mB hc _ a M L h2 _ _ h1
   ·cases h1
  ·exact gq hc _ a M _ _ h1
 | .seq x y => fun a M e a' M' h => by
  simp only [ah] at h
  split at h
  ·rename_i a1 M1 h1
   exact (bu hc k rd x a M 0 a1 M1 h1).trans (bu hc k rd y a1 M1 e a' M' h)
  ·exact bu hc k rd x a M e a' M' h
 | .cond c x y => fun a M e a' M' h => by
  simp only [ah] at h
  split at h
  ·rename_i t _
   cases t with
   | true => exact bu hc k rd x a M e a' M' h
   | false => exact bu hc k rd y a M e a' M' h
  ·cases h
 | .block id c => fun a M e a' M' h => by
  simp only [ah] at h
  split at h
  ·rename_i e1 a1 M1 h1
   injection h with h; injection h with h h'; injection h' with h' h''; subst h''
   exact bu hc k rd c a M e1 a1 M1 h1
  ·cases h
 | .loop c => by exact pG (bu hc k rd c) k
 | .exit id => fun a M e a' M' h => by simp only [ah] at h; injection h with h; injection h with h h'; injection h' with h' h''; subst h''; exact .refl M
 | .ret => fun a M e a' M' h => by simp only [ah] at h; injection h with h; injection h with h h'; injection h' with h' h''; subst h''; exact .refl M
 | .rangeFunc g ps x y => fun a M e a' M' h => by
  simp only [ah] at h
  split at h
  ·obtain ⟨s, h1, h⟩ := Option.bind_eq_some_iff.1 h
   obtain ⟨q, h2, h⟩ := Option.bind_eq_some_iff.1 h
   obtain ⟨r, h3, h⟩ := Option.bind_eq_some_iff.1 h
   split at h
   ·cases h
   ·injection h with h; injection h with h h'; injection h' with h' h''; subst h''
    exact ((oG h1).trans (hc.grow h2)).trans (.set _ _ _)
  ·cases h
 | .scope _ => fun a M e a' M' h => by simp [ah] at h
 | .label _ => fun a M e a' M' h => by simp [ah] at h
 | .goto _ => fun a M e a' M' h => by simp [ah] at h
 | .refuse _ => fun a M e a' M' h => by simp [ah] at h
theorem pC {P : Program} {rd ro : Option Nat} {ps : Array Tmp} {x y : Code} (hx : aQ x = true) (hy : aQ y = true) {a : AAct} {ca : Act} {M : Store} {s : AAct × Store} (h : fa rd ps x y a M = some s) {μ : Map} {w : World} (hro : RdRel μ rd ro) (hR : Rel P μ M w) (hA : ActRel P μ w.shape? ca a) (fn : FuncId) :
    ∃ l mark w1 μ1 k, (Instr.enterLoop fn ca.tmps ps x y ro).run P w = .ok (l, mark) w1 ∧ μ1 (s.2.n - 1) = some k ∧ k.b = l ∧ Rel P μ1 s.2 w1 ∧ Step μ M w μ1 s.2 w1 ∧ ActRel P μ1 w1.shape? { ca with defers := mark ++ ca.defers } s.1 := by
 cases rd with
 | none =>
  cases ro with
  | some b => exact hro.elim
  | none =>
   simp only [fa] at h
   injection h with h; subst h
   have hN := b6 w (.deferred (some []))
   obtain ⟨R1, S1⟩ := hZ hR hN (some (.inr (.inr none))) ⟨rfl, World.alloc_heap_new w _⟩
   have hsz : (w.alloc (.deferred (some []))).heap.size = w.heap.size + 1 := by simp
   have hN2 := b6 (w.alloc (.deferred (some []))) (.loop { state := .ready, pending := none, fn, tmps := ca.tmps, params := ps, assign := x, body := y, defers := w.heap.size })
   have hle2 := MLe.upd (i := (M.push (some (.inr (.inr none)))).n) (l := ⟨(w.alloc (.deferred (some []))).heap.size, 0, true⟩) R1.fresh
   obtain ⟨R2, S2⟩ := hZ R1 hN2 (some (.inr (.inr (some ⟨.ready, 0, a.t, ps, x, y⟩)))) ⟨rfl, _, World.alloc_heap_new _ _,
    ⟨rfl, rfl, rfl, rfl, rfl, hA.size, fun i => ((hA.tmps i).mono S1.le S1.shp).mono hle2 (f9 hN2.heap), hx, hy⟩⟩
   have S := S1.trans hR.dom S2
   refine ⟨_, _, _, _, _, run_enterLoop_outer fn ca.tmps ps x y, aF _ _ _, ?_, R2, S, hA.size, ⟨⟨M.n, ⟨w.heap.size, 0, true⟩, rfl, ?_, rfl⟩, hA.defers.mono S.le⟩, fun i => (hA.tmps i).mono S.le S.shp, hA.glob.mono S.le S.shp⟩
   ·exact hsz
   ·exact S2.le _ _ (aF _ _ _)
 | some l0 =>
  cases ro with
  | none => exact hro.elim
  | some b =>
   obtain ⟨k0, hk0, rfl⟩ := hro
   simp only [fa] at h
   obtain ⟨r0, hr0, h⟩ := Option.bind_eq_some_iff.1 h
   injection h with h; subst h
   obtain ⟨_, q0, hq0, _⟩ := dZ hR hk0 hr0
   have hN := b6 w (.loop { state := .ready, pending := none, fn, tmps := ca.tmps, params := ps, assign := x, body := y, defers := q0.defers })
   have hle := MLe.upd (i := M.n) (l := ⟨w.heap.size, 0, true⟩) hR.fresh
   obtain ⟨R1, S1⟩ := hZ hR hN (some (.inr (.inr (some ⟨.ready, 0, a.t, ps, x, y⟩)))) ⟨rfl, _, World.alloc_heap_new _ _,
    ⟨rfl, rfl, rfl, rfl, rfl, hA.size, fun i => (hA.tmps i).mono hle (f9 hN.heap), hx, hy⟩⟩
   exact ⟨_, _, _, _, _, run_enterLoop_inner hq0 fn ca.tmps ps x y, aF _ _ _, rfl, R1, S1, hA.size, hA.defers.mono S1.le, fun i => (hA.tmps i).mono S1.le S1.shp, hA.glob.mono S1.le S1.shp⟩
theorem cq {P : Program} (hm : P.follows .mixedOrders = true) {call : ap} (hcall : CallOk P call) (k : Nat) (rd : Option Nat) : ∀ c : Code, aQ c = true → ni P rd c (ah P call k rd c)
 | .skip, _ => fun a M e a' M' h μ w ca ro hro hR hA Q hQ => by
  simp only [ah] at h
  injection h with h; injection h with h h'; injection h' with h' h''; subst h; subst h'; subst h''
  exact wpIn_skip (hQ ca μ w (.refl _ _ _) hR hA)
 | .region id ops draw, hok => fun a M e a' M' h μ w ca ro hro hR hA Q hQ => by
  simp only [ah] at h
  simp only [aQ, Bool.and_eq_true] at hok
  obtain ⟨⟨a1, M1⟩, h1, h⟩ := bind_some h
  injection h with h h'; injection h' with h' h''; subst h; subst h'; subst h''
  cases draw with
  | true =>
   rw [if_pos rfl] at h1
   have hdf : a1.defers = a.defers := by
    unfold cY at h1
    obtain ⟨L, h2, h1⟩ := Option.bind_eq_some_iff.1 h1
    split at h1
    ·exact j0 _ a M L h2 _ _ h1
    ·cases h1
   exact rn hm hcall (by simpa using hok.2) (fun o ho => Array.all_eq_true_iff_forall_mem.1 hok.1 o ho) h1 hA.glob hR hA.size hA.tmps fun ca' μ' w' hS' hR' h2 h3 h4 => hQ ca' μ' w' hS' hR' ⟨h2, by rw [h3, hdf]; exact hA.defers.mono hS'.le, h4, hA.glob.mono hS'.le hS'.shp⟩
  | false =>
   rw [if_neg (by simp)] at h1
   exact wpIn_region_list (oZ hcall ops.toList a M a1 M1 h1 (fun o ho => Array.all_eq_true_iff_forall_mem.1 hok.1 o (by simpa using ho)) μ w ca hR hA Q hQ)
 | .seq x y, hok => fun a M e a' M' h μ w ca ro hro hR hA Q hQ => by
  simp only [aQ, Bool.and_eq_true] at hok
  simp only [ah] at h
  refine wpIn_seq ?_
  split at h
  ·rename_i a1 M1 h1
   refine cq hm hcall k rd x hok.1 a M 0 a1 M1 h1 μ w ca ro hro hR hA _ fun ca1 μ1 w1 hS1 hR1 hA1 => ?_
   show y.wpIn (fen ro) 0 P Q ca1 w1
   exact cq hm hcall k rd y hok.2 a1 M1 e a' M' h μ1 w1 ca1 ro (hro.mono hS1.le) hR1 hA1 Q fun ca' μ' w' hS' hR' hA' => hQ ca' μ' w' (hS1.trans hR.dom hS') hR' hA'
  ·rename_i hne
   refine cq hm hcall k rd x hok.1 a M e a' M' h μ w ca ro hro hR hA _ fun ca1 μ1 w1 hS1 hR1 hA1 => ?_
   rw [ph (by rintro rfl; exact hne a' M' h)]
   exact hQ ca1 μ1 w1 hS1 hR1 hA1
 | .cond c x y, hok => fun a M e a' M' h μ w ca ro hro hR hA Q hQ => by
  simp only [aQ, Bool.and_eq_true] at hok
  simp only [ah] at h
  split at h
  ·rename_i t ht
   have hc := kB hA.glob hA.tmps hok.1.1
   rw [ht] at hc
   refine wpIn_cond hc.bool ?_
   cases t with
   | true => exact cq hm hcall k rd x hok.1.2 a M e a' M' h μ w ca ro hro hR hA Q hQ
   | false => exact cq hm hcall k rd y hok.2 a M e a' M' h μ w ca ro hro hR hA Q hQ
  ·cases h
 | .block id c, hok => fun a M e a' M' h μ w ca ro hro hR hA Q hQ => by
  simp only [aQ] at hok
  simp only [ah] at h
  split at h
  ·rename_i e1 a1 M1 h1
   injection h with h; injection h with h h'; injection h' with h' h''; subst h'; subst h''
   refine wpIn_block (cq hm hcall k rd c hok a M e1 a1 M1 h1 μ w ca ro hro hR hA _ fun ca1 μ1 w1 hS1 hR1 hA1 => ?_)
   have := hQ ca1 μ1 w1 hS1 hR1 hA1
   rw [← h] at this
   match e1 with
   | 0 => simpa [ff, Exit.inBlock] using this
   | 1 => simpa [ff, Exit.inBlock] using this
   | n + 2 =>
    simp only [ff, Exit.inBlock]
    by_cases hn : n = id
    ·subst hn; simpa [ff] using this
    ·rw [if_neg hn]; simpa [ff, hn] using this
  ·cases h
 | .loop c, hok => by
  simp only [aQ] at hok
  exact tj (cq hm hcall k rd c hok) k
 | .exit id, _ => fun a M e a' M' h μ w ca ro hro hR hA Q hQ => by
  simp only [ah] at h
  injection h with h; injection h with h h'; injection h' with h' h''; subst h; subst h'; subst h''
  exact wpIn_exit (hQ ca μ w (.refl _ _ _) hR hA)
 | .ret, _ => fun a M e a' M' h μ w ca ro hro hR hA Q hQ => by
  simp only [ah] at h
  injection h with h; injection h with h h'; injection h' with h' h''; subst h; subst h'; subst h''
  exact wpIn_ret (hQ ca μ w (.refl _ _ _) hR hA)
 | .rangeFunc g ps x y, hok => fun a M e a' M' h μ w ca ro hro hR hA Q hQ => by
  simp only [aQ, Bool.and_eq_true] at hok
  simp only [ah] at h
  split at h
  ·rename_i f first captured hg
   obtain ⟨s, h1, h⟩ := Option.bind_eq_some_iff.1 h
   obtain ⟨q, h2, h⟩ := Option.bind_eq_some_iff.1 h
   obtain ⟨r, h3, h⟩ := Option.bind_eq_some_iff.1 h
   split at h
   ·cases h
   ·rename_i hbusy
    injection h with h; injection h with h h'; injection h' with h' h''; subst h; subst h'; subst h''
    have hcg := kB hA.glob hA.tmps hok.1.1
    rw [hg] at hcg
    obtain ⟨fg, cf, cc, hcg', h0, q1, q2⟩ := hcg.func
    obtain rfl : fg = .func f := by cases fg <;> first | exact h0.elim | (obtain rfl : _ = _ := h0; rfl) | exact h0
    refine wpIn_rangeFunc fun fn _ => ?_
    obtain ⟨l, mark, w1, μ1, kl, he, hk, rfl, R1, S1, A1⟩ := pC hok.1.2 hok.2 h1 hro hR hA fn
    have hfn : ay P f (call true f) := by
     rcases hcall.fn f with hfn | hfn
     ·exact hfn
     ·obtain ⟨_, h9, _⟩ := hfn _ s.2 q.1 q.2 h2
      exact absurd rfl (h9 (.func (.yield (s.2.n - 1)) #[] #[]) (by simp) _ _ _)
    obtain ⟨⟨⟨fn', c', hf', hb', hn'⟩, _⟩, hcc⟩ := hfn _ s.2 q.1 q.2 h2
    have hargs : LRel (VRel P μ1 w1.shape?) (cf ++ #[Value.func (.yield kl.b) #[] #[]] ++ cc).toList (first ++ #[Value.func (.yield (s.2.n - 1)) #[] #[]] ++ captured).toList := by
     simp only [Array.toList_append]
     exact ((q1.mono fun _ _ h => VRel.of_B (h.mono S1.le S1.shp)).append (LRel.cons (show VRel P μ1 w1.shape? (.func (.yield kl.b) #[] #[]) (.func (.yield (s.2.n - 1)) #[] #[]) from ⟨⟨kl, hk, rfl⟩, LRel.nil _, LRel.nil _⟩) (LRel.nil _))).append (q2.mono fun _ _ h => VRel.of_B (h.mono S1.le S1.shp))
    refine ⟨kl.b, mark, w1, { target := .fn (.func f) cc, args := cf ++ #[Value.func (.yield kl.b) #[] #[]] }, w1, f, cf ++ #[Value.func (.yield kl.b) #[] #[]] ++ cc, w1, he, ?_, fun _ _ => trivial, ?_, fun h => by simp [fen, Fence.wide] at h, ?_⟩
    ·have e : ∀ c, (#[Operand.const c]).map ca.eval = #[c] := fun c => by simp [Act.eval]
     simp only [resolve, hcg', Deferred.ofValue, Sem.run_pure, e]
    ·simp only [invoke]
     exact jq hf' hb' hn' _ _
    ·refine (mE ro (hcc μ1 w1 _ A1.glob R1 hargs)).mono fun e' w2 he' => ?_
     obtain ⟨cv, rfl, μ2, R2, S2, _⟩ := he'
     have hk2 := S2.le _ _ hk
     obtain ⟨ho, ql, hql, hrr⟩ := dZ R2 hk2 h3
     have hst : ql.state ≠ .busy := by
      rw [hrr.st]; intro hb; exact hbusy (by rw [hb]; rfl)
     obtain ⟨R3, S3⟩ := ma R2 hk2 h3 hql (q' := { ql with state := .exhausted }) (r' := { r with st := .exhausted }) ⟨rfl, hrr.pe, hrr.params, hrr.assign, hrr.body, hrr.size, hrr.tmps, hrr.ok⟩
     refine ⟨ql.pending, _, run_endLoop hql hst, ?_⟩
     have S : Step μ M w μ2 _ _ := (S1.trans hR.dom S2).trans hR.dom S3
     have fin := hQ { ca with defers := mark ++ ca.defers } μ2 _ S R3 (A1.mono (S2.le.trans S3.le) (S2.shp.trans S3.shp))
     rw [hrr.pe] at fin ⊢
     generalize r.pe = pe at fin ⊢
     match pe with
     | 0 => exact fin
     | 1 => exact wpIn_ret fin
     | n + 2 => exact wpIn_exit fin
  ·cases h
 | .scope _, _ => fun a M e a' M' h => by simp [ah] at h
 | .label _, _ => fun a M e a' M' h => by simp [ah] at h
 | .goto _, _ => fun a M e a' M' h => by simp [ah] at h
 | .refuse _, _ => fun a M e a' M' h => by simp [ah] at h
theorem oQ {vs : List Value} (h : vs.all f7 = true) : ∀ v ∈ vs, ∀ x, v ≠ .tuple x := by
 rintro v hv x rfl
 have := List.all_eq_true.1 h _ hv
 simp [f7] at this
theorem j9 {P : Program} {fn : Func} {tmps : Array Value} {R : Ending → World → Prop} : ∀ (ds cs : List Deferred) (M M' : Store), fA ds M = some M' → ∀ (μ : Map) (w : World), DfRel μ cs ds → Rel P μ M w →
    (∀ w', Step μ M w μ M' w' → Rel P μ M' w' → ∃ v, (results fn tmps).run P w' = .ok v w' ∧ R (.returned v) w') → LeavesInM (fen none) 0 P fn tmps R cs .returning w
 | [], [], M, M', h, μ, w, _, hR, hQ => by
  simp only [fA] at h
  injection h with h; subst h
  exact hQ w (.refl _ _ _) hR
 | d :: ds, c :: cs, M, M', h, μ, w, hd, hR, hQ => by
  obtain ⟨⟨r, k, h1, h2, rfl⟩, h3⟩ := hd
  simp only [fA, h1] at h
  split at h
  ·rename_i hg
   have hb := hR.obj r k h2
   rw [hg] at hb
   obtain ⟨ho, hb⟩ := hb
   have hw := mR (o' := .deferred none) hb (by simp) (by simp)
   obtain ⟨R1, S1⟩ := d3 hR h2 hg ho hw none trivial
   refine ⟨by simp, .inl ⟨k.b, _, rfl, run_takeDeferred hb, ?_⟩⟩
   exact j9 ds cs _ M' h μ _ h3 R1 fun w' S2 R2 => hQ w' (S1.trans hR.dom S2) R2
  ·cases h
 | [], _ :: _, _, _, _, _, _, hd, _, _ => hd.elim
 | _ :: _, [], _, _, _, _, _, hd, _, _ => hd.elim
theorem k6 : ∀ (ds : List Deferred) (M M' : Store), fA ds M = some M' → Grow M M'
 | [], M, M', h => by
  simp only [fA] at h
  injection h with h; subst h; exact .refl M
 | d :: ds, M, M', h => by
  simp only [fA] at h
  split at h
  ·split at h
   ·exact (Grow.set _ _ _).trans (k6 ds _ M' h)
   ·cases h
  ·cases h
theorem nX {P : Program} {μ : Map} {sh : Shp} : ∀ (ps : List Tmp) (cs as : List Value), LRel (VRel P μ sh) cs as → ∀ (ct : Array Value) (t : PT), (∀ i, t.has i = true ↔ i < ct.size) → (∀ i : Nat, VRel P μ sh (ct.getD i undef) (t.get i)) →
    (∀ i, ((ps.zip as).foldl (fun t pv => t.put pv.1 pv.2) t).has i = true ↔ i < ((ps.zip cs).foldl (fun t (p, v) => t.setIfInBounds p v) ct).size) ∧
    ∀ i : Nat, VRel P μ sh (((ps.zip cs).foldl (fun t (p, v) => t.setIfInBounds p v) ct).getD i undef) (((ps.zip as).foldl (fun t pv => t.put pv.1 pv.2) t).get i)
 | [], cs, as, _, ct, t, hs, ht => ⟨by simpa using hs, by simpa using ht⟩
 | p :: ps, [], [], _, ct, t, hs, ht => ⟨by simpa using hs, by simpa using ht⟩
 | p :: ps, c :: cs, a :: as, h, ct, t, hs, ht => by
  refine nX ps cs as h.tail (ct.setIfInBounds p c) (t.put p a) (fun i => by rw [PT.has_put]; simpa using hs i) fun i => ?_
  have h1 := f3 ⟨ct, []⟩ (some p) c i
  simp only [Act.put] at h1
  rw [h1, PT.get_put]
  have := hs i
  by_cases hq : p = i ∧ i < ct.size
  ·rw [if_pos ⟨by rw [hq.1], hq.2⟩, if_pos ⟨hq.1, this.2 hq.2⟩]; exact h.head
  ·rw [if_neg fun hp => hq ⟨by injection hp.1, hp.2⟩, if_neg fun hp => hq ⟨hp.1, this.1 hp.2⟩]; exact ht i
 | _ :: _, [], _ :: _, h, _, _, _, _ => by have := h.1; simp at this
 | _ :: _, _ :: _, [], h, _, _, _, _ => by have := h.1; simp at this
theorem lh : ∀ (as : List Value) (k : Nat) (t : PT), (∀ j, j < k + as.length → t.has j = true) →
    (∀ i, ((as.foldl (fun (p : Nat × PT) v => (p.1 + 1, p.2.put p.1 v)) (k, t)).2.has i = t.has i)) ∧
    ∀ i, (as.foldl (fun (p : Nat × PT) v => (p.1 + 1, p.2.put p.1 v)) (k, t)).2.get i = if k ≤ i then (as[i - k]?).getD (t.get i) else t.get i
 | [], k, t, _ => ⟨fun _ => rfl, fun i => by simp⟩
 | a :: as, k, t, h => by
  obtain ⟨h1, h2⟩ := lh as (k + 1) (t.put k a) (fun j hj => by rw [PT.has_put]; exact h j (by simp; omega))
  refine ⟨fun i => by rw [List.foldl_cons, h1, PT.has_put], fun i => ?_⟩
  rw [List.foldl_cons, h2, PT.get_put]
  by_cases hk : k + 1 ≤ i
  ·have hki : ¬ (k = i ∧ t.has i = true) := fun q => by have := q.1; omega
   rw [if_pos hk, if_neg hki, if_pos (show k ≤ i by omega)]
   have : i - k = (i - (k + 1)) + 1 := by omega
   rw [this, List.getElem?_cons_succ]
  ·rw [if_neg hk]
   by_cases hi : k = i
   ·subst hi
    rw [if_pos ⟨rfl, h k (by simp)⟩, if_pos (Nat.le_refl _)]; simp
   ·rw [if_neg (fun q => hi q.1), if_neg (by omega)]
theorem qO {P : Program} {μ : Map} {sh : Shp} {cargs args : Array Value} (hG : GOk μ sh) (n : Nat) (hargs : LRel (VRel P μ sh) cargs.toList args.toList) :
    ActRel P μ sh ⟨cargs ++ Array.replicate (n - cargs.size) undef, []⟩ (AAct.enter n args.toList) := by
 have hsz : cargs.size = args.size := by simpa using hargs.1
 have hfill := PT.has_fill (max n args.size) (max n args.size)
 obtain ⟨h1, h2⟩ := lh args.toList 0 (PT.fill (max n args.size) (max n args.size)) (fun j hj => (hfill j (Nat.le_refl _)).2 (by simp at hj; omega))
 refine ⟨fun t => ?_, trivial, fun i => ?_, hG⟩
 ·show ((args.toList.foldl (fun (p : Nat × PT) v => (p.1 + 1, p.2.put p.1 v)) (0, PT.fill (max n args.toList.length) (max n args.toList.length))).2.has t = true ↔ _)
  rw [Array.length_toList, h1, hfill t (Nat.le_refl _)]
  simp only [Array.size_append, Array.size_replicate]
  omega
 ·show VRel P μ sh _ ((args.toList.foldl (fun (p : Nat × PT) v => (p.1 + 1, p.2.put p.1 v)) (0, PT.fill (max n args.toList.length) (max n args.toList.length))).2.get i)
  rw [Array.length_toList, h2, if_pos (Nat.zero_le _), PT.get_fill, Nat.sub_zero]
  rw [Array.getD_eq_getD_getElem?, Array.getElem?_append]
  by_cases hi : i < cargs.size
  ·rw [if_pos hi, Array.getElem?_eq_getElem hi]
   have hi' : i < args.size := by omega
   rw [Array.getElem?_toList, Array.getElem?_eq_getElem hi']
   exact hargs.2 i _ _ (by simp [hi]) (by simp [hi'])
  ·rw [if_neg hi, Array.getElem?_replicate, Array.getElem?_toList, Array.getElem?_eq_none (by omega)]
   split <;> exact VRel.undef
theorem nu {P : Program} (hm : P.follows .mixedOrders = true) {ext : FuncId → Option (Array Value → Store → Option (Value × Store))}
    (hok : ∀ f fn c, P.funcs[f]? = some fn → ext f = none → fn.body = some c → aQ c = true) {k : Nat} (ih : CallOk P (aq P ext k)) {f : FuncId} (hg : ext f = none) : ay P f (aq P ext (k + 1) true f) := by
 intro args M v M' h
 simp only [aq, hg] at h
 split at h
 ·rename_i fn hf
  split at h
  ·rename_i c hb
   split at h
   ·cases h
   ·rename_i hn
    simp only [Bool.not_eq_true] at hn
    refine ⟨⟨⟨fn, c, hf, hb, hn⟩, ?_⟩, fun μ w cargs hG hR hargs => ?_⟩
    ·split at h
     ·rename_i e a1 M1 h1
      split at h
      ·obtain ⟨M2, h2, h⟩ := Option.bind_eq_some_iff.1 h
       obtain ⟨vs, hvs, h⟩ := Option.bind_eq_some_iff.1 h
       split at h
       ·injection h with h; injection h with h h'; subst h'
        exact (bu ih k none c _ M e a1 M1 h1).trans (k6 _ _ _ h2)
       ·cases h
      ·cases h
     ·cases h
    split at h
    ·rename_i e a1 M1 h1
     split at h
     ·rename_i he
      obtain ⟨M2, h2, h⟩ := Option.bind_eq_some_iff.1 h
      obtain ⟨vs, hvs, h⟩ := Option.bind_eq_some_iff.1 h
      split at h
      ·rename_i hnt
       injection h with h; injection h with h h'; subst h; subst h'
       have hA := qO hG fn.ntmps hargs
       refine qP (ro := none) (callsIn_of_wp_marks hf hb trivial (cq hm ih k none c (hok f fn c hf hg hb) _ M e a1 M1 h1 μ w _ none trivial hR hA _ fun ca' μ' w' hS' hR' hA' => ?_))
       have fin : LeavesInM (fen none) 0 P fn ca'.tmps (fun e w' => ∃ cv, e = .returned cv ∧ Made P μ M w (jn vs) M2 cv w') ca'.defers .returning w' := by
        refine j9 _ _ _ _ h2 μ' w' hA'.defers hR' fun w2 S2 R2 => ?_
        have hA2 : ∀ i : Nat, VRel P μ' w2.shape? (ca'.tmps.getD i undef) (a1.get i) := fun i => (hA'.tmps i).mono (.refl _) S2.shp
        obtain ⟨us, hu1, hu2⟩ := ku R2 hA2 fn.results.toList vs hvs (oQ hnt)
        have hm : (fn.results.mapM (oj ca'.tmps)).run P w2 = .ok us.toArray w2 := by
         rw [Array.mapM_eq_mapM_toList]
         simp only [Sem.run_map, hu1, Result.andThen_ok]
        refine ⟨if h : us.toArray.size = 1 then us.toArray[0] else .tuple us.toArray, ?_, _, rfl, μ', R2, hS'.trans hR.dom S2, ?_⟩
        ·simp only [qc, Sem.run_bind, hm, Result.andThen_ok, Sem.run_pure]
        ·have hl := hu2.1
         match us, vs, hl, hu2 with
         | [], [], _, hu2 => rw [dif_neg (by simp)]; exact hu2
         | [u], [v], _, hu2 => simpa [jn] using VRel.of_D hu2.head
         | u :: u' :: us, v :: v' :: vs, _, hu2 => rw [dif_neg (by simp)]; exact hu2
       rcases Nat.le_one_iff_eq_zero_or_eq_one.1 he with rfl | rfl
       ·exact fin
       ·exact fin
      ·cases h
     ·cases h
    ·cases h
  ·cases h
 ·cases h
theorem nv {P : Program} (hm : P.follows .mixedOrders = true) {ext : FuncId → Option (Array Value → Store → Option (Value × Store))} (hext : ∀ f g, ext f = some g → ay P f g ∨ dz P f g)
    (hok : ∀ f fn c, P.funcs[f]? = some fn → ext f = none → fn.body = some c → aQ c = true) : ∀ k, CallOk P (aq P ext k)
 | 0 => ⟨fun f => .inl fun args M v M' h => by simp [aq] at h, fun f args M v M' h => by simp [aq] at h⟩
 | k + 1 => by
  have ih := nv hm hext hok k
  refine ⟨fun f => ?_, fun l args M v M' h => ?_⟩
  ·cases hE : ext f with
   | none => exact .inl (nu hm hok ih hE)
   | some g =>
    have e : aq P ext (k + 1) true f = g := by
     funext args M
     simp only [aq, hE]
    rw [e]; exact hext f g hE
  ·simp only [aq] at h
   obtain ⟨r, hr, h⟩ := Option.bind_eq_some_iff.1 h
   split at h
   ·rename_i hsz
    split at h
    ·rename_i a1 M1 h1
     obtain ⟨r1, hr1, h⟩ := Option.bind_eq_some_iff.1 h
     split at h
     ·rename_i hrd
      obtain ⟨⟨e, a2, M2⟩, h2, h⟩ := Option.bind_eq_some_iff.1 h
      obtain ⟨r3, hr3, h⟩ := Option.bind_eq_some_iff.1 h
      injection h with h; injection h with h h'; subst h; subst h'
      refine ⟨(((bu ih k _ _ _ M 0 a1 M1 h1).trans (.set _ _ _)).trans (bu ih k _ _ _ _ e a2 M2 h2)).trans (.set _ _ _), fun μ w cargs kl hl hG hR hargs ro => ?_⟩
      obtain ⟨ho, q, hq, hqr⟩ := dZ hR hl hr
      have hcs : cargs.size = args.size := by simpa using hargs.1
      refine ⟨q.fn, _, q.assign, q.body, run_yield hq (by rw [hcs, hsz, hqr.params]), roundIn_of_wpIn trivial ?_⟩
      show q.assign.wpIn (fen (some kl.b)) 0 P _ _ w
      rw [hqr.assign, hqr.body]
      have hf := nX r.params.toList cargs.toList args.toList hargs q.tmps r.tmps hqr.size hqr.tmps
      have hz : ∀ (xs t : Array Value), (r.params.zip xs).foldl (fun t (p, v) => t.setIfInBounds p v) t = (r.params.toList.zip xs.toList).foldl (fun t (p, v) => t.setIfInBounds p v) t := by
       intro xs t
       rw [← Array.foldl_toList, Array.toList_zip]
      rw [hqr.params, hz]
      refine cq hm ih k (some l) r.assign hqr.ok.1 _ M 0 a1 M1 h1 μ w ⟨(r.params.toList.zip cargs.toList).foldl (fun t (p, v) => t.setIfInBounds p v) q.tmps, []⟩ (some kl.b) ⟨kl, hl, rfl⟩ hR ⟨hf.1, trivial, hf.2, hG⟩ _ fun ca1 μ1 w1 S1 R1 A1 => ?_
      have hl1 := S1.le _ _ hl
      obtain ⟨_, q1, hq1, hqr1⟩ := dZ R1 hl1 hr1
      have hready : q1.state = .ready := by
       rw [hqr1.st]
       cases hs : r1.st <;> rw [hs] at hrd <;> first | rfl | exact absurd hrd (by decide)
      obtain ⟨R2, S2⟩ := ma R1 hl1 hr1 hq1 (q' := { q1 with state := .busy }) (r' := { r1 with st := .busy }) ⟨rfl, hqr1.pe, hqr1.params, hqr1.assign, hqr1.body, hqr1.size, hqr1.tmps, hqr1.ok⟩
      refine ⟨_, run_beginRound hq1 hready, ?_⟩
      refine cq hm ih k (some l) r.body hqr.ok.2 a1 _ e a2 M2 h2 μ1 _ ca1 (some kl.b) ⟨kl, hl1, rfl⟩ R2 (A1.mono S2.le S2.shp) _ fun ca2 μ2 w2 S3 R3 A3 => ?_
      have hl3 := S3.le _ _ hl1
      obtain ⟨_, q3, hq3, hqr3⟩ := dZ R3 hl3 hr3
      have hj : (hU e).isNone = (e == 0) := by
       match e with
       | 0 => rfl
       | 1 => rfl
       | n + 2 => rfl
      obtain ⟨R4, S4⟩ := ma R3 hl3 hr3 hq3 (q' := { q3 with state := if (hU e).isNone then .ready else .done, pending := hU e }) (r' := { r3 with st := if e == 0 then .ready else .done, pe := e })
       ⟨by simp only [hj], rfl, hqr3.params, hqr3.assign, hqr3.body, hqr3.size, hqr3.tmps, hqr3.ok⟩
      have S : Step μ M w μ2 _ _ := ((S1.trans hR.dom S2).trans hR.dom S3).trans hR.dom S4
      have fin : ∃ v w', (Instr.endRound kl.b (hU e)).run P w2 = .ok v w' ∧ (∃ cv, Ending.returned v = .returned cv ∧ Made P μ M w (.bool (e == 0)) (f8 M2 l { r3 with st := if e == 0 then .ready else .done, pe := e }) cv w') :=
       ⟨_, _, run_endRound (hU e) hq3, _, rfl, μ2, R4, S, hj⟩
      match e, fin with
      | 0, fin => exact fin
      | 1, fin => exact fin
      | n + 2, fin => exact fin
     ·cases h
    ·cases h
   ·cases h
end Go.Ab

set_option linter.unusedVariables false
set_option linter.unusedSimpArgs false
namespace Go.Ab
open Go.RowKit Go.ChangeShapes Go.WideShapes Go.ChangeAt
theorem iU {H : Type} {enc : TypeId × Value → H} {P : Program} (hl : laidOutB P = true) {W W' : World} (hb : Below W.heap.size W W') : ∀ (ts : List TypeId) (vs : List Value) (ds : List (DataW H)) (ps : List MemPlace),
    DataW.TrodAll enc P W 0 (fun _ => true) true ts vs ds ps → (ts.all fun t => P.readableRec t && decide (t < P.types.size)) = true → (∀ x ∈ ps, x.block < W.heap.size) →
    DataW.TrodAll enc P W' 0 (fun b => decide (b < W.heap.size)) true ts vs ds ps
 | [], vs, ds, ps, h, _, _ => by
  obtain ⟨rfl, rfl, rfl⟩ := trodAll_nil h
  exact trodAll_mk0
 | t :: ts, vs, ds, ps, h, ht, hp => by
  obtain ⟨v, vs', d, ds', p, q, rfl, rfl, rfl, h1, h2⟩ := trodAll_cons h
  simp only [List.all_cons, Bool.and_eq_true, decide_eq_true_eq] at ht
  exact trodAll_cons_mk (Below.trod hl ht.1.1 ht.1.2 h1 hb fun x hx => hp x (List.mem_append_left _ hx))
   (iU hl hb ts vs' ds' q h2 ht.2 fun x hx => hp x (List.mem_append_right _ hx))
theorem qZ {H : Type} {enc : TypeId × Value → H} {P : Program} {f : Func} {s : ChangeSpec} (hl : laidOutB P = true) {tb : TypeId} (hr : f.resultTypes = #[tb]) (hb : P.underlying tb = some .bool)
    (ht : (f.params.toList.all fun t => P.readableRec t && decide (t < P.types.size)) = true) (hv : s.vars = [])
    {W W' : World} {args : Array Value} {ds gs : List (DataW H)} {before : List MemPlace} (hs : s.fn H (ds ++ gs) = { results := [.lit (.bool true)], args := ds })
    (hW : DataW.Whole enc P f.params.toList s.vars false W args.toList ds gs before) (hB : Below W.heap.size W W') : s.post enc P f false true false false W args (.bool true) W' := by
 have hW' := hW
 obtain ⟨p, q, hA, hV, rfl, hfz, hnd⟩ := hW
 rw [hv] at hV
 obtain ⟨rfl, rfl⟩ := trodVars_none hV
 simp only [List.append_nil] at hW' hs
 refine ⟨ds, [], p, [], p, [], hW', ?_, ?_, ?_, World.keptBut_mono (fun x hx => ?_) (hB.frame (· ∈ p)), fun h => by cases h⟩
 ·simp only [List.append_nil]
  rw [hs, hr]
  exact trodAll_cons_mk (shut_bool hb _) trodAll_mk0
 ·simp only [List.append_nil]
  rw [hs]
  exact iU hl hB _ _ _ _ hA ht fun x hx => by simpa using hW'.lt x hx
 ·simp only [List.append_nil]
  rw [hs, hv]
  trivial
 ·exact ⟨hx, .inr (.inl hx)⟩
theorem Step.below {μ μ' : Map} {M M' : Store} {w w' : World} (h : Step μ M w μ' M' w') (hro : ∀ i l, μ i = some l → l.own = false) : Below w.heap.size w w' := by
 obtain ⟨t, _, hf, _⟩ := h.log
 exact ⟨h.os, h.tape, h.output, h.size, fun k hk => hf k hk fun i _ l hl ho => by rw [hro i l hl] at ho; cases ho⟩
theorem pN {P : Program} {call : ap} {f : FuncId} (hc : ay P f (call true f)) {args cargs : Array Value} {M M' : Store} (h : call true f args M = some (.bool true, M')) {μ : Map} {w : World} (hG : GOk μ w.shape?) (hR : Rel P μ M w) (hro : ∀ i l, μ i = some l → l.own = false)
    (ha : LRel (VRel P μ w.shape?) cargs.toList args.toList) : Calls P f cargs w fun e w' => e = .returned (.bool true) ∧ Below w.heap.size w w' := by
 obtain ⟨_, h1⟩ := hc args M _ M' h
 refine (h1 μ w cargs hG hR ha).mono fun e w' ⟨cv, he, μ', hR', hS, hv⟩ => ?_
 refine ⟨?_, hS.below hro⟩
 rw [he, hv.bool]
def M00 : Store := ⟨a7.length, a7.map fun _ => none, []⟩
def fu : Map := fun i => match a7[i]? with
 | some g => some ⟨g, 0, false⟩
 | none => none
theorem oW (i : Nat) : M00.get i = none := by
 unfold M00 Store.get
 split
 ·rw [List.getElem?_map]
  cases a7[a7.length - 1 - i]? <;> rfl
 ·rfl
theorem dk {i : Nat} {l : Loc} (h : fu i = some l) : l.own = false ∧ i < a7.length ∧ l.b ∈ a7 := by
 unfold fu at h
 split at h
 ·rename_i g hg
  injection h with h; subst h
  exact ⟨rfl, (List.getElem?_eq_some_iff.1 hg).1, List.mem_of_getElem? hg⟩
 ·cases h
theorem lX : ∀ (l : List Nat) (k g i : Nat), gix l k g = some i → k ≤ i ∧ l[i - k]? = some g
 | [], _, _, _, h => by cases h
 | x :: r, k, g, i, h => by
  unfold gix at h
  cases e : Nat.beq x g with
  | true =>
   rw [e] at h; injection h with h; subst h
   obtain rfl := Nat.eq_of_beq_eq_true e
   exact ⟨Nat.le_refl _, by simp⟩
  | false =>
   rw [e] at h
   obtain ⟨h1, h2⟩ := lX r (k + 1) g i h
   refine ⟨by omega, ?_⟩
   rw [show i - k = (i - (k + 1)) + 1 by omega, List.getElem?_cons_succ]; exact h2
theorem o9 : ∀ (l : List Nat) (k g : Nat), g ∈ l → ∃ i, gix l k g = some i
 | x :: r, k, g, h => by
  unfold gix
  cases e : Nat.beq x g with
  | true => exact ⟨k, rfl⟩
  | false =>
   rcases List.mem_cons.1 h with rfl | h
   ·simp at e
   ·exact o9 r (k + 1) g h
def Gsh (w : World) : Prop := ∀ g i, gix a7 0 g = some i → ∃ e, w.shape? g = some (e, gsz.getD i 0)
theorem iK {w : World} {b : Nat} {x : TypeId × Nat} (h : w.shape? b = some x) : b < w.heap.size := by
 unfold World.shape? at h
 rcases Nat.lt_or_ge b w.heap.size with h1 | h1
 ·exact h1
 ·rw [Array.getElem?_eq_none h1] at h; cases h
theorem Gsh.there {w : World} (h : Gsh w) : ∀ g ∈ a7, g < w.heap.size := fun g hg => by
 obtain ⟨i, hi⟩ := o9 a7 0 g hg
 obtain ⟨e, he⟩ := h g i hi
 exact iK he
theorem GOk.gsh {μ : Map} {w : World} (h : GOk μ w.shape?) : Gsh w := fun g i e => (h g i e).2
theorem q8 {P : Program} (w : World) (hw : Gsh w) : Rel P fu M00 w :=
 ⟨fun i l h => ⟨(dk h).2.1, hw.there _ (dk h).2.2⟩, fun i l h => by rw [oW]; trivial, fun i _ _ _ _ _ _ h => absurd (oW i) h⟩
theorem sA {w : World} (hw : Gsh w) : GOk fu w.shape? := fun g i h => ⟨by
 have := (lX _ _ _ _ h).2
 simp only [Nat.sub_zero] at this
 unfold fu; rw [this], hw g i h⟩
end Go.Ab

set_option linter.unusedVariables false
set_option linter.unusedSimpArgs false
namespace Go.Ab
abbrev Ext := FuncId → Option (Array Value → Store → Option (Value × Store))
def fP (c d : ap) : Prop := ∀ b f args M r, c b f args M = some r → d b f args M = some r
theorem dq {P : Program} {c d : ap} (h : fP c d) {ops : Array Oper} {o : Oper} {a : AAct} {M : Store} {r} (h1 : aU P c ops o a M = some r) : aU P d ops o a M = some r := by
 unfold aU at *
 split at h1
 ·rename_i hw
  rw [if_pos hw]
  split at h1
  ·exact h1
  ·rename_i g f args M' he
   split at h1
   ·rename_i v M'' hc
    have := h _ _ _ _ _ hc
    simp only [this]; exact h1
   ·cases h1
  ·cases h1
 ·rename_i hw
  rw [if_neg hw]; exact h1
theorem dh {P : Program} {c : ap} {ops : Array Oper} {o : Oper} {rest : List Oper} {a : AAct} {M : Store} :
    bV P c ops (o :: rest) a M = (aU P c ops o a M).bind fun r => bV P c ops rest r.1 r.2 := by
 rw [bV, aU]
 split
 ·split
  ·rfl
  ·split
   ·rename_i hc; simp only [hc, Option.bind_some]
   ·rename_i hc; simp only [hc, Option.bind_none]
  ·rfl
 ·rfl
theorem gr {P : Program} {c d : ap} (h : fP c d) {ops : Array Oper} : ∀ (l : List Oper) {a : AAct} {M : Store} {r}, bV P c ops l a M = some r → bV P d ops l a M = some r
 | [], _, _, _, h1 => h1
 | o :: l, a, M, r, h1 => by
  rw [dh] at *
  obtain ⟨s, h2, h3⟩ := Option.bind_eq_some_iff.1 h1
  rw [dq h h2, Option.bind_some]
  exact gr h l h3
theorem dV {P : Program} {c : ap} {ops : Array Oper} {o : Oper} {l : List Oper} {a : AAct} {M : Store} :
    bB P c ops (o :: l) a M = (aU P c ops o a M).bind fun s => (bB P c ops l s.1 s.2).bind fun L => some ((a, M) :: L) := by
 rw [bB]
 cases aU P c ops o a M <;> rfl
theorem gu {P : Program} {c d : ap} (h : fP c d) {ops : Array Oper} : ∀ (l : List Oper) {a : AAct} {M : Store} {r}, bB P c ops l a M = some r → bB P d ops l a M = some r
 | [], _, _, _, h1 => h1
 | o :: l, a, M, r, h1 => by
  rw [dV] at *
  obtain ⟨s, h2, h3⟩ := Option.bind_eq_some_iff.1 h1
  obtain ⟨L, h4, h5⟩ := Option.bind_eq_some_iff.1 h3
  rw [dq h h2, Option.bind_some, gu h l h4, Option.bind_some]
  exact h5
theorem pA {P : Program} {c d : ap} (h : fP c d) {ops : Array Oper} {a : AAct} {M : Store} {r} (h1 : cY P c ops a M = some r) : cY P d ops a M = some r := by
 unfold cY at *
 obtain ⟨L, h2, h3⟩ := Option.bind_eq_some_iff.1 h1
 rw [gu h _ h2, Option.bind_some]; exact h3
theorem ir {s t : AAct → Store → Option (cK × AAct × Store)} (h : ∀ a M r, s a M = some r → t a M = some r) : ∀ {n n' : Nat}, n ≤ n' → ∀ {a M r}, cO s n a M = some r → cO t n' a M = some r
 | 0, _, _, _, _, _, h1 => by simp [cO] at h1
 | n + 1, 0, hn, _, _, _, _ => by omega
 | n + 1, n' + 1, hn, a, M, r, h1 => by
  simp only [cO] at *
  cases hs : s a M with
  | none => rw [hs] at h1; cases h1
  | some q =>
   rw [hs] at h1
   rw [h _ _ _ hs]
   obtain ⟨e, a', M'⟩ := q
   cases e with
   | zero => exact ir h (by omega) h1
   | succ e => exact h1
theorem aL {P : Program} {c d : ap} (h : fP c d) {k k' : Nat} (hk : k ≤ k') {rd : Option Nat} : ∀ (x : Code) {a : AAct} {M : Store} {r}, ah P c k rd x a M = some r → ah P d k' rd x a M = some r
 | .skip, _, _, _, h1 => by simpa [ah] using h1
 | .region _ ops draw, a, M, r, h1 => by
  simp only [ah] at *
  obtain ⟨s, h2, h3⟩ := Option.bind_eq_some_iff.1 h1
  split at h2
  ·rename_i hd; rw [if_pos hd, pA h h2]; exact h3
  ·rename_i hd; rw [if_neg hd, gr h _ h2]; exact h3
 | .seq x y, a, M, r, h1 => by
  simp only [ah] at *
  cases hx : ah P c k rd x a M with
  | none => rw [hx] at h1; cases h1
  | some q =>
   rw [hx] at h1
   rw [aL h hk x hx]
   obtain ⟨e, a', M'⟩ := q
   cases e with
   | zero => exact aL h hk y h1
   | succ e => exact h1
 | .cond v x y, a, M, r, h1 => by
  simp only [ah] at *
  split at h1
  ·rename_i t ht
   split at h1
   ·rename_i h2; simp only [h2, if_true]; exact aL h hk x h1
   ·rename_i h2; simp only [h2]; exact aL h hk y h1
  ·cases h1
 | .block id x, a, M, r, h1 => by
  simp only [ah] at *
  cases hx : ah P c k rd x a M with
  | none => rw [hx] at h1; cases h1
  | some q => rw [hx] at h1; rw [aL h hk x hx]; exact h1
 | .loop x, a, M, r, h1 => by
  simp only [ah] at *
  exact ir (fun a M r => aL h hk x) hk h1
 | .exit id, _, _, _, h1 => by simpa [ah] using h1
 | .ret, _, _, _, h1 => by simpa [ah] using h1
 | .rangeFunc g ps x y, a, M, r, h1 => by
  simp only [ah] at *
  split at h1
  ·obtain ⟨s, h2, h3⟩ := Option.bind_eq_some_iff.1 h1
   obtain ⟨q, h4, h5⟩ := Option.bind_eq_some_iff.1 h3
   rw [h2, Option.bind_some, h _ _ _ _ _ h4, Option.bind_some]
   exact h5
  ·cases h1
 | .scope _, _, _, _, h1 => by simp [ah] at h1
 | .label _, _, _, _, h1 => by simp [ah] at h1
 | .goto _, _, _, _, h1 => by simp [ah] at h1
 | .refuse _, _, _, _, h1 => by simp [ah] at h1
theorem kV (P : Program) (E : Ext) : ∀ k, fP (aq P E k) (aq P E (k + 1))
 | 0 => fun b f args M r h => by cases b <;> simp [aq] at h
 | k + 1 => by
  have ih := kV P E k
  intro b f args M r h
  cases b with
  | true =>
   rw [aq] at h ⊢
   split at h
   ·exact h
   ·split at h
    ·split at h
     ·split at h
      ·cases h
      ·rename_i hn
       rw [if_neg hn]
       split at h
       ·rename_i e a M' hc
        rw [aL ih (Nat.le_succ k) _ hc]
        exact h
       ·cases h
     ·cases h
    ·cases h
  | false =>
   rw [aq] at h ⊢
   obtain ⟨q, h2, h3⟩ := Option.bind_eq_some_iff.1 h
   rw [h2, Option.bind_some]
   split at h3
   ·rename_i hs
    rw [if_pos hs]
    split at h3
    ·rename_i a1 M1 hc
     rw [aL ih (Nat.le_succ k) _ hc]
     obtain ⟨r1, h4, h5⟩ := Option.bind_eq_some_iff.1 h3
     simp only [h4, Option.bind_some]
     split at h5
     ·rename_i hr
      obtain ⟨q1, h6, h7⟩ := Option.bind_eq_some_iff.1 h5
      rw [if_pos hr, aL ih (Nat.le_succ k) _ h6, Option.bind_some]
      exact h7
     ·cases h5
    ·cases h3
   ·cases h3
theorem bp (P : Program) (E : Ext) {k k' : Nat} (h : k ≤ k') : fP (aq P E k) (aq P E k') := by
 induction h with
 | refl => exact fun _ _ _ _ _ h => h
 | step _ ih => exact fun b f args M r h => kV P E _ _ _ _ _ _ (ih b f args M r h)
theorem nG (a : AAct) (d : Option Tmp) (v : Value) : (a.put d v).t.n = a.t.n := by cases d <;> rfl
theorem nF (a : AAct) (d : Option Tmp) (v : Value) : (a.put d v).defers = a.defers := by cases d <;> rfl
def Like (a b : AAct) : Prop := b.t.n = a.t.n ∧ b.defers = a.defers
theorem Like.refl (a : AAct) : Like a a := ⟨rfl, rfl⟩
theorem Like.trans {a b c : AAct} (h : Like a b) (k : Like b c) : Like a c := ⟨k.1.trans h.1, k.2.trans h.2⟩
theorem pJ {P : Program} {c : ap} {ops : Array Oper} {o : Oper} {a a' : AAct} {M M' : Store} (h : aU P c ops o a M = some (a', M')) : Like a a' := by
 unfold aU at h
 split at h
 ·split at h
  ·injection h with h; injection h with h; subst h; exact ⟨nG _ _ _, nF _ _ _⟩
  ·split at h
   ·injection h with h; injection h with h; subst h; exact ⟨nG _ _ _, nF _ _ _⟩
   ·cases h
  ·cases h
 ·injection h with h; injection h with h; subst h; exact ⟨nG _ _ _, nF _ _ _⟩
theorem ji {P : Program} {c : ap} {ops : Array Oper} : ∀ (l : List Oper) {a a' : AAct} {M M' : Store}, bV P c ops l a M = some (a', M') → Like a a'
 | [], _, _, _, _, h => by simp only [bV, Option.some.injEq, Prod.mk.injEq] at h; rw [h.1]; exact .refl _
 | o :: l, a, a', M, M', h => by
  rw [dh] at h
  obtain ⟨⟨a1, M1⟩, h1, h2⟩ := Option.bind_eq_some_iff.1 h
  exact (pJ h1).trans (ji l h2)
theorem mC {P : Program} {c : ap} {ops : Array Oper} : ∀ (l : List Oper) {a : AAct} {M : Store} {L}, bB P c ops l a M = some L → ∃ s, L[l.length]? = some s ∧ bV P c ops l a M = some s
 | [], a, M, L, h => by simp only [bB, Option.some.injEq] at h; subst h; exact ⟨_, rfl, rfl⟩
 | o :: l, a, M, L, h => by
  rw [dV] at h
  obtain ⟨s, h1, h2⟩ := Option.bind_eq_some_iff.1 h
  obtain ⟨L1, h3, h4⟩ := Option.bind_eq_some_iff.1 h2
  injection h4 with h4; subst h4
  obtain ⟨q, h5, h6⟩ := mC l h3
  exact ⟨q, by simpa using h5, by rw [dh, h1]; exact h6⟩
theorem pz {P : Program} {c : ap} {ops : Array Oper} {a : AAct} {M : Store} {r} (h : cY P c ops a M = some r) : bV P c ops ops.toList a M = some r := by
 unfold cY at h
 obtain ⟨L, h1, h2⟩ := Option.bind_eq_some_iff.1 h
 obtain ⟨s, h3, h4⟩ := mC _ h1
 split at h2
 ·rw [Array.length_toList, h2] at h3; injection h3 with h3; subst h3; exact h4
 ·cases h2
theorem jg {s : AAct → Store → Option (cK × AAct × Store)} (I : AAct → Prop) (h : ∀ a M e a' M', I a → s a M = some (e, a', M') → I a') : ∀ (n : Nat) {a M e a' M'}, I a → cO s n a M = some (e, a', M') → I a'
 | 0, _, _, _, _, _, _, h1 => by simp [cO] at h1
 | n + 1, a, M, e, a', M', hi, h1 => by
  simp only [cO] at h1
  cases hs : s a M with
  | none => rw [hs] at h1; cases h1
  | some q =>
   rw [hs] at h1
   obtain ⟨e1, a1, M1⟩ := q
   cases e1 with
   | zero => exact jg I h n (h _ _ _ _ _ hi hs) h1
   | succ e1 =>
    simp only [Option.some.injEq, Prod.mk.injEq] at h1
    obtain ⟨_, rfl, _⟩ := h1
    exact h _ _ _ _ _ hi hs
def ft : Code → Bool
 | .seq x y => ft x && ft y
 | .cond _ x y => ft x && ft y
 | .block _ x => ft x
 | .loop x => ft x
 | .rangeFunc _ _ _ _ => false
 | _ => true
theorem dS {P : Program} {c : ap} {k : Nat} {rd : Option Nat} : ∀ (x : Code) {a a' : AAct} {M M' : Store} {e : cK}, ah P c k rd x a M = some (e, a', M') → a'.t.n = a.t.n ∧ (ft x = true → a'.defers = a.defers)
 | .skip, _, _, _, _, _, h => by simp only [ah, Option.some.injEq, Prod.mk.injEq] at h; obtain ⟨_, rfl, _⟩ := h; exact ⟨rfl, fun _ => rfl⟩
 | .region _ ops draw, a, a', M, M', e, h => by
  simp only [ah] at h
  obtain ⟨⟨a1, M1⟩, h2, h3⟩ := Option.bind_eq_some_iff.1 h
  simp only [Option.some.injEq, Prod.mk.injEq] at h3
  obtain ⟨_, rfl, _⟩ := h3
  have : Like a a1 := by
   split at h2
   ·exact ji _ (pz h2)
   ·exact ji _ h2
  exact ⟨this.1, fun _ => this.2⟩
 | .seq x y, a, a', M, M', e, h => by
  simp only [ah] at h
  cases hx : ah P c k rd x a M with
  | none => rw [hx] at h; cases h
  | some q =>
   rw [hx] at h
   obtain ⟨e1, a1, M1⟩ := q
   have h1 := dS x hx
   cases e1 with
   | zero =>
    have h2 := dS y h
    exact ⟨h2.1.trans h1.1, fun hr => by simp only [ft, Bool.and_eq_true] at hr; exact (h2.2 hr.2).trans (h1.2 hr.1)⟩
   | succ e1 =>
    simp only [Option.some.injEq, Prod.mk.injEq] at h
    obtain ⟨_, rfl, _⟩ := h
    exact ⟨h1.1, fun hr => by simp only [ft, Bool.and_eq_true] at hr; exact h1.2 hr.1⟩
 | .cond v x y, a, a', M, M', e, h => by
  simp only [ah] at h
  split at h
  ·split at h
   ·have h1 := dS x h
    exact ⟨h1.1, fun hr => by simp only [ft, Bool.and_eq_true] at hr; exact h1.2 hr.1⟩
   ·have h1 := dS y h
    exact ⟨h1.1, fun hr => by simp only [ft, Bool.and_eq_true] at hr; exact h1.2 hr.2⟩
  ·cases h
 | .block id x, a, a', M, M', e, h => by
  simp only [ah] at h
  cases hx : ah P c k rd x a M with
  | none => rw [hx] at h; cases h
  | some q =>
   rw [hx] at h
   obtain ⟨e1, a1, M1⟩ := q
   simp only [Option.some.injEq, Prod.mk.injEq] at h
   obtain ⟨_, rfl, _⟩ := h
   exact dS x hx
 | .loop x, a, a', M, M', e, h => by
  simp only [ah] at h
  refine ⟨?_, fun hr => ?_⟩
  ·exact jg (fun b => b.t.n = a.t.n) (fun b M e b' M' hb hs => (dS x hs).1.trans hb) _ rfl h
  ·exact jg (fun b => b.defers = a.defers) (fun b M e b' M' hb hs => ((dS x hs).2 hr).trans hb) _ rfl h
 | .exit id, _, _, _, _, _, h => by simp only [ah, Option.some.injEq, Prod.mk.injEq] at h; obtain ⟨_, rfl, _⟩ := h; exact ⟨rfl, fun _ => rfl⟩
 | .ret, _, _, _, _, _, h => by simp only [ah, Option.some.injEq, Prod.mk.injEq] at h; obtain ⟨_, rfl, _⟩ := h; exact ⟨rfl, fun _ => rfl⟩
 | .rangeFunc g ps x y, a, a', M, M', e, h => by
  simp only [ah] at h
  split at h
  ·obtain ⟨⟨a1, M1⟩, h2, h3⟩ := Option.bind_eq_some_iff.1 h
   obtain ⟨q, h4, h5⟩ := Option.bind_eq_some_iff.1 h3
   obtain ⟨r, h6, h7⟩ := Option.bind_eq_some_iff.1 h5
   split at h7
   ·cases h7
   ·simp only [Option.some.injEq, Prod.mk.injEq] at h7
    obtain ⟨_, rfl, _⟩ := h7
    refine ⟨?_, fun hr => by simp [ft] at hr⟩
    unfold fa at h2
    split at h2
    ·injection h2 with h2; injection h2 with h2; subst h2; rfl
    ·obtain ⟨_, _, h2⟩ := Option.bind_eq_some_iff.1 h2
     injection h2 with h2; injection h2 with h2; subst h2; rfl
  ·cases h
 | .scope _, _, _, _, _, _, h => by simp [ah] at h
 | .label _, _, _, _, _, _, h => by simp [ah] at h
 | .goto _, _, _, _, _, _, h => by simp [ah] at h
 | .refuse _, _, _, _, _, _, h => by simp [ah] at h
end Go.Ab
