/- Layer 6: whether two actions are the same; bytes tell them apart. -/
import Derived.Test.YtnonfejhkbaikaaDoorPA6b
namespace Go.G
open Go.Ab Go.Proofs Go.RowKit
set_option linter.unusedVariables false
set_option linter.unusedSimpArgs false
set_option maxRecDepth 100000

/-! ## the same -/
theorem do_abin1 (a b a' b' : Int) (c c' : List UInt8) : abin Tryd.prog false .neq Ty.api_Do (dv (a, b, c)) (dv (a', b', c')) = (if a = a' then if b = b' then if (⟨c.toArray⟩ : ByteArray) = ⟨c'.toArray⟩ then some true else some false else some false else some false).bind fun b => some (.bool (!b)) := by kernel_rfl
theorem ba_eq (c c' : List UInt8) : ((⟨c.toArray⟩ : ByteArray) = ⟨c'.toArray⟩) ↔ c = c' := by
  constructor
  · intro h; injection h with h; simpa using h
  · rintro rfl; rfl
theorem do_ne (d e : Dw) (K : Value → Prop) : OP (abin Tryd.prog false .neq Ty.api_Do (dv d) (dv e)) K = K (.bool (decide (d ≠ e))) := by
  obtain ⟨a, b, c⟩ := d
  obtain ⟨a', b', c'⟩ := e
  rw [do_abin1]
  simp only [ba_eq]
  have : (if a = a' then if b = b' then if c = c' then some true else some false else some false else some false) = some (decide ((a, b, c) = (a', b', c'))) := by
    simp only [Prod.mk.injEq]
    by_cases h1 : a = a' <;> by_cases h2 : b = b' <;> by_cases h3 : c = c' <;> simp [h1, h2, h3]
  rw [this]
  show K (.bool (!decide ((a, b, c) = (a', b', c')))) = _
  rw [decide_not]
theorem SameAct_loop {M : Store} {v w : Value} {l k : List Dw} (h : DS M v l) (g : DS M w k) (hl : l.length ≤ 2 ^ 40) (hlk : l.length = k.length) {Q : Value → Store → Prop} (hQ : Q (tv (decide (l = k))) M) :
    ∀ (n i : Nat), n + i = l.length → (∀ j (hj : j < i) (h1 : j < l.length) (h2 : j < k.length), l[j] = k[j]) → P_fettleref4_SameAct_1 v w (iv (i : Int)) M Q := by
  intro n
  induction n with
  | zero =>
    intro i hi hp
    apply T_fettleref4_SameAct_1
    unfold S_fettleref4_SameAct_1
    rw [h.len, OP_some, lss_n, BR_dec, if_neg (by omega)]
    apply T_fettleref4_SameAct_3
    unfold S_fettleref4_SameAct_3
    have : l = k := List.ext_getElem hlk fun j h1 h2 => hp j (by omega) h1 h2
    rw [decide_eq_true this] at hQ
    exact ⟨rfl, hQ⟩
  | succ n ih =>
    intro i hi hp
    apply T_fettleref4_SameAct_1
    unfold S_fettleref4_SameAct_1
    have hil : i < l.length := by omega
    have hik : i < k.length := by omega
    rw [h.len, OP_some, lss_n, BR_dec, if_pos hil]
    apply T_fettleref4_SameAct_2
    unfold S_fettleref4_SameAct_2
    rw [ds_ld h hil, ds_ld g hik, do_ne, BR_dec]
    split
    · rename_i hne
      rw [decide_eq_false (fun e => hne (by subst e; rfl))] at hQ
      exact ⟨rfl, hQ⟩
    · rename_i he
      rw [add1_n _ (by omega)]
      refine ih (i + 1) (by omega) fun j hj h1 h2 => ?_
      by_cases e : j = i
      · subst e; exact Decidable.not_not.1 he
      · exact hp j (by omega) h1 h2
theorem SameAct_ok {M : Store} {v w : Value} {l k : List Dw} (h : DS M v l) (g : DS M w k) (hl : l.length ≤ 2 ^ 40) : R F.fettleref4_SameAct #[v, w] M fun r M' => M' = M ∧ r = tv (decide (l = k)) := by
  refine R.cps fun Q hQ => ?_
  apply T_fettleref4_SameAct
  unfold S_fettleref4_SameAct
  rw [h.len, OP_some, g.len, OP_some]
  show OP (binI .neq (iv (l.length : Int)) (iv (k.length : Int))) _
  rw [e_neq, BR_dec]
  split
  · rename_i hne
    have := hQ (tv (decide (l = k))) M ⟨rfl, rfl⟩
    rw [decide_eq_false (fun e => hne (by rw [e]))] at this
    exact ⟨rfl, this⟩
  · rename_i he
    exact SameAct_loop h g hl (by omega) (hQ _ _ ⟨rfl, rfl⟩) l.length 0 rfl fun j hj => by omega

/-! ## bytes tell apart -/
theorem be_mod : ∀ (k a b : Nat), be k a = be k b → a % 256 ^ k = b % 256 ^ k
  | 0, a, b, _ => by simp [Nat.mod_one]
  | k + 1, a, b, h => by
    simp only [be, List.cons.injEq] at h
    have ih := be_mod k a b h.2
    have h1 := congrArg UInt8.toNat h.1
    simp only [UInt8.toNat_ofNat'] at h1
    rw [Nat.mod_pow_succ, Nat.mod_pow_succ (x := b), ih]
    have h1 : a / 256 ^ k % 256 = b / 256 ^ k % 256 := h1
    rw [h1]
theorem be6_inj {a b : Nat} (ha : a < 256 ^ 6) (hb : b < 256 ^ 6) (h : be 6 a = be 6 b) : a = b := by
  have := be_mod 6 a b h
  rwa [Nat.mod_eq_of_lt ha, Nat.mod_eq_of_lt hb] at this
def okE (d : Dw) : Prop := 0 ≤ d.1 ∧ d.1 ≤ 1000 ∧ 0 ≤ d.2.1 ∧ d.2.1 ≤ 1000 ∧ d.2.2.length ≤ 1000
theorem okD.e {d : Dw} (h : okD d) : okE d := by obtain ⟨h1, h2, h3, h4, h5⟩ := h; exact ⟨h1, by omega, h3, by omega, by omega⟩
theorem held_inj {a b : Int} (h1 : 0 ≤ a) (h2 : a ≤ 1000) (h3 : 0 ≤ b) (h4 : b ≤ 1000) (h : held a = held b) : a = b := by unfold held at h; omega
theorem held_lt (a : Int) : held a < 256 ^ 6 := by have := held_le a; omega
theorem doB_inj {d e : Dw} (hd : okE d) (he : okE e) {r s : List UInt8} (h : doB d ++ r = doB e ++ s) : d = e ∧ r = s := by
  obtain ⟨a, b, c⟩ := d
  obtain ⟨a', b', c'⟩ := e
  obtain ⟨h1, h2, h3, h4, h5⟩ := hd
  obtain ⟨g1, g2, g3, g4, g5⟩ := he
  simp only [doB, List.append_assoc] at h
  simp only at h1 h2 h3 h4 h5 g1 g2 g3 g4 g5
  obtain ⟨e1, k1⟩ := List.append_inj h (by simp [be_length])
  obtain ⟨e2, k2⟩ := List.append_inj k1 (by simp [be_length])
  obtain ⟨e3, k3⟩ := List.append_inj k2 (by simp [be_length])
  have e3 := be6_inj (by omega) (by omega) e3
  obtain ⟨e4, k4⟩ := List.append_inj k3 e3
  have e1 := held_inj h1 h2 g1 g2 (be6_inj (held_lt _) (held_lt _) e1)
  have e2 := held_inj h3 h4 g3 g4 (be6_inj (held_lt _) (held_lt _) e2)
  subst e1; subst e2; subst e4
  exact ⟨rfl, k4⟩
theorem fm_inj : ∀ (l k : List Dw), l.length = k.length → (∀ d ∈ l, okE d) → (∀ d ∈ k, okE d) → l.flatMap doB = k.flatMap doB → l = k
  | [], [], _, _, _, _ => rfl
  | d :: l, e :: k, hl, h1, h2, h => by
    simp only [List.flatMap_cons] at h
    obtain ⟨e1, e2⟩ := doB_inj (h1 d (by simp)) (h2 e (by simp)) h
    rw [e1, fm_inj l k (by simpa using hl) (fun x hx => h1 x (by simp [hx])) (fun x hx => h2 x (by simp [hx])) e2]
theorem actB_inj {l k : List Dw} (hl : l.length ≤ 1000) (hk : k.length ≤ 1000) (h1 : ∀ d ∈ l, okE d) (h2 : ∀ d ∈ k, okE d) (h : actB l = actB k) : l = k := by
  unfold actB at h
  obtain ⟨e1, e2⟩ := List.append_inj h (by simp [be_length])
  exact fm_inj l k (be6_inj (by omega) (by omega) e1) h1 h2 e2

end Go.G
