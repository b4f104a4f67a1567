/- Layer 6: an action is run: the very bytes that come of it. -/
import Derived.Test.YtpacolplhcfamaaPR6d
namespace Go.G
open Go.Ab Go.Proofs Go.RowKit
set_option linter.unusedVariables false
set_option linter.unusedSimpArgs false
set_option maxRecDepth 100000

/-! ## turned -/
theorem turnedE_loop {M0 : Store} {d1 d2 : UInt8} {by_ : Int} (hby : -1000 ≤ by_ ∧ by_ ≤ 1000) {v : Value} {l0 : List UInt8} (hm : l0.length ≤ 2 ^ 30) {Q : Value → Store → Prop} (hQ : ∀ M, Up M0 M → N M0 M v (l0.map (turnB d1 d2 by_)) → Q v M) :
    ∀ (k i : Nat) (M : Store) (l : List UInt8), k + i = l0.length → Up M0 M → N M0 M v l → (hl : l.length = l0.length) → (∀ p (h1 : p < l.length) (h2 : p < l0.length), l[p] = if p < i then turnB d1 d2 by_ l0[p] else l0[p]) →
      P_acts_turned_1 (bv d1) (bv d2) (iv by_) v v (iv (l0.length : Int)) (iv (i : Int)) M Q := by
  intro k
  induction k with
  | zero =>
    intro i M l hi hu h hl hp
    apply T_acts_turned_1
    unfold S_acts_turned_1
    rw [lss_n, BR_dec, if_neg (by omega)]
    apply T_acts_turned_3
    unfold S_acts_turned_3
    have : l = l0.map (turnB d1 d2 by_) := List.ext_getElem (by simpa using hl) fun p h1 h2 => by
      rw [hp p h1 (by omega), if_pos (by omega), List.getElem_map]
    subst this
    exact ⟨nts_of h.by, hQ M hu h⟩
  | succ k ih =>
    intro i M l hi hu h hl hp
    apply T_acts_turned_1
    unfold S_acts_turned_1
    rw [lss_n, BR_dec, if_pos (by omega)]
    apply T_acts_turned_2
    unfold S_acts_turned_2
    have hil : i < l.length := by omega
    have hi0 : i < l0.length := by omega
    have hli : l[i] = l0[i] := by rw [hp i hil hi0, if_neg (by omega)]
    rw [by_ld h.by hil, hli]
    have hsame : turnB d1 d2 by_ l0[i] = l0[i] → P_acts_turned_1 (bv d1) (bv d2) (iv by_) v v (iv (l0.length : Int)) (iv ((i + 1 : Nat) : Int)) M Q := fun he => ih (i + 1) M l (by omega) hu h hl fun p h1 h2 => by
      rw [hp p h1 h2]
      by_cases e : p = i
      · subst e; rw [if_neg (by omega), if_pos (by omega), he]
      · by_cases e2 : p < i
        · rw [if_pos e2, if_pos (by omega)]
        · rw [if_neg e2, if_neg (by omega)]
    show OP (binI .geq (bv l0[i]) (.int .u8 (d1.toNat : Int))) _
    rw [bv_geI (d := d1) rfl, BR_dec]
    split
    · rename_i h1
      show OP (binI .leq (bv l0[i]) (.int .u8 (d2.toNat : Int))) _
      rw [bv_leI (d := d2) rfl, BR_dec]
      split
      · rename_i h2
        show OP (cvI .i64 (.int .u8 (l0[i].toNat : Int))) _
        have hc := l0[i].toNat_lt
        rw [e_cvI, w64 (by omega) (by omega)]
        show OP (binI .add (.int .i64 _) (.int .i64 by_)) _
        rw [e_add, w64 (by omega) (by omega), cv_u8N]
        refine b_turn h hil _ fun M' b _ hb hbn _ c1 hN => ?_
        rw [add1_n _ (by omega)]
        refine ih (i + 1) M' _ (by omega) (hu.ch c1 (by simpa using hb)) hN (by rw [List.length_set]; exact hl) fun p h1' h2' => ?_
        rw [List.getElem_set]
        split
        · rename_i e
          subst e
          rw [if_pos (by omega)]
          unfold turnB
          rw [if_pos h1, if_pos h2]
        · rename_i e
          have h1'' : p < l.length := by simpa using h1'
          rw [hp p h1'' h2']
          by_cases e2 : p < i
          · rw [if_pos e2, if_pos (by omega)]
          · rw [if_neg e2, if_neg (by omega)]
      · rename_i h2
        rw [add1_n _ (by omega)]; exact hsame (by unfold turnB; rw [if_pos h1, if_neg h2])
    · rename_i h1
      rw [add1_n _ (by omega)]; exact hsame (by unfold turnB; rw [if_neg h1])
theorem turnedE {M : Store} {x : Value} {l : List UInt8} (h : B M x l) (hl : l.length ≤ 2 ^ 24) (d1 d2 : UInt8) (by_ : Int) (hby : -1000 ≤ by_ ∧ by_ ≤ 1000) : R F.acts_turned #[x, bv d1, bv d2, iv by_] M fun v M' => Up M M' ∧ N M M' v (l.map (turnB d1 d2 by_)) := by
  refine R.cps fun Q hQ => ?_
  apply T_acts_turned
  unfold S_acts_turned
  refine (Clone_ok h hl).mono fun v M1 ⟨u1, h1⟩ => ?_
  rw [by_len h1.by]
  exact turnedE_loop hby (by omega) (fun M' hu hN => hQ _ _ ⟨hu, hN⟩) l.length 0 M1 l rfl u1 h1 rfl (fun p h1 h2 => by rw [if_neg (by omega)])

/-! ## reversed -/
theorem revE_loop {M0 : Store} {v : Value} {l0 : List UInt8} (hm : l0.length ≤ 2 ^ 30) {Q : Value → Store → Prop} (hQ : ∀ M, Up M0 M → N M0 M v l0.reverse → Q (.tuple #[]) M) :
    ∀ (k i : Nat) (M : Store) (l : List UInt8), k + i = l0.length → Up M0 M → N M0 M v l → (hl : l.length = l0.length) → 2 * i ≤ l0.length + 1 → (∀ p (h1 : p < l.length) (h2 : p < l0.length), l[p] = if p < i ∨ l0.length - i ≤ p then l0[l0.length - 1 - p] else l0[p]) →
      P_slices_Reverse_sl_byte_byte_1 v (iv (i : Int)) (iv ((l0.length : Int) - 1 - i)) M Q := by
  intro k
  have fin : ∀ (i : Nat) (M : Store) (l : List UInt8), Up M0 M → N M0 M v l → (hl : l.length = l0.length) → ¬ ((i : Int) < (l0.length : Int) - 1 - i) → (∀ p (h1 : p < l.length) (h2 : p < l0.length), l[p] = if p < i ∨ l0.length - i ≤ p then l0[l0.length - 1 - p] else l0[p]) → Q (.tuple #[]) M := by
    intro i M l hu h hl hn hp
    have : l = l0.reverse := List.ext_getElem (by simpa using hl) fun p h1 h2 => by
      rw [hp p h1 (by omega), List.getElem_reverse]
      split
      · rfl
      · rename_i hc
        have e : l0.length - 1 - p = p := by omega
        simp only [e]
    subst this
    exact hQ M hu h
  induction k with
  | zero =>
    intro i M l hi hu h hl h2i hp
    apply T_slices_Reverse_sl_byte_byte_1
    unfold S_slices_Reverse_sl_byte_byte_1
    show OP (binI .lss (.int .i64 (i : Int)) (.int .i64 ((l0.length : Int) - 1 - i))) _
    rw [e_lss, BR_dec, if_neg (by omega)]
    exact ⟨rfl, fin i M l hu h hl (by omega) hp⟩
  | succ k ih =>
    intro i M l hi hu h hl h2i hp
    apply T_slices_Reverse_sl_byte_byte_1
    unfold S_slices_Reverse_sl_byte_byte_1
    show OP (binI .lss (.int .i64 (i : Int)) (.int .i64 ((l0.length : Int) - 1 - i))) _
    rw [e_lss, BR_dec]
    split
    · rename_i hlt
      apply T_slices_Reverse_sl_byte_byte_2
      unfold S_slices_Reverse_sl_byte_byte_2
      obtain ⟨j, hj⟩ : ∃ j : Nat, (l0.length : Int) - 1 - i = (j : Int) := ⟨l0.length - 1 - i, by omega⟩
      have hjl : j < l.length := by omega
      have hil : i < l.length := by omega
      rw [hj, by_ld h.by hjl, by_ld h.by hil]
      refine b_turn h hil _ fun M1 b hbx hb hbn ht c1 hN => ⟨ht _ _ _ (by simpa using hbn), ?_⟩
      refine b_turn hN (by rw [List.length_set]; exact hjl) _ fun M2 b2 hbx2 hb2 hbn2 ht2 c2 hN2 => ⟨?_, ?_⟩
      · have : b2 < M.n := by
          rw [hbx] at hbx2; injection hbx2 with e; omega
        exact ht2 _ _ _ (by simpa using this)
      · rw [add1_n _ (by omega)]
        show OP (binI .sub (.int .i64 (j : Int)) (.int .i64 1)) _
        rw [e_sub, w64 (by omega) (by omega)]
        have e : (j : Int) - 1 = (l0.length : Int) - 1 - ((i + 1 : Nat) : Int) := by omega
        rw [e]
        refine ih (i + 1) M2 _ (by omega) ((hu.ch c1 (by simpa using hb)).ch c2 (by simpa using hb2)) hN2 (by simp [hl]) (by omega) fun p h1 h2 => ?_
        have h1' : p < l.length := by simpa using h1
        have pj := hp j hjl (by omega)
        have pi := hp i hil (by omega)
        rw [if_neg (by omega)] at pj pi
        rw [List.getElem_set]
        split
        · rename_i e
          rw [if_pos (by omega)]
          refine pi.trans ?_
          have e2 : l0.length - 1 - p = i := by omega
          simp only [e2]
        · rw [List.getElem_set]
          split
          · rename_i e
            rw [if_pos (by omega)]
            refine pj.trans ?_
            have e2 : l0.length - 1 - p = j := by omega
            simp only [e2]
          · rename_i e3 e4
            rw [hp p h1' h2]
            by_cases hc : p < i ∨ l0.length - i ≤ p
            · rw [if_pos hc, if_pos (by omega)]
            · rw [if_neg hc, if_neg (by omega)]
    · rename_i hn
      exact ⟨rfl, fin i M l hu h hl hn hp⟩
theorem ReverseE {M0 M : Store} {v : Value} {l : List UInt8} (hu : Up M0 M) (h : N M0 M v l) (hl : l.length ≤ 2 ^ 24) : R F.slices_Reverse_sl_byte_byte #[v] M fun r M' => Up M0 M' ∧ N M0 M' v l.reverse := by
  refine R.cps fun Q hQ => ?_
  apply T_slices_Reverse_sl_byte_byte
  unfold S_slices_Reverse_sl_byte_byte
  rw [by_len h.by]
  show OP (binI .sub (.int .i64 (l.length : Int)) (.int .i64 1)) _
  rw [e_sub, w64 (by omega) (by omega)]
  have e : (l.length : Int) - 1 = (l.length : Int) - 1 - ((0 : Nat) : Int) := by omega
  rw [e]
  exact revE_loop (by omega) (fun M' hu hN => hQ _ _ ⟨hu, hN⟩) l.length 0 M l rfl hu h rfl (by omega) (fun p h1 h2 => by rw [if_neg (by omega)])
end Go.G
