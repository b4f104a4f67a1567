/- Layer 6: what is done to bytes ends, and what comes of it is one's own (the bytes themselves are not told here). -/
import Derived.Test.YtpacolplhcfamaaPA6
import Derived.Test.YtpacolplhcfamaaPGE
import Derived.Test.YtpacolplhcfamaaPAW
namespace Go.G
open Go.Ab Go.Proofs Go.RowKit
set_option linter.unusedVariables false
set_option linter.unusedSimpArgs false
set_option maxRecDepth 100000

theorem b_turn {M0 M : Store} {v : Value} {l : List UInt8} (h : N M0 M v l) {i : Nat} (hi : i < l.length) (c : UInt8) {K : Store → Prop}
    (hK : ∀ M' b, bx v = some b → M0.n ≤ b → b < M.n → (∀ bs Ns i, b < List.getD Ns 0 0 → TDx bs Ns i M M') → Ch [b] M M' → N M0 M' v (l.set i c) → K M') : (OP (ixA 1 v (iv (i : Int))) fun p => OP (st 1 p (bv c) M) K) := by
  obtain ⟨h1, ⟨h2, _⟩ | ⟨b, cells, cp, rfl, hb, h6, h7, h8, h9⟩⟩ := h
  · omega
  · have e : ixA 1 (.slice (some ⟨b, 0, none⟩) l.length cp) (iv (i : Int)) = some (.pointer (some ⟨b, i, none⟩)) := by
      simp only [ixA, iv]; rw [if_pos ⟨by omega, by omega, trivial⟩]; simp
    have o6 : Ob M b cells Ty.uint8 := h6
    rw [e, OP_some]
    refine s_st1 (i := i) (b := b) (cells := cells) (T := Ty.uint8) o6 (by omega) rfl rfl fun M1 c1 o1 n1 => ?_
    refine hK M1 b rfl hb (M.lt_of_get h6) (fun bs Ns i hlt => c1.tdx o6 hlt) c1 ⟨?_, .inr ⟨b, cells.set i (bv c), cp, ?_, hb, o1, ?_, ?_, ?_⟩⟩
    · simp
    · rw [List.length_set]
    · rw [List.length_set, List.length_set]; exact h7
    · rw [List.map_set, List.length_set, List.take_set, h8]
    · rw [List.length_set]; exact h9

/-! ## turned -/
theorem turned_loop {M0 : Store} {d1 d2 : UInt8} {by_ : Int} {v : Value} {m : Nat} (hm : m ≤ 2 ^ 30) {Q : Value → Store → Prop} (hQ : ∀ M l, Up M0 M → N M0 M v l → l.length = m → Q v M) :
    ∀ (k i : Nat) (M : Store) (l : List UInt8), k + i = m → Up M0 M → N M0 M v l → l.length = m → P_acts_turned_1 (bv d1) (bv d2) (iv by_) v v (iv (m : Int)) (iv (i : Int)) M Q := by
  intro k
  induction k with
  | zero =>
    intro i M l hi hu h hl
    apply T_acts_turned_1
    unfold S_acts_turned_1
    rw [lss_n, BR_dec, if_neg (by omega)]
    apply T_acts_turned_3
    unfold S_acts_turned_3
    exact ⟨nts_of h.by, hQ M l hu h hl⟩
  | succ k ih =>
    intro i M l hi hu h hl
    apply T_acts_turned_1
    unfold S_acts_turned_1
    rw [lss_n, BR_dec, if_pos (by omega)]
    apply T_acts_turned_2
    unfold S_acts_turned_2
    have hil : i < l.length := by omega
    rw [by_ld h.by hil]
    generalize l[i] = c
    have hnext : P_acts_turned_1 (bv d1) (bv d2) (iv by_) v v (iv (m : Int)) (iv ((i + 1 : Nat) : Int)) M Q := ih (i + 1) M l (by omega) hu h hl
    show OP (binI .geq (bv c) (.int .u8 (d1.toNat : Int))) _
    rw [bv_geI (d := d1) rfl, BR_dec]
    split
    · show OP (binI .leq (bv c) (.int .u8 (d2.toNat : Int))) _
      rw [bv_leI (d := d2) rfl, BR_dec]
      split
      · show OP (cvI .i64 (.int .u8 (c.toNat : Int))) _
        rw [e_cvI]
        show OP (binI .add (.int .i64 _) (.int .i64 by_)) _
        rw [e_add, cv_u8N]
        refine b_turn h hil _ fun M' b hbx hb hbn _ c1 hN => ?_
        rw [add1_n _ (by omega)]
        exact ih (i + 1) M' _ (by omega) (hu.ch c1 (by simpa using hb)) hN (by rw [List.length_set]; exact hl)
      · rw [add1_n _ (by omega)]; exact hnext
    · rw [add1_n _ (by omega)]; exact hnext
theorem turned_ok {M : Store} {x : Value} {l : List UInt8} (h : B M x l) (hl : l.length ≤ 2 ^ 24) (d1 d2 : UInt8) (by_ : Int) : R F.acts_turned #[x, bv d1, bv d2, iv by_] M fun v M' => Up M M' ∧ ∃ l', N M M' v l' ∧ l'.length = l.length := by
  refine R.cps fun Q hQ => ?_
  apply T_acts_turned
  unfold S_acts_turned
  refine (Clone_ok h hl).mono fun v M1 ⟨u1, h1⟩ => ?_
  rw [by_len h1.by]
  exact turned_loop (by omega) (fun M' l' hu hN hl' => hQ _ _ ⟨hu, l', hN, hl'⟩) l.length 0 M1 l rfl u1 h1 rfl

/-! ## reversed -/
theorem rev_loop {M0 : Store} {v : Value} {m : Nat} (hm : m ≤ 2 ^ 30) {Q : Value → Store → Prop} (hQ : ∀ M l, Up M0 M → N M0 M v l → l.length = m → Q (.tuple #[]) M) :
    ∀ (k i : Nat) (M : Store) (l : List UInt8), k + i = m → Up M0 M → N M0 M v l → l.length = m → P_slices_Reverse_sl_byte_byte_1 v (iv (i : Int)) (iv ((m : Int) - 1 - i)) M Q := by
  intro k
  induction k with
  | zero =>
    intro i M l hi hu h hl
    apply T_slices_Reverse_sl_byte_byte_1
    unfold S_slices_Reverse_sl_byte_byte_1
    show OP (binI .lss (.int .i64 (i : Int)) (.int .i64 ((m : Int) - 1 - i))) _
    rw [e_lss, BR_dec, if_neg (by omega)]
    exact ⟨rfl, hQ M l hu h hl⟩
  | succ k ih =>
    intro i M l hi hu h hl
    apply T_slices_Reverse_sl_byte_byte_1
    unfold S_slices_Reverse_sl_byte_byte_1
    show OP (binI .lss (.int .i64 (i : Int)) (.int .i64 ((m : Int) - 1 - i))) _
    rw [e_lss, BR_dec]
    split
    · rename_i hlt
      apply T_slices_Reverse_sl_byte_byte_2
      unfold S_slices_Reverse_sl_byte_byte_2
      obtain ⟨j, hj⟩ : ∃ j : Nat, (m : Int) - 1 - i = (j : Int) := ⟨m - 1 - i, by omega⟩
      have hjl : j < l.length := by omega
      have hil : i < l.length := by omega
      rw [hj, by_ld h.by hjl, by_ld h.by hil]
      refine b_turn h hil _ fun M1 b hbx hb hbn ht c1 hN => ⟨ht _ _ _ (by simpa using hbn), ?_⟩
      refine b_turn hN (by rw [List.length_set]; exact hjl) _ fun M2 b2 hbx2 hb2 hbn2 ht2 c2 hN2 => ⟨?_, ?_⟩
      · have : b2 < M.n := by
          rw [hbx] at hbx2; injection hbx2 with e; omega
        exact ht2 _ _ _ (by simpa using this)
      · rw [add1_n _ (by omega)]
        show OP (binI .sub (.int .i64 (j : Int)) (.int .i64 1)) _
        rw [e_sub, w64 (by omega) (by omega)]
        have e : (j : Int) - 1 = (m : Int) - 1 - ((i + 1 : Nat) : Int) := by omega
        rw [e]
        exact ih (i + 1) M2 _ (by omega) ((hu.ch c1 (by simpa using hb)).ch c2 (by simpa using hb2)) hN2 (by simp [hl])
    · exact ⟨rfl, hQ M l hu h hl⟩
theorem Reverse_ok {M0 M : Store} {v : Value} {l : List UInt8} (hu : Up M0 M) (h : N M0 M v l) (hl : l.length ≤ 2 ^ 24) : R F.slices_Reverse_sl_byte_byte #[v] M fun r M' => Up M0 M' ∧ ∃ l', N M0 M' v l' ∧ l'.length = l.length := by
  refine R.cps fun Q hQ => ?_
  apply T_slices_Reverse_sl_byte_byte
  unfold S_slices_Reverse_sl_byte_byte
  rw [by_len h.by]
  show OP (binI .sub (.int .i64 (l.length : Int)) (.int .i64 1)) _
  rw [e_sub, w64 (by omega) (by omega)]
  have e : (l.length : Int) - 1 = (l.length : Int) - 1 - ((0 : Nat) : Int) := by omega
  rw [e]
  exact rev_loop (by omega) (fun M' l' hu hN hl' => hQ _ _ ⟨hu, l', hN, hl'⟩) l.length 0 M l rfl hu h rfl

/-! ## joined -/
theorem joined_loop {M0 : Store} {x : Value} {l s : List UInt8} (h : B M0 x l) (hl : l.length ≤ 2 ^ 10) (hs : s.length ≤ 2 ^ 10) {Q : Value → Store → Prop} (hQ : ∀ w M t, Up M0 M → N M0 M w t → t.length ≤ l.length * (s.length + 1) → Q w M) :
    ∀ (k i : Nat) (w : Value) (t : List UInt8) (M : Store), k + i = l.length → Up M0 M → N M0 M w t → t.length ≤ i * (s.length + 1) → P_acts_joined_1 (sv s) w x (iv (l.length : Int)) (iv (i : Int)) M Q := by
  intro k
  induction k with
  | zero =>
    intro i w t M hi hu hN ht
    apply T_acts_joined_1
    unfold S_acts_joined_1
    rw [lss_n, BR_dec, if_neg (by omega)]
    apply T_acts_joined_3
    unfold S_acts_joined_3
    have : i = l.length := by omega
    subst this
    exact ⟨nts_of hN.by, hQ w M t hu hN ht⟩
  | succ k ih =>
    intro i w t M hi hu hN ht
    apply T_acts_joined_1
    unfold S_acts_joined_1
    have hil : i < l.length := by omega
    have hmul : i * (s.length + 1) ≤ 2 ^ 10 * (2 ^ 10 + 1) := Nat.mul_le_mul (by omega) (by omega)
    rw [lss_n, BR_dec, if_pos hil]
    apply T_acts_joined_2
    unfold S_acts_joined_2
    rw [by_ld (Sl.up h hu) hil, gtr_l 0 0 rfl, BR_dec]
    generalize l[i] = c
    split
    · refine appT_ok hu hN s (by omega) fun w1 M1 hu1 hN1 _ => ?_
      rw [bl_bv]
      refine s_lit (s := 1) rfl fun M2 u2 h2 o2 n2 => ?_
      have hx2 : By Ty.uint8 M2 (.slice (some ⟨M1.n, 0, none⟩) 1 1) [c] := h2.sl
      refine app_by (hu1.trans u2) (Nw.up hN1 u2) hx2 (by simp; omega) fun w3 M3 hu3 hN3 _ => ?_
      rw [add1_n _ (by omega)]
      exact ih (i + 1) w3 _ M3 (by omega) hu3 hN3 (by simp [Nat.succ_mul]; omega)
    · rw [bl_bv]
      refine s_lit (s := 1) rfl fun M2 u2 h2 o2 n2 => ?_
      have hx2 : By Ty.uint8 M2 (.slice (some ⟨M.n, 0, none⟩) 1 1) [c] := h2.sl
      refine app_by (hu.trans u2) (Nw.up hN u2) hx2 (by simp; omega) fun w3 M3 hu3 hN3 _ => ?_
      rw [add1_n _ (by omega)]
      exact ih (i + 1) w3 _ M3 (by omega) hu3 hN3 (by simp [Nat.succ_mul]; omega)
theorem joined_ok {M : Store} {x : Value} {l s : List UInt8} (h : B M x l) (hl : l.length ≤ 2 ^ 10) (hs : s.length ≤ 2 ^ 10) : R F.acts_joined #[x, sv s] M fun v M' => Up M M' ∧ ∃ t, N M M' v t ∧ t.length ≤ l.length * (s.length + 1) := by
  refine R.cps fun Q hQ => ?_
  apply T_acts_joined
  unfold S_acts_joined
  rw [by_len h]
  exact joined_loop h hl hs (fun w M' t hu hN ht => hQ _ _ ⟨hu, t, hN, ht⟩) l.length 0 _ [] M rfl (Ch.refl _ _) (Nw.nil _ _ _ _) (by simp)
end Go.G
