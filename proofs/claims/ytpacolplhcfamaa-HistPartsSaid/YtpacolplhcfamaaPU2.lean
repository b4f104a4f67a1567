/- Layer 6: what is done to bytes ends, and what comes of it is one's own (the bytes themselves are not told here). Layer 6: an action is run: what comes of it is one's own. Layer 6: an action is run: what comes of it is one's own. Layer 6: a step; a run. Layer 6: an action is run: the very bytes that come of it. Layer 6: joined, together, a step and a run: the very bytes. Layer 6: a run: the very bytes. -/
import Derived.Test.YtpacolplhcfamaaPA6
import Derived.Test.YtpacolplhcfamaaPGE
import Derived.Test.YtpacolplhcfamaaPAW
namespace Go.G
open Go.Ab Go.Proofs Go.RowKit
set_option linter.unusedVariables false
set_option linter.unusedSimpArgs false
set_option maxRecDepth 100000

theorem b_turn {M0 M : Store} {v : Value} {l : List UInt8} (h : N M0 M v l) {i : Nat} (hi : i < l.length) (c : UInt8) {K : Store → Prop}
    (hK : ∀ M' b, bx v = some b → M0.n ≤ b → b < M.n → (∀ bs Ns i, b < List.getD Ns 0 0 → TDx bs Ns i M M') → Ch [b] M M' → N M0 M' v (l.set i c) → K M') : (OP (ixA 1 v (iv (i : Int))) fun p => OP (st 1 p (bv c) M) K) := by
  obtain ⟨h1, ⟨h2, _⟩ | ⟨b, cells, cp, rfl, hb, h6, h7, h8, h9⟩⟩ := h
  · omega
  · have e : ixA 1 (.slice (some ⟨b, 0, none⟩) l.length cp) (iv (i : Int)) = some (.pointer (some ⟨b, i, none⟩)) := by
      simp only [ixA, iv]; rw [if_pos ⟨by omega, by omega, trivial⟩]; simp
    have o6 : Ob M b cells Ty.uint8 := h6
    rw [e, OP_some]
    refine s_st1 (i := i) (b := b) (cells := cells) (T := Ty.uint8) o6 (by omega) rfl rfl fun M1 c1 o1 n1 => ?_
    refine hK M1 b rfl hb (M.lt_of_get h6) (fun bs Ns i hlt => c1.tdx o6 hlt) c1 ⟨?_, .inr ⟨b, cells.set i (bv c), cp, ?_, hb, o1, ?_, ?_, ?_⟩⟩
    · simp
    · rw [List.length_set]
    · rw [List.length_set, List.length_set]; exact h7
    · rw [List.map_set, List.length_set, List.take_set, h8]
    · rw [List.length_set]; exact h9

/-! ## turned -/
theorem turned_loop {M0 : Store} {d1 d2 : UInt8} {by_ : Int} {v : Value} {m : Nat} (hm : m ≤ 2 ^ 30) {Q : Value → Store → Prop} (hQ : ∀ M l, Up M0 M → N M0 M v l → l.length = m → Q v M) :
    ∀ (k i : Nat) (M : Store) (l : List UInt8), k + i = m → Up M0 M → N M0 M v l → l.length = m → P_acts_turned_1 (bv d1) (bv d2) (iv by_) v v (iv (m : Int)) (iv (i : Int)) M Q := by
  intro k
  induction k with
  | zero =>
    intro i M l hi hu h hl
    apply T_acts_turned_1
    unfold S_acts_turned_1
    rw [lss_n, BR_dec, if_neg (by omega)]
    apply T_acts_turned_3
    unfold S_acts_turned_3
    exact ⟨nts_of h.by, hQ M l hu h hl⟩
  | succ k ih =>
    intro i M l hi hu h hl
    apply T_acts_turned_1
    unfold S_acts_turned_1
    rw [lss_n, BR_dec, if_pos (by omega)]
    apply T_acts_turned_2
    unfold S_acts_turned_2
    have hil : i < l.length := by omega
    rw [by_ld h.by hil]
    generalize l[i] = c
    have hnext : P_acts_turned_1 (bv d1) (bv d2) (iv by_) v v (iv (m : Int)) (iv ((i + 1 : Nat) : Int)) M Q := ih (i + 1) M l (by omega) hu h hl
    show OP (binI .geq (bv c) (.int .u8 (d1.toNat : Int))) _
    rw [bv_geI (d := d1) rfl, BR_dec]
    split
    · show OP (binI .leq (bv c) (.int .u8 (d2.toNat : Int))) _
      rw [bv_leI (d := d2) rfl, BR_dec]
      split
      · show OP (cvI .i64 (.int .u8 (c.toNat : Int))) _
        rw [e_cvI]
        show OP (binI .add (.int .i64 _) (.int .i64 by_)) _
        rw [e_add, cv_u8N]
        refine b_turn h hil _ fun M' b hbx hb hbn _ c1 hN => ?_
        rw [add1_n _ (by omega)]
        exact ih (i + 1) M' _ (by omega) (hu.ch c1 (by simpa using hb)) hN (by rw [List.length_set]; exact hl)
      · rw [add1_n _ (by omega)]; exact hnext
    · rw [add1_n _ (by omega)]; exact hnext
theorem turned_ok {M : Store} {x : Value} {l : List UInt8} (h : B M x l) (hl : l.length ≤ 2 ^ 24) (d1 d2 : UInt8) (by_ : Int) : R F.acts_turned #[x, bv d1, bv d2, iv by_] M fun v M' => Up M M' ∧ ∃ l', N M M' v l' ∧ l'.length = l.length := by
  refine R.cps fun Q hQ => ?_
  apply T_acts_turned
  unfold S_acts_turned
  refine (Clone_ok h hl).mono fun v M1 ⟨u1, h1⟩ => ?_
  rw [by_len h1.by]
  exact turned_loop (by omega) (fun M' l' hu hN hl' => hQ _ _ ⟨hu, l', hN, hl'⟩) l.length 0 M1 l rfl u1 h1 rfl

/-! ## reversed -/
theorem rev_loop {M0 : Store} {v : Value} {m : Nat} (hm : m ≤ 2 ^ 30) {Q : Value → Store → Prop} (hQ : ∀ M l, Up M0 M → N M0 M v l → l.length = m → Q (.tuple #[]) M) :
    ∀ (k i : Nat) (M : Store) (l : List UInt8), k + i = m → Up M0 M → N M0 M v l → l.length = m → P_slices_Reverse_sl_byte_byte_1 v (iv (i : Int)) (iv ((m : Int) - 1 - i)) M Q := by
  intro k
  induction k with
  | zero =>
    intro i M l hi hu h hl
    apply T_slices_Reverse_sl_byte_byte_1
    unfold S_slices_Reverse_sl_byte_byte_1
    show OP (binI .lss (.int .i64 (i : Int)) (.int .i64 ((m : Int) - 1 - i))) _
    rw [e_lss, BR_dec, if_neg (by omega)]
    exact ⟨rfl, hQ M l hu h hl⟩
  | succ k ih =>
    intro i M l hi hu h hl
    apply T_slices_Reverse_sl_byte_byte_1
    unfold S_slices_Reverse_sl_byte_byte_1
    show OP (binI .lss (.int .i64 (i : Int)) (.int .i64 ((m : Int) - 1 - i))) _
    rw [e_lss, BR_dec]
    split
    · rename_i hlt
      apply T_slices_Reverse_sl_byte_byte_2
      unfold S_slices_Reverse_sl_byte_byte_2
      obtain ⟨j, hj⟩ : ∃ j : Nat, (m : Int) - 1 - i = (j : Int) := ⟨m - 1 - i, by omega⟩
      have hjl : j < l.length := by omega
      have hil : i < l.length := by omega
      rw [hj, by_ld h.by hjl, by_ld h.by hil]
      refine b_turn h hil _ fun M1 b hbx hb hbn ht c1 hN => ⟨ht _ _ _ (by simpa using hbn), ?_⟩
      refine b_turn hN (by rw [List.length_set]; exact hjl) _ fun M2 b2 hbx2 hb2 hbn2 ht2 c2 hN2 => ⟨?_, ?_⟩
      · have : b2 < M.n := by
          rw [hbx] at hbx2; injection hbx2 with e; omega
        exact ht2 _ _ _ (by simpa using this)
      · rw [add1_n _ (by omega)]
        show OP (binI .sub (.int .i64 (j : Int)) (.int .i64 1)) _
        rw [e_sub, w64 (by omega) (by omega)]
        have e : (j : Int) - 1 = (m : Int) - 1 - ((i + 1 : Nat) : Int) := by omega
        rw [e]
        exact ih (i + 1) M2 _ (by omega) ((hu.ch c1 (by simpa using hb)).ch c2 (by simpa using hb2)) hN2 (by simp [hl])
    · exact ⟨rfl, hQ M l hu h hl⟩
theorem Reverse_ok {M0 M : Store} {v : Value} {l : List UInt8} (hu : Up M0 M) (h : N M0 M v l) (hl : l.length ≤ 2 ^ 24) : R F.slices_Reverse_sl_byte_byte #[v] M fun r M' => Up M0 M' ∧ ∃ l', N M0 M' v l' ∧ l'.length = l.length := by
  refine R.cps fun Q hQ => ?_
  apply T_slices_Reverse_sl_byte_byte
  unfold S_slices_Reverse_sl_byte_byte
  rw [by_len h.by]
  show OP (binI .sub (.int .i64 (l.length : Int)) (.int .i64 1)) _
  rw [e_sub, w64 (by omega) (by omega)]
  have e : (l.length : Int) - 1 = (l.length : Int) - 1 - ((0 : Nat) : Int) := by omega
  rw [e]
  exact rev_loop (by omega) (fun M' l' hu hN hl' => hQ _ _ ⟨hu, l', hN, hl'⟩) l.length 0 M l rfl hu h rfl

/-! ## joined -/
theorem joined_loop {M0 : Store} {x : Value} {l s : List UInt8} (h : B M0 x l) (hl : l.length ≤ 2 ^ 10) (hs : s.length ≤ 2 ^ 10) {Q : Value → Store → Prop} (hQ : ∀ w M t, Up M0 M → N M0 M w t → t.length ≤ l.length * (s.length + 1) → Q w M) :
    ∀ (k i : Nat) (w : Value) (t : List UInt8) (M : Store), k + i = l.length → Up M0 M → N M0 M w t → t.length ≤ i * (s.length + 1) → P_acts_joined_1 (sv s) w x (iv (l.length : Int)) (iv (i : Int)) M Q := by
  intro k
  induction k with
  | zero =>
    intro i w t M hi hu hN ht
    apply T_acts_joined_1
    unfold S_acts_joined_1
    rw [lss_n, BR_dec, if_neg (by omega)]
    apply T_acts_joined_3
    unfold S_acts_joined_3
    have : i = l.length := by omega
    subst this
    exact ⟨nts_of hN.by, hQ w M t hu hN ht⟩
  | succ k ih =>
    intro i w t M hi hu hN ht
    apply T_acts_joined_1
    unfold S_acts_joined_1
    have hil : i < l.length := by omega
    have hmul : i * (s.length + 1) ≤ 2 ^ 10 * (2 ^ 10 + 1) := Nat.mul_le_mul (by omega) (by omega)
    rw [lss_n, BR_dec, if_pos hil]
    apply T_acts_joined_2
    unfold S_acts_joined_2
    rw [by_ld (Sl.up h hu) hil, gtr_l 0 0 rfl, BR_dec]
    generalize l[i] = c
    split
    · refine appT_ok hu hN s (by omega) fun w1 M1 hu1 hN1 _ => ?_
      rw [bl_bv]
      refine s_lit (s := 1) rfl fun M2 u2 h2 o2 n2 => ?_
      have hx2 : By Ty.uint8 M2 (.slice (some ⟨M1.n, 0, none⟩) 1 1) [c] := h2.sl
      refine app_by (hu1.trans u2) (Nw.up hN1 u2) hx2 (by simp; omega) fun w3 M3 hu3 hN3 _ => ?_
      rw [add1_n _ (by omega)]
      exact ih (i + 1) w3 _ M3 (by omega) hu3 hN3 (by simp [Nat.succ_mul]; omega)
    · rw [bl_bv]
      refine s_lit (s := 1) rfl fun M2 u2 h2 o2 n2 => ?_
      have hx2 : By Ty.uint8 M2 (.slice (some ⟨M.n, 0, none⟩) 1 1) [c] := h2.sl
      refine app_by (hu.trans u2) (Nw.up hN u2) hx2 (by simp; omega) fun w3 M3 hu3 hN3 _ => ?_
      rw [add1_n _ (by omega)]
      exact ih (i + 1) w3 _ M3 (by omega) hu3 hN3 (by simp [Nat.succ_mul]; omega)
theorem joined_ok {M : Store} {x : Value} {l s : List UInt8} (h : B M x l) (hl : l.length ≤ 2 ^ 10) (hs : s.length ≤ 2 ^ 10) : R F.acts_joined #[x, sv s] M fun v M' => Up M M' ∧ ∃ t, N M M' v t ∧ t.length ≤ l.length * (s.length + 1) := by
  refine R.cps fun Q hQ => ?_
  apply T_acts_joined
  unfold S_acts_joined
  rw [by_len h]
  exact joined_loop h hl hs (fun w M' t hu hN ht => hQ _ _ ⟨hu, t, hN, ht⟩) l.length 0 _ [] M rfl (Ch.refl _ _) (Nw.nil _ _ _ _) (by simp)
end Go.G

namespace Go.G
open Go.Ab Go.Proofs Go.RowKit
set_option linter.unusedVariables false
set_option linter.unusedSimpArgs false
set_option maxRecDepth 100000

abbrev BL (M : Store) (v : Value) (ls : List (List UInt8)) : Prop := Ls B Ty.sl_uint8 M v ls
theorem B_up (M M' : Store) (v : Value) (x : List UInt8) (h : B M v x) (k : Up M M') : B M' v x := Sl.up h k
theorem bl_ld {M : Store} {v : Value} {ls : List (List UInt8)} (h : BL M v ls) {i : Nat} (hi : i < ls.length) {K : Value → Prop} (hK : ∀ w, B M w ls[i] → K w) : OP (ixA 1 v (iv (i : Int))) fun p => OP (ld 1 false p M) K := by
  obtain ⟨p, w, e1, e2, e3⟩ := h.at hi .i64
  show OP (ixA 1 v (.int .i64 (i : Int))) _
  rw [e1, OP_some, e2, OP_some]
  exact hK w e3

/-! ## room, and together -/
theorem Grow6_ok {M : Store} {n : Nat} (hn : n ≤ 2 ^ 20) : R F.slices_Grow_sl_byte_byte #[.slice none 0 0, iv (n : Int)] M fun v M' => Up M M' ∧ N M M' v [] := by
  refine R.cps fun Q hQ => ?_
  apply T_slices_Grow_sl_byte_byte
  unfold S_slices_Grow_sl_byte_byte
  show OP (binI .lss (.int .i64 (n : Int)) (.int .i64 0)) _
  rw [e_lss, BR_dec, if_neg (by omega)]
  apply T_slices_Grow_sl_byte_byte_1
  unfold S_slices_Grow_sl_byte_byte_1
  simp only [show capV (.slice none 0 0) = some (.int .i64 0) from rfl, show lenV (.slice none 0 0) = some (.int .i64 0) from rfl, OP_some]
  rw [e_sub]
  show OP (binI .sub (.int .i64 (n : Int)) (.int .i64 0)) _
  rw [e_sub, w64 (by omega) (by omega), Int.sub_zero]
  show OP (binI .gtr (.int .i64 (n : Int)) (.int .i64 0)) _
  rw [e_gtr, BR_dec]
  split
  · rename_i hpos
    have hp : 0 < n := by omega
    have hz : appZ (.int .u8 0) 1 Ty.uint8 (.slice none 0 0) (.int .i64 (n : Int)) M = some (.slice (some ⟨M.n, 0, none⟩) n (n + 1), M.push (some (.inl (zerosL (.int .u8 0) n, Ty.uint8, true)))) := by
      unfold appZ newZ
      simp only
      rw [if_pos ⟨by omega, by omega⟩, Option.bind_some, Int.toNat_natCast, Nat.mul_one]
      unfold appG
      simp only
      rw [if_neg (by omega), if_pos (by omega)]
      simp [agrow]
    rw [show slV 1 Ty.uint8 (.slice none 0 0) none (some (.int .i64 0)) M = some (.slice none 0 0) by simp [slV, abound], OP_some]
    show OP2 (appZ (.int .u8 0) 1 Ty.uint8 (.slice none 0 0) (.int .i64 (n : Int)) M) _
    rw [hz, OP2_some]
    have hs : slV 1 Ty.uint8 (.slice (some ⟨M.n, 0, none⟩) n (n + 1)) none (some (.int .i64 0)) (M.push (some (.inl (zerosL (.int .u8 0) n, Ty.uint8, true)))) = some (.slice (some ⟨M.n, 0, none⟩) 0 1) := by
      have he : elemOk (M.push (some (.inl (zerosL (.int .u8 0) n, Ty.uint8, true)))) (some ⟨M.n, 0, none⟩) Ty.uint8 = true := by
        have hg : (M.push (some (.inl (zerosL (.int .u8 0) n, Ty.uint8, true)))).get M.n = some (.inl (zerosL (.int .u8 0) n, Ty.uint8, true)) := Ob.new _ _ _
        simp [elemOk, hg]
      simp [slV, abound, he, hp, Addr.add]
    show OP (slV 1 Ty.uint8 (.slice (some ⟨M.n, 0, none⟩) n (n + 1)) none (some (.int .i64 0)) (M.push (some (.inl (zerosL (.int .u8 0) n, Ty.uint8, true))))) _
    rw [hs, OP_some]
    have hu := Up.push M (some (.inl (zerosL (.int .u8 0) n, Ty.uint8, true)))
    exact ⟨rfl, hQ _ _ ⟨hu, rfl, .inr ⟨M.n, zerosL (.int .u8 0) n, 1, rfl, Nat.le_refl _, Ob.new _ _ _, by simp, by simp, .inr rfl⟩⟩⟩
  · exact ⟨rfl, hQ _ _ ⟨Ch.refl _ _, Nw.nil _ _ _ _⟩⟩
def sumL (ls : List (List UInt8)) : Nat := (ls.map List.length).sum
theorem sumL_snoc {ls : List (List UInt8)} {i : Nat} (h : i < ls.length) : sumL (ls.take (i + 1)) = sumL (ls.take i) + ls[i].length := by
  unfold sumL
  rw [List.take_succ_eq_append_getElem h, List.map_append, List.sum_append]
  have : (List.map List.length [ls[i]]).sum = ls[i].length := by simp
  rw [this]
theorem sumL_le (m : Nat) : ∀ ls : List (List UInt8), (∀ l ∈ ls, l.length ≤ m) → sumL ls ≤ ls.length * m
  | [], _ => by simp [sumL]
  | l :: ls, h => by
    have h1 := h l (by simp)
    have h2 := sumL_le m ls fun x hx => h x (by simp [hx])
    have e : sumL (l :: ls) = l.length + sumL ls := by simp [sumL]
    rw [e, List.length_cons, Nat.succ_mul]
    omega
theorem concat_loop {M : Store} {x : Value} {ls : List (List UInt8)} (h : BL M x ls) (hl : ls.length ≤ 100) (hs : ∀ l ∈ ls, l.length ≤ 2 ^ 12) {Q : Value → Store → Prop} (hK : P_slices_Concat_sl_byte_byte_3 x (iv (sumL ls : Int)) M Q) :
    ∀ (k i : Nat), k + i = ls.length → P_slices_Concat_sl_byte_byte_1 x (iv (sumL (ls.take i) : Int)) x (iv (ls.length : Int)) (iv (i : Int)) M Q := by
  intro k
  induction k with
  | zero =>
    intro i hi
    apply T_slices_Concat_sl_byte_byte_1
    unfold S_slices_Concat_sl_byte_byte_1
    rw [lss_n, BR_dec, if_neg (by omega), List.take_of_length_le (by omega)]
    exact hK
  | succ k ih =>
    intro i hi
    apply T_slices_Concat_sl_byte_byte_1
    unfold S_slices_Concat_sl_byte_byte_1
    have hil : i < ls.length := by omega
    rw [lss_n, BR_dec, if_pos hil]
    apply T_slices_Concat_sl_byte_byte_2
    unfold S_slices_Concat_sl_byte_byte_2
    refine bl_ld h hil fun w hw => ?_
    have h1 := hs _ (List.getElem_mem hil)
    have h2 := sumL_le (2 ^ 12) (ls.take i) fun l hl => hs l (List.mem_of_mem_take hl)
    have h3 : (ls.take i).length * 2 ^ 12 ≤ 100 * 2 ^ 12 := Nat.mul_le_mul_right _ (by rw [List.length_take]; omega)
    rw [by_len hw, add_n _ _ (by omega)]
    show OP (binI .lss (.int .i64 ((sumL (ls.take i) + ls[i].length : Nat) : Int)) (.int .i64 0)) _
    rw [e_lss, BR_dec, if_neg (by omega), add1_n _ (by omega), ← sumL_snoc hil]
    exact ih (i + 1) (by omega)
theorem concat_loop2 {M0 : Store} {x : Value} {ls : List (List UInt8)} (h : BL M0 x ls) (hl : ls.length ≤ 100) (hs : ∀ l ∈ ls, l.length ≤ 2 ^ 12) {Q : Value → Store → Prop} (hQ : ∀ w M t, Up M0 M → N M0 M w t → t.length = sumL ls → Q w M) :
    ∀ (k i : Nat) (w : Value) (t : List UInt8) (M : Store), k + i = ls.length → Up M0 M → N M0 M w t → t.length = sumL (ls.take i) → P_slices_Concat_sl_byte_byte_4 w x (iv (ls.length : Int)) (iv (i : Int)) M Q := by
  intro k
  induction k with
  | zero =>
    intro i w t M hi hu hN ht
    apply T_slices_Concat_sl_byte_byte_4
    unfold S_slices_Concat_sl_byte_byte_4
    rw [lss_n, BR_dec, if_neg (by omega)]
    apply T_slices_Concat_sl_byte_byte_5
    unfold S_slices_Concat_sl_byte_byte_5
    rw [List.take_of_length_le (by omega)] at ht
    exact ⟨nts_of hN.by, hQ w M t hu hN ht⟩
  | succ k ih =>
    intro i w t M hi hu hN ht
    apply T_slices_Concat_sl_byte_byte_4
    unfold S_slices_Concat_sl_byte_byte_4
    have hil : i < ls.length := by omega
    rw [lss_n, BR_dec, if_pos hil]
    refine bl_ld (h.up B_up hu) hil fun u hw => ?_
    have h1 := hs _ (List.getElem_mem hil)
    have h2 := sumL_le (2 ^ 12) (ls.take i) fun l hl => hs l (List.mem_of_mem_take hl)
    have h3 : (ls.take i).length * 2 ^ 12 ≤ 100 * 2 ^ 12 := Nat.mul_le_mul_right _ (by rw [List.length_take]; omega)
    refine app_by hu hN hw (by omega) fun w1 M1 hu1 hN1 _ => ?_
    rw [add1_n _ (by omega)]
    exact ih (i + 1) w1 _ M1 (by omega) hu1 hN1 (by rw [List.length_append, ht, sumL_snoc hil])
theorem Concat6_ok {M : Store} {x : Value} {ls : List (List UInt8)} (h : BL M x ls) (hl : ls.length ≤ 100) (hs : ∀ l ∈ ls, l.length ≤ 2 ^ 12) : R F.slices_Concat_sl_byte_byte #[x] M fun v M' => Up M M' ∧ ∃ t, N M M' v t ∧ t.length = sumL ls := by
  refine R.cps fun Q hQ => ?_
  apply T_slices_Concat_sl_byte_byte
  unfold S_slices_Concat_sl_byte_byte
  rw [h.lenV, OP_some]
  refine concat_loop h hl hs ?_ ls.length 0 rfl
  apply T_slices_Concat_sl_byte_byte_3
  unfold S_slices_Concat_sl_byte_byte_3
  have h2 := sumL_le (2 ^ 12) ls hs
  have h3 : ls.length * 2 ^ 12 ≤ 100 * 2 ^ 12 := Nat.mul_le_mul_right _ hl
  refine (Grow6_ok (n := sumL ls) (by omega)).mono fun w M1 ⟨u1, h1⟩ => ?_
  rw [(h.up B_up u1).lenV, OP_some]
  exact concat_loop2 (M0 := M) h hl hs (fun w M' t hu hN ht => hQ _ _ ⟨hu, t, hN, ht⟩) ls.length 0 w [] M1 rfl u1 h1 rfl
end Go.G

namespace Go.G
open Go.Ab Go.Proofs Go.RowKit
set_option linter.unusedVariables false
set_option linter.unusedSimpArgs false
set_option maxRecDepth 100000

/-! ## all of them together -/
theorem byteOf_bv : ∀ l : List UInt8, Go.Ab.byteOf (l.map bv) = some l
  | [] => rfl
  | c :: l => by
    have h : Nat.blt c.toNat 256 = true := by have := c.toNat_lt; simpa using this
    show (bif Nat.blt c.toNat 256 then (Go.Ab.byteOf (l.map bv)).map (UInt8.ofNat c.toNat :: ·) else none) = _
    rw [h, cond_true, byteOf_bv l]
    simp
theorem partOf_B {M : Store} {v : Value} {l : List UInt8} (h : B M v l) : partOf M v = some l := by
  obtain ⟨h1, a, c, rfl, h3, h4⟩ := h
  cases l with
  | nil => rfl
  | cons x l =>
    obtain ⟨b, o, cells, e', own, rfl, h6, h7, h8, h9⟩ := h4 (by simp)
    have e : Nat.beq (x :: l).length 0 = false := rfl
    have hr := row_of (o := o) (k := (x :: l).length) h6 (by rw [Nat.mul_one] at h8; exact h8)
    simp only [partOf, e, cond_false, hr, Option.bind_some]
    rw [Nat.mul_one] at h9
    rw [h9]
    exact byteOf_bv _
theorem partsOf_B {M : Store} : ∀ {vs : List Value} {ls : List (List UInt8)}, Each (B M) vs ls → partsOf M vs = some ls
  | [], [], _ => rfl
  | v :: vs, l :: ls, h => by
    simp only [partsOf]
    rw [partOf_B h.1, partsOf_B h.2]; rfl
theorem Join_ok {M : Store} {x : Value} {ls : List (List UInt8)} (h : BL M x ls) (hl : ls.length ≤ 100) (hs : ∀ l ∈ ls, l.length ≤ 2 ^ 12) {Q : Value → Store → Prop} (hQ : ∀ v M', Up M M' → B M' v (joinL [] ls) → Q v M') : R F.bytes_Join #[x, .slice none 0 0] M Q := by
  have hle : (joinL [] ls).length ≤ 100 * 2 ^ 12 := by
    rw [joinL_nil, List.length_flatten]
    have h2 := sumL_le (2 ^ 12) ls hs
    have h3 : ls.length * 2 ^ 12 ≤ 100 * 2 ^ 12 := Nat.mul_le_mul_right _ hl
    unfold sumL at h2; omega
  obtain ⟨vs, ⟨h1, a, c, rfl, h3, h4⟩, hE⟩ := h
  have hx : ∃ v M', bjoinX #[.slice a ls.length c, .slice none 0 0] M = some (v, M') ∧ Up M M' ∧ B M' v (joinL [] ls) := by
    cases ls with
    | nil => exact ⟨.slice (some ⟨0, 0, none⟩) 0 2, M, rfl, Ch.refl _ _, ⟨rfl, _, 2, rfl, fun x hx => by injection hx with hx; subst hx; rfl, fun h => absurd h (Nat.lt_irrefl 0)⟩⟩
    | cons l ls =>
      obtain ⟨b, o, cells, e', own, rfl, h6, h7, h8, h9⟩ := h4 (by simp)
      have e : Nat.beq (l :: ls).length 0 = false := rfl
      have hr := row_of (o := o) (k := (l :: ls).length) h6 (by rw [Nat.mul_one] at h8; exact h8)
      rw [Nat.mul_one] at h9
      have hp : (rowOf M b o (l :: ls).length).bind (partsOf M) = some (l :: ls) := by rw [hr, Option.bind_some, h9]; exact partsOf_B hE
      have hn : Nat.ble (l :: ls).length 140737488355328 = true := Nat.ble_eq_true_of_le (by omega)
      show ∃ v M', (bif Nat.beq (l :: ls).length 0 then some (Value.slice (some ⟨0, 0, none⟩) 0 2, M) else match (rowOf M b o (l :: ls).length).bind (partsOf M) with
        | some ls' => bif Nat.beq (joinL [] ls').length 0 then (bif Nat.beq (l :: ls).length 1 then some (Value.slice none 0 0, M) else bif Nat.ble (l :: ls).length 140737488355328 then some (Value.slice (some ⟨0, 0, none⟩) 0 2, M) else none)
          else bif Nat.ble (joinL [] ls').length 140737488355328 && Nat.ble (l :: ls).length 140737488355328 then some (Value.slice (some ⟨M.n, 0, none⟩) (joinL [] ls').length ((joinL [] ls').length + 2), M.push (some (Sum.inl ((joinL [] ls').map bv, 0, false)))) else none
        | none => none) = some (v, M') ∧ _
      rw [e, cond_false, hp]
      simp only
      generalize joinL [] (l :: ls) = j at *
      have hj : Nat.ble j.length 140737488355328 = true := Nat.ble_eq_true_of_le (by omega)
      cases j with
      | nil =>
        have e0 : Nat.beq ([] : List UInt8).length 0 = true := rfl
        rw [e0, cond_true]
        cases Nat.beq (l :: ls).length 1 with
        | true => exact ⟨_, M, rfl, Ch.refl _ _, Sl.nil _ _ _⟩
        | false => rw [cond_false, hn, cond_true]; exact ⟨_, M, rfl, Ch.refl _ _, ⟨rfl, _, 2, rfl, fun x hx => by injection hx with hx; subst hx; rfl, fun h => absurd h (Nat.lt_irrefl 0)⟩⟩
      | cons q j =>
        have e0 : Nat.beq (q :: j).length 0 = false := rfl
        rw [e0, cond_false, hj, hn, Bool.true_and, cond_true]
        refine ⟨_, _, rfl, Up.push _ _, ⟨by simp, _, _, rfl, fun x hx => by injection hx with hx; subst hx; rfl, fun _ => ⟨M.n, 0, (q :: j).map bv, 0, false, rfl, Store.get_push_eq _ _, (fun h => by cases h), (by simp), (by rw [List.drop_zero, List.take_of_length_le (by simp)])⟩⟩⟩
  obtain ⟨v, M', e, hu, hB⟩ := hx
  exact R_told (g := bjoinB) (by kernel_rfl) e (hQ v M' hu hB)
end Go.G

namespace Go.G
open Go.Ab Go.Proofs Go.RowKit
set_option linter.unusedVariables false
set_option linter.unusedSimpArgs false
set_option maxRecDepth 100000

theorem joinL_le {ls : List (List UInt8)} (hl : ls.length ≤ 100) (hs : ∀ l ∈ ls, l.length ≤ 2 ^ 12) : (joinL [] ls).length ≤ 100 * 2 ^ 12 := by
  rw [joinL_nil, List.length_flatten]
  have h2 := sumL_le (2 ^ 12) ls hs
  have h3 : ls.length * 2 ^ 12 ≤ 100 * 2 ^ 12 := Nat.mul_le_mul_right _ hl
  unfold sumL at h2; omega
theorem e_lit2c (z : Value) (a b : Option Addr) (n1 c1 n2 c2 : Nat) (K : List Value → Prop) : OP (bldL z 1 2 [(0, .slice a n1 c1), (1, .slice b n2 c2)]) K = K [.slice a n1 c1, .slice b n2 c2] := by kernel_rfl
theorem tp2b (a : Value) (ok : Bool) : (∀ K : Value → Prop, OP (tup (.tuple #[a, .bool ok]) 0) K = K a) ∧ (∀ K : Value → Prop, OP (tup (.tuple #[a, .bool ok]) 1) K = K (.bool ok)) := tp2 a (.bool ok)
end Go.G

namespace Go.G
open Go.Ab Go.Proofs Go.RowKit
set_option linter.unusedVariables false
set_option linter.unusedSimpArgs false
set_option maxRecDepth 100000

/-! ## turned -/
theorem turnedE_loop {M0 : Store} {d1 d2 : UInt8} {by_ : Int} (hby : -1000 ≤ by_ ∧ by_ ≤ 1000) {v : Value} {l0 : List UInt8} (hm : l0.length ≤ 2 ^ 30) {Q : Value → Store → Prop} (hQ : ∀ M, Up M0 M → N M0 M v (l0.map (turnB d1 d2 by_)) → Q v M) :
    ∀ (k i : Nat) (M : Store) (l : List UInt8), k + i = l0.length → Up M0 M → N M0 M v l → (hl : l.length = l0.length) → (∀ p (h1 : p < l.length) (h2 : p < l0.length), l[p] = if p < i then turnB d1 d2 by_ l0[p] else l0[p]) →
      P_acts_turned_1 (bv d1) (bv d2) (iv by_) v v (iv (l0.length : Int)) (iv (i : Int)) M Q := by
  intro k
  induction k with
  | zero =>
    intro i M l hi hu h hl hp
    apply T_acts_turned_1
    unfold S_acts_turned_1
    rw [lss_n, BR_dec, if_neg (by omega)]
    apply T_acts_turned_3
    unfold S_acts_turned_3
    have : l = l0.map (turnB d1 d2 by_) := List.ext_getElem (by simpa using hl) fun p h1 h2 => by
      rw [hp p h1 (by omega), if_pos (by omega), List.getElem_map]
    subst this
    exact ⟨nts_of h.by, hQ M hu h⟩
  | succ k ih =>
    intro i M l hi hu h hl hp
    apply T_acts_turned_1
    unfold S_acts_turned_1
    rw [lss_n, BR_dec, if_pos (by omega)]
    apply T_acts_turned_2
    unfold S_acts_turned_2
    have hil : i < l.length := by omega
    have hi0 : i < l0.length := by omega
    have hli : l[i] = l0[i] := by rw [hp i hil hi0, if_neg (by omega)]
    rw [by_ld h.by hil, hli]
    have hsame : turnB d1 d2 by_ l0[i] = l0[i] → P_acts_turned_1 (bv d1) (bv d2) (iv by_) v v (iv (l0.length : Int)) (iv ((i + 1 : Nat) : Int)) M Q := fun he => ih (i + 1) M l (by omega) hu h hl fun p h1 h2 => by
      rw [hp p h1 h2]
      by_cases e : p = i
      · subst e; rw [if_neg (by omega), if_pos (by omega), he]
      · by_cases e2 : p < i
        · rw [if_pos e2, if_pos (by omega)]
        · rw [if_neg e2, if_neg (by omega)]
    show OP (binI .geq (bv l0[i]) (.int .u8 (d1.toNat : Int))) _
    rw [bv_geI (d := d1) rfl, BR_dec]
    split
    · rename_i h1
      show OP (binI .leq (bv l0[i]) (.int .u8 (d2.toNat : Int))) _
      rw [bv_leI (d := d2) rfl, BR_dec]
      split
      · rename_i h2
        show OP (cvI .i64 (.int .u8 (l0[i].toNat : Int))) _
        have hc := l0[i].toNat_lt
        rw [e_cvI, w64 (by omega) (by omega)]
        show OP (binI .add (.int .i64 _) (.int .i64 by_)) _
        rw [e_add, w64 (by omega) (by omega), cv_u8N]
        refine b_turn h hil _ fun M' b _ hb hbn _ c1 hN => ?_
        rw [add1_n _ (by omega)]
        refine ih (i + 1) M' _ (by omega) (hu.ch c1 (by simpa using hb)) hN (by rw [List.length_set]; exact hl) fun p h1' h2' => ?_
        rw [List.getElem_set]
        split
        · rename_i e
          subst e
          rw [if_pos (by omega)]
          unfold turnB
          rw [if_pos h1, if_pos h2]
        · rename_i e
          have h1'' : p < l.length := by simpa using h1'
          rw [hp p h1'' h2']
          by_cases e2 : p < i
          · rw [if_pos e2, if_pos (by omega)]
          · rw [if_neg e2, if_neg (by omega)]
      · rename_i h2
        rw [add1_n _ (by omega)]; exact hsame (by unfold turnB; rw [if_pos h1, if_neg h2])
    · rename_i h1
      rw [add1_n _ (by omega)]; exact hsame (by unfold turnB; rw [if_neg h1])
theorem turnedE {M : Store} {x : Value} {l : List UInt8} (h : B M x l) (hl : l.length ≤ 2 ^ 24) (d1 d2 : UInt8) (by_ : Int) (hby : -1000 ≤ by_ ∧ by_ ≤ 1000) : R F.acts_turned #[x, bv d1, bv d2, iv by_] M fun v M' => Up M M' ∧ N M M' v (l.map (turnB d1 d2 by_)) := by
  refine R.cps fun Q hQ => ?_
  apply T_acts_turned
  unfold S_acts_turned
  refine (Clone_ok h hl).mono fun v M1 ⟨u1, h1⟩ => ?_
  rw [by_len h1.by]
  exact turnedE_loop hby (by omega) (fun M' hu hN => hQ _ _ ⟨hu, hN⟩) l.length 0 M1 l rfl u1 h1 rfl (fun p h1 h2 => by rw [if_neg (by omega)])

/-! ## reversed -/
theorem revE_loop {M0 : Store} {v : Value} {l0 : List UInt8} (hm : l0.length ≤ 2 ^ 30) {Q : Value → Store → Prop} (hQ : ∀ M, Up M0 M → N M0 M v l0.reverse → Q (.tuple #[]) M) :
    ∀ (k i : Nat) (M : Store) (l : List UInt8), k + i = l0.length → Up M0 M → N M0 M v l → (hl : l.length = l0.length) → 2 * i ≤ l0.length + 1 → (∀ p (h1 : p < l.length) (h2 : p < l0.length), l[p] = if p < i ∨ l0.length - i ≤ p then l0[l0.length - 1 - p] else l0[p]) →
      P_slices_Reverse_sl_byte_byte_1 v (iv (i : Int)) (iv ((l0.length : Int) - 1 - i)) M Q := by
  intro k
  have fin : ∀ (i : Nat) (M : Store) (l : List UInt8), Up M0 M → N M0 M v l → (hl : l.length = l0.length) → ¬ ((i : Int) < (l0.length : Int) - 1 - i) → (∀ p (h1 : p < l.length) (h2 : p < l0.length), l[p] = if p < i ∨ l0.length - i ≤ p then l0[l0.length - 1 - p] else l0[p]) → Q (.tuple #[]) M := by
    intro i M l hu h hl hn hp
    have : l = l0.reverse := List.ext_getElem (by simpa using hl) fun p h1 h2 => by
      rw [hp p h1 (by omega), List.getElem_reverse]
      split
      · rfl
      · rename_i hc
        have e : l0.length - 1 - p = p := by omega
        simp only [e]
    subst this
    exact hQ M hu h
  induction k with
  | zero =>
    intro i M l hi hu h hl h2i hp
    apply T_slices_Reverse_sl_byte_byte_1
    unfold S_slices_Reverse_sl_byte_byte_1
    show OP (binI .lss (.int .i64 (i : Int)) (.int .i64 ((l0.length : Int) - 1 - i))) _
    rw [e_lss, BR_dec, if_neg (by omega)]
    exact ⟨rfl, fin i M l hu h hl (by omega) hp⟩
  | succ k ih =>
    intro i M l hi hu h hl h2i hp
    apply T_slices_Reverse_sl_byte_byte_1
    unfold S_slices_Reverse_sl_byte_byte_1
    show OP (binI .lss (.int .i64 (i : Int)) (.int .i64 ((l0.length : Int) - 1 - i))) _
    rw [e_lss, BR_dec]
    split
    · rename_i hlt
      apply T_slices_Reverse_sl_byte_byte_2
      unfold S_slices_Reverse_sl_byte_byte_2
      obtain ⟨j, hj⟩ : ∃ j : Nat, (l0.length : Int) - 1 - i = (j : Int) := ⟨l0.length - 1 - i, by omega⟩
      have hjl : j < l.length := by omega
      have hil : i < l.length := by omega
      rw [hj, by_ld h.by hjl, by_ld h.by hil]
      refine b_turn h hil _ fun M1 b hbx hb hbn ht c1 hN => ⟨ht _ _ _ (by simpa using hbn), ?_⟩
      refine b_turn hN (by rw [List.length_set]; exact hjl) _ fun M2 b2 hbx2 hb2 hbn2 ht2 c2 hN2 => ⟨?_, ?_⟩
      · have : b2 < M.n := by
          rw [hbx] at hbx2; injection hbx2 with e; omega
        exact ht2 _ _ _ (by simpa using this)
      · rw [add1_n _ (by omega)]
        show OP (binI .sub (.int .i64 (j : Int)) (.int .i64 1)) _
        rw [e_sub, w64 (by omega) (by omega)]
        have e : (j : Int) - 1 = (l0.length : Int) - 1 - ((i + 1 : Nat) : Int) := by omega
        rw [e]
        refine ih (i + 1) M2 _ (by omega) ((hu.ch c1 (by simpa using hb)).ch c2 (by simpa using hb2)) hN2 (by simp [hl]) (by omega) fun p h1 h2 => ?_
        have h1' : p < l.length := by simpa using h1
        have pj := hp j hjl (by omega)
        have pi := hp i hil (by omega)
        rw [if_neg (by omega)] at pj pi
        rw [List.getElem_set]
        split
        · rename_i e
          rw [if_pos (by omega)]
          refine pi.trans ?_
          have e2 : l0.length - 1 - p = i := by omega
          simp only [e2]
        · rw [List.getElem_set]
          split
          · rename_i e
            rw [if_pos (by omega)]
            refine pj.trans ?_
            have e2 : l0.length - 1 - p = j := by omega
            simp only [e2]
          · rename_i e3 e4
            rw [hp p h1' h2]
            by_cases hc : p < i ∨ l0.length - i ≤ p
            · rw [if_pos hc, if_pos (by omega)]
            · rw [if_neg hc, if_neg (by omega)]
    · rename_i hn
      exact ⟨rfl, fin i M l hu h hl hn hp⟩
theorem ReverseE {M0 M : Store} {v : Value} {l : List UInt8} (hu : Up M0 M) (h : N M0 M v l) (hl : l.length ≤ 2 ^ 24) : R F.slices_Reverse_sl_byte_byte #[v] M fun r M' => Up M0 M' ∧ N M0 M' v l.reverse := by
  refine R.cps fun Q hQ => ?_
  apply T_slices_Reverse_sl_byte_byte
  unfold S_slices_Reverse_sl_byte_byte
  rw [by_len h.by]
  show OP (binI .sub (.int .i64 (l.length : Int)) (.int .i64 1)) _
  rw [e_sub, w64 (by omega) (by omega)]
  have e : (l.length : Int) - 1 = (l.length : Int) - 1 - ((0 : Nat) : Int) := by omega
  rw [e]
  exact revE_loop (by omega) (fun M' hu hN => hQ _ _ ⟨hu, hN⟩) l.length 0 M l rfl hu h rfl (by omega) (fun p h1 h2 => by rw [if_neg (by omega)])
end Go.G

namespace Go.G
open Go.Ab Go.Proofs Go.RowKit
set_option linter.unusedVariables false
set_option linter.unusedSimpArgs false
set_option maxRecDepth 100000

theorem joinB6_snoc (s : List UInt8) (c : UInt8) : ∀ xs : List UInt8, xs ≠ [] → joinB6 s (xs ++ [c]) = (joinB6 s xs ++ s) ++ [c]
  | [], h => absurd rfl h
  | [x], _ => by simp [joinB6]
  | x :: y :: r, _ => by
    have ih := joinB6_snoc s c (y :: r) (by simp)
    simp only [List.cons_append] at ih
    simp only [List.cons_append, joinB6, ih, List.append_assoc]
theorem joinB6_len (s : List UInt8) : ∀ xs : List UInt8, (joinB6 s xs).length ≤ xs.length * (s.length + 1)
  | [] => by simp [joinB6]
  | [x] => by simp [joinB6]
  | x :: y :: r => by
    have ih := joinB6_len s (y :: r)
    simp only [joinB6, List.length_cons, List.length_append] at *
    rw [Nat.succ_mul (r.length + 1)]
    omega
theorem joinedE_loop {M0 : Store} {x : Value} {l s : List UInt8} (h : B M0 x l) (hl : l.length ≤ 2 ^ 10) (hs : s.length ≤ 2 ^ 10) {Q : Value → Store → Prop} (hQ : ∀ w M, Up M0 M → N M0 M w (joinB6 s l) → Q w M) :
    ∀ (k i : Nat) (w : Value) (M : Store), k + i = l.length → Up M0 M → N M0 M w (joinB6 s (l.take i)) → P_acts_joined_1 (sv s) w x (iv (l.length : Int)) (iv (i : Int)) M Q := by
  intro k
  induction k with
  | zero =>
    intro i w M hi hu hN
    apply T_acts_joined_1
    unfold S_acts_joined_1
    rw [lss_n, BR_dec, if_neg (by omega)]
    apply T_acts_joined_3
    unfold S_acts_joined_3
    rw [List.take_of_length_le (by omega)] at hN
    exact ⟨nts_of hN.by, hQ w M hu hN⟩
  | succ k ih =>
    intro i w M hi hu hN
    apply T_acts_joined_1
    unfold S_acts_joined_1
    have hil : i < l.length := by omega
    have ht := joinB6_len s (l.take i)
    rw [List.length_take, Nat.min_eq_left (by omega)] at ht
    have hmul : i * (s.length + 1) ≤ 2 ^ 10 * (2 ^ 10 + 1) := Nat.mul_le_mul (by omega) (by omega)
    have hsn := List.take_succ_eq_append_getElem hil
    rw [lss_n, BR_dec, if_pos hil]
    apply T_acts_joined_2
    unfold S_acts_joined_2
    rw [by_ld (Sl.up h hu) hil, gtr_l 0 0 rfl, BR_dec]
    generalize l[i] = c at *
    split
    · rename_i hi0
      have hne : l.take i ≠ [] := by intro e; have := congrArg List.length e; rw [List.length_take, List.length_nil] at this; omega
      refine appT_ok hu hN s (by omega) fun w1 M1 hu1 hN1 _ => ?_
      rw [bl_bv]
      refine s_lit (s := 1) rfl fun M2 u2 h2 o2 n2 => ?_
      have hx2 : By Ty.uint8 M2 (.slice (some ⟨M1.n, 0, none⟩) 1 1) [c] := h2.sl
      refine app_by (hu1.trans u2) (Nw.up hN1 u2) hx2 (by rw [List.length_append, List.length_singleton]; omega) fun w3 M3 hu3 hN3 _ => ?_
      rw [add1_n _ (by omega)]
      exact ih (i + 1) w3 M3 (by omega) hu3 (by rw [hsn, joinB6_snoc s c _ hne]; exact hN3)
    · rename_i hi0
      have i0 : i = 0 := by omega
      subst i0
      rw [bl_bv]
      refine s_lit (s := 1) rfl fun M2 u2 h2 o2 n2 => ?_
      have hx2 : By Ty.uint8 M2 (.slice (some ⟨M.n, 0, none⟩) 1 1) [c] := h2.sl
      refine app_by (hu.trans u2) (Nw.up hN u2) hx2 (by rw [List.length_singleton]; omega) fun w3 M3 hu3 hN3 _ => ?_
      rw [add1_n _ (by omega)]
      exact ih (0 + 1) w3 M3 (by omega) hu3 (by rw [hsn]; exact hN3)
theorem joinedE {M : Store} {x : Value} {l s : List UInt8} (h : B M x l) (hl : l.length ≤ 2 ^ 10) (hs : s.length ≤ 2 ^ 10) : R F.acts_joined #[x, sv s] M fun v M' => Up M M' ∧ N M M' v (joinB6 s l) := by
  refine R.cps fun Q hQ => ?_
  apply T_acts_joined
  unfold S_acts_joined
  rw [by_len h]
  exact joinedE_loop h hl hs (fun w M' hu hN => hQ _ _ ⟨hu, hN⟩) l.length 0 _ M rfl (Ch.refl _ _) (Nw.nil _ _ _ _)
theorem concatE_loop {M0 : Store} {x : Value} {ls : List (List UInt8)} (h : BL M0 x ls) (hl : ls.length ≤ 100) (hs : ∀ l ∈ ls, l.length ≤ 2 ^ 12) {Q : Value → Store → Prop} (hQ : ∀ w M, Up M0 M → N M0 M w ls.flatten → Q w M) :
    ∀ (k i : Nat) (w : Value) (M : Store), k + i = ls.length → Up M0 M → N M0 M w (ls.take i).flatten → P_slices_Concat_sl_byte_byte_4 w x (iv (ls.length : Int)) (iv (i : Int)) M Q := by
  intro k
  induction k with
  | zero =>
    intro i w M hi hu hN
    apply T_slices_Concat_sl_byte_byte_4
    unfold S_slices_Concat_sl_byte_byte_4
    rw [lss_n, BR_dec, if_neg (by omega)]
    apply T_slices_Concat_sl_byte_byte_5
    unfold S_slices_Concat_sl_byte_byte_5
    rw [List.take_of_length_le (by omega)] at hN
    exact ⟨nts_of hN.by, hQ w M hu hN⟩
  | succ k ih =>
    intro i w M hi hu hN
    apply T_slices_Concat_sl_byte_byte_4
    unfold S_slices_Concat_sl_byte_byte_4
    have hil : i < ls.length := by omega
    rw [lss_n, BR_dec, if_pos hil]
    refine bl_ld (h.up B_up hu) hil fun u hw => ?_
    have h1 := hs _ (List.getElem_mem hil)
    have h2 := sumL_le (2 ^ 12) (ls.take i) fun l hl => hs l (List.mem_of_mem_take hl)
    have h3 : (ls.take i).length * 2 ^ 12 ≤ 100 * 2 ^ 12 := Nat.mul_le_mul_right _ (by rw [List.length_take]; omega)
    have h4 : (ls.take i).flatten.length = sumL (ls.take i) := by rw [List.length_flatten]; rfl
    refine app_by hu hN hw (by omega) fun w1 M1 hu1 hN1 _ => ?_
    rw [add1_n _ (by omega)]
    exact ih (i + 1) w1 M1 (by omega) hu1 (by rw [List.take_succ_eq_append_getElem hil, List.flatten_append]; simpa using hN1)
theorem ConcatE {M : Store} {x : Value} {ls : List (List UInt8)} (h : BL M x ls) (hl : ls.length ≤ 100) (hs : ∀ l ∈ ls, l.length ≤ 2 ^ 12) : R F.slices_Concat_sl_byte_byte #[x] M fun v M' => Up M M' ∧ N M M' v ls.flatten := by
  refine R.cps fun Q hQ => ?_
  apply T_slices_Concat_sl_byte_byte
  unfold S_slices_Concat_sl_byte_byte
  rw [h.lenV, OP_some]
  refine concat_loop h hl hs ?_ ls.length 0 rfl
  apply T_slices_Concat_sl_byte_byte_3
  unfold S_slices_Concat_sl_byte_byte_3
  have h2 := sumL_le (2 ^ 12) ls hs
  have h3 : ls.length * 2 ^ 12 ≤ 100 * 2 ^ 12 := Nat.mul_le_mul_right _ hl
  refine (Grow6_ok (n := sumL ls) (by omega)).mono fun w M1 ⟨u1, h1⟩ => ?_
  rw [(h.up B_up u1).lenV, OP_some]
  exact concatE_loop (M0 := M) h hl hs (fun w M' hu hN => hQ _ _ ⟨hu, hN⟩) ls.length 0 w M1 rfl u1 h1

/-- What a step, or a run, comes to. -/
def StepR (M0 M : Store) (r : Value) : Option (List UInt8) → Prop
  | none => r = .tuple #[.slice none 0 0, .bool false]
  | some t => ∃ w, r = .tuple #[w, .bool true] ∧ B M w t ∧ t.length ≤ 2 ^ 20
theorem stepE {M : Store} {x1 x2 : Value} {ins : List (List UInt8)} {b : List UInt8} {d : Dw} (hi : BL M x1 ins) (hil : ins.length ≤ 100) (his : ∀ l ∈ ins, l.length ≤ 2 ^ 12) (hb : B M x2 b) (hbl : b.length ≤ 256) (hd : 0 ≤ d.2.1) (hs : d.2.2.length ≤ 2 ^ 10) :
    R F.acts_step #[dv d, x1, x2] M fun r M' => Up M M' ∧ StepR M M' r (stepA d ins b) := by
  refine R.cps fun Q hQ => ?_
  apply T_acts_step
  unfold S_acts_step
  rw [dv_box, OP_some]
  refine s_new fun M1 u1 o1 n1 => ?_
  obtain ⟨k, n, s⟩ := d
  have o1 : Ob M1 M.n [iv k, iv n, sv s] Ty.api_Do := o1
  simp only at hd hs
  simp only [fad0, o1.l3]
  have fin : ∀ (w : Value) (t : List UInt8) (M' : Store), stepA (k, n, s) ins b = some t → Up M M' → B M' w t → t.length ≤ 2 ^ 20 → NTs [w, .bool true] ∧ Q (.tuple #[w, .bool true]) M' := fun w t M' he hu hB ht => ⟨by obtain ⟨a, c, rfl⟩ := hB.slice; rfl, hQ _ _ ⟨hu, by rw [he]; exact ⟨w, rfl, hB, ht⟩⟩⟩
  have fail : ∀ (M' : Store), stepA (k, n, s) ins b = none → Up M M' → NTs [(.slice none 0 0), .bool false] ∧ Q (.tuple #[(.slice none 0 0), .bool false]) M' := fun M' he hu => ⟨rfl, hQ _ _ ⟨hu, by rw [he]; rfl⟩⟩
  have hi1 := hi.up B_up u1
  have hb1 : B M1 x2 b := Sl.up hb u1
  obtain ⟨m, rfl⟩ := Int.eq_ofNat_of_zero_le hd
  have hmin : ∃ q : Nat, (if (b.length : Int) < (m : Int) then (b.length : Int) else (m : Int)) = (q : Int) ∧ q = min m b.length := by
    by_cases hj : (b.length : Int) < (m : Int)
    · exact ⟨b.length, by rw [if_pos hj], by omega⟩
    · exact ⟨m, by rw [if_neg hj], by omega⟩
  show OP (binI .eql (.int .i64 k) (.int .i64 1)) _
  rw [e_eql, BR_dec]
  unfold stepA at fin fail
  simp only at fin fail
  split
  · rename_i h1
    simp only [if_pos h1] at fin
    show OP2 (cvSB Ty.uint8 (.string ⟨s.toArray⟩) M1) _
    exact cvSB_ok (by omega) fun w M2 u2 h2 => fin w s M2 rfl (u1.trans u2) h2.by (by omega)
  rename_i h1
  simp only [if_neg h1] at fin fail
  show OP (binI .eql (.int .i64 k) (.int .i64 2)) _
  rw [e_eql, BR_dec]
  split
  · rename_i h2
    simp only [if_pos h2] at fin fail
    rw [hi1.lenV, OP_some]
    show OP (binI .geq (.int .i64 (m : Int)) (.int .i64 (ins.length : Int))) _
    rw [e_geq, BR_dec]
    split
    · rename_i hge
      simp only [if_neg (show ¬ (m : Int) < (ins.length : Int) by omega)] at fail
      exact fail M1 trivial u1
    · have hlt : (m : Int) < (ins.length : Int) := by omega
      simp only [if_pos hlt] at fin
      have hm : m < ins.length := by omega
      refine bl_ld hi1 hm fun w hw => ?_
      have := his _ (List.getElem_mem hm)
      refine (Clone_ok hw (by omega)).mono fun w2 M2 ⟨u2, h2⟩ => fin w2 _ M2 ?_ (u1.trans u2) h2.by (by omega)
      simp [List.getD_eq_getElem?_getD, List.getElem?_eq_getElem hm]
  rename_i h2
  simp only [if_neg h2] at fin fail
  show OP (binI .eql (.int .i64 k) (.int .i64 3)) _
  rw [e_eql, BR_dec]
  split
  · rename_i h3
    simp only [if_pos h3] at fin
    exact Join_ok hi1 hil his fun v M' hu hB => fin v _ M' (by rw [joinL_nil]) (u1.trans hu) hB (by have := joinL_le hil his; omega)
  rename_i h3
  simp only [if_neg h3] at fin fail
  show OP (binI .eql (.int .i64 k) (.int .i64 4)) _
  rw [e_eql, BR_dec]
  split
  · rename_i h4
    simp only [if_pos h4] at fin
    show R F.acts_turned #[x2, bv 97, bv 122, iv (-32)] M1 _
    exact (turnedE hb1 (by omega) 97 122 (-32) (by omega)).mono fun v M' ⟨hu, hN⟩ => fin v _ M' rfl (u1.trans hu) hN.by (by simp; omega)
  rename_i h4
  simp only [if_neg h4] at fin fail
  show OP (binI .eql (.int .i64 k) (.int .i64 5)) _
  rw [e_eql, BR_dec]
  split
  · rename_i h5
    simp only [if_pos h5] at fin
    show R F.acts_turned #[x2, bv 65, bv 90, iv 32] M1 _
    exact (turnedE hb1 (by omega) 65 90 32 (by omega)).mono fun v M' ⟨hu, hN⟩ => fin v _ M' rfl (u1.trans hu) hN.by (by simp; omega)
  rename_i h5
  simp only [if_neg h5] at fin fail
  show OP (binI .eql (.int .i64 k) (.int .i64 6)) _
  rw [e_eql, BR_dec]
  split
  · rename_i h6
    simp only [if_pos h6] at fin
    exact (Clone_ok hb1 (by omega)).mono fun v M2 ⟨u2, h2⟩ => (ReverseE (M0 := M1) u2 h2 (by omega)).mono fun r M3 ⟨u3, hN⟩ => fin v _ M3 rfl (u1.trans u3) hN.by (by simp; omega)
  rename_i h6
  simp only [if_neg h6] at fin fail
  show OP (binI .eql (.int .i64 k) (.int .i64 7)) _
  rw [e_eql, BR_dec]
  split
  · rename_i h7
    simp only [if_pos h7] at fin
    rw [by_len hb1]
    show OP (amin2 (.int .i64 (m : Int)) (.int .i64 (b.length : Int))) _
    rw [e_min]
    obtain ⟨q, hq, hql⟩ := hmin
    rw [hq]
    obtain ⟨v', e, hB⟩ := hb1.cut (lo := none) (hi := some (.int .i64 (q : Int))) (a := 0) (r := q) (by simp only [abound]; rw [if_pos ⟨by omega, by omega⟩]; rfl) rfl (by omega) (Nat.zero_le _)
    rw [e, OP_some]
    refine fin v' _ M1 ?_ u1 hB (by simp; omega)
    rw [List.drop_zero, Int.toNat_natCast, hql]
    by_cases hmb : m ≤ b.length
    · rw [Nat.min_eq_left hmb]
    · rw [Nat.min_eq_right (by omega), List.take_length, List.take_of_length_le (by omega)]
  rename_i h7
  simp only [if_neg h7] at fin fail
  show OP (binI .eql (.int .i64 k) (.int .i64 8)) _
  rw [e_eql, BR_dec]
  split
  · rename_i h8
    simp only [if_pos h8] at fin
    rw [by_len hb1]
    show OP (amin2 (.int .i64 (m : Int)) (.int .i64 (b.length : Int))) _
    rw [e_min]
    obtain ⟨q, hq, hql⟩ := hmin
    rw [hq]
    obtain ⟨v', e, hB⟩ := hb1.cut (lo := some (.int .i64 (q : Int))) (hi := none) (a := q) (r := b.length) rfl (by simp only [abound]; rw [if_pos ⟨by omega, by omega⟩]; rfl) (Nat.le_refl _) (by omega)
    rw [e, OP_some]
    refine fin v' _ M1 ?_ u1 hB (by simp; omega)
    rw [List.take_length, Int.toNat_natCast, hql]
    by_cases hmb : m ≤ b.length
    · rw [Nat.min_eq_left hmb]
    · rw [Nat.min_eq_right (by omega), List.drop_length, List.drop_of_length_le (by omega)]
  rename_i h8
  simp only [if_neg h8] at fin fail
  show OP (binI .eql (.int .i64 k) (.int .i64 9)) _
  rw [e_eql, BR_dec]
  split
  · rename_i h9
    simp only [if_pos h9] at fin
    obtain ⟨a, c, rfl⟩ := hb1.slice
    rw [e_lit2c]
    refine s_lit (s := 1) (n := 2) rfl fun M2 u2 h2 o2 n2 => ?_
    have hL : BL M2 (.slice (some ⟨M1.n, 0, none⟩) 2 2) [b, b] := ⟨_, h2.sl, Sl.up hb1 u2, Sl.up hb1 u2, trivial⟩
    refine (ConcatE hL (by simp) (fun l hl => ?_)).mono fun v M3 ⟨u3, hN⟩ => fin v _ M3 (by simp) ((u1.trans u2).trans u3) hN.by (by simp; omega)
    have : l = b := by simpa using hl
    subst this; omega
  rename_i h9
  simp only [if_neg h9] at fin fail
  show OP (binI .eql (.int .i64 k) (.int .i64 10)) _
  rw [e_eql, BR_dec]
  split
  · rename_i h10
    simp only [if_pos h10] at fin
    refine (joinedE (s := s) hb1 (by omega) (by omega)).mono fun v M3 ⟨u3, hN⟩ => fin v _ M3 rfl (u1.trans u3) hN.by ?_
    have h1 := joinB6_len s b
    have h2 : b.length * (s.length + 1) ≤ 256 * (2 ^ 10 + 1) := Nat.mul_le_mul hbl (by omega)
    omega
  · rename_i h10
    simp only [if_neg h10] at fail
    exact fail M1 trivial u1
end Go.G

namespace Go.G
open Go.Ab Go.Proofs Go.RowKit
set_option linter.unusedVariables false
set_option linter.unusedSimpArgs false
set_option maxRecDepth 100000

/-- What a run comes to: bytes that are one's own. -/
def RunR (M0 M : Store) (r : Value) : Option (List UInt8) → Prop
  | none => r = .tuple #[.slice none 0 0, .bool false]
  | some t => ∃ w, r = .tuple #[w, .bool true] ∧ N M0 M w t ∧ t.length ≤ 256
theorem RunE_loop {M0 : Store} {v x1 : Value} {l : List Dw} {ins : List (List UInt8)} (h : DS M0 v l) (hl : l.length ≤ 2 ^ 20) (hld : ∀ d ∈ l, 0 ≤ d.2.1 ∧ d.2.2.length ≤ 2 ^ 10) (hi : BL M0 x1 ins) (hil : ins.length ≤ 100) (his : ∀ l ∈ ins, l.length ≤ 2 ^ 12)
    {o : Option (List UInt8)} {Q : Value → Store → Prop} (hQ : ∀ r M, Up M0 M → RunR M0 M r o → Q r M) :
    ∀ (k i : Nat) (x6 : Value) (b : List UInt8) (M : Store), k + i = l.length → Up M0 M → B M x6 b → b.length ≤ 256 → runL ins (l.drop i) b = o → P_acts_Run_1 x1 x6 v (iv (l.length : Int)) (iv (i : Int)) M Q := by
  have fail : ∀ M, o = none → Up M0 M → NTs [(.slice none 0 0), (.bool false)] ∧ Q (.tuple #[(.slice none 0 0), (.bool false)]) M := fun M ho hu => ⟨rfl, hQ _ _ hu (by rw [ho]; rfl)⟩
  intro k
  induction k with
  | zero =>
    intro i x6 b M hk hu hB hb ho
    apply T_acts_Run_1
    unfold S_acts_Run_1
    rw [lss_n, BR_dec, if_neg (by omega)]
    apply T_acts_Run_3
    unfold S_acts_Run_3
    rw [List.drop_of_length_le (by omega)] at ho
    refine (Clone_ok hB (by omega)).mono fun w M1 ⟨u1, h1⟩ => (Clip_ok h1).mono fun w2 M2 ⟨e2, h2⟩ => ?_
    subst e2
    have h3 := Nw.base h2 hu.n
    refine ⟨?_, hQ _ _ (hu.trans u1) (by rw [← ho]; exact ⟨w2, rfl, h3, hb⟩)⟩
    obtain ⟨a, c, rfl⟩ := h2.by.slice
    rfl
  | succ k ih =>
    intro i x6 b M hk hu hB hb ho
    apply T_acts_Run_1
    unfold S_acts_Run_1
    have hil2 : i < l.length := by omega
    rw [lss_n, BR_dec, if_pos hil2]
    apply T_acts_Run_2
    unfold S_acts_Run_2
    rw [ds_ld (Sl.up h hu) hil2]
    have hd := hld _ (List.getElem_mem hil2)
    rw [List.drop_eq_getElem_cons hil2] at ho
    generalize l[i] = d at *
    refine s_new fun M1 u1 o1 n1 => ?_
    refine s_st (vs := dcs d) o1 rfl rfl (dcs_one _) fun M2 c2 o2 n2 => ?_
    have u02 : Up M M2 := u1.ch c2 (by simp)
    have hu2 : Up M0 M2 := hu.trans u02
    rw [o2.ldA (s := 3) rfl, OP_some]
    refine (stepE (d := d) (hi.up B_up hu2) hil his (Sl.up hB u02) hb hd.1 hd.2).mono fun r M3 ⟨u3, hr⟩ => ?_
    rw [runL] at ho
    cases hst : stepA d ins b with
    | none =>
      rw [hst] at hr ho
      have hr : r = .tuple #[.slice none 0 0, .bool false] := hr
      subst hr
      rw [(tp2b _ false).1, (tp2b _ false).2, e_not, BR_bool, if_pos (show (!false) = true from rfl)]
      exact fail M3 ho.symm (hu2.trans u3)
    | some t =>
      rw [hst] at hr ho
      obtain ⟨w, hr, hw, ht⟩ := hr
      subst hr
      rw [(tp2b w true).1, (tp2b w true).2, e_not, BR_bool, if_neg (by simp)]
      rw [by_len hw, gtr_l 256 256 rfl, BR_dec]
      simp only at ho
      split
      · rename_i h256
        rw [if_pos h256] at ho
        exact fail M3 ho.symm (hu2.trans u3)
      · rename_i h256
        rw [if_neg h256] at ho
        rw [add1_n _ (by omega)]
        exact ih (i + 1) w t M3 (by omega) (hu2.trans u3) hw (by omega) ho
theorem RunE {M : Store} {v x1 : Value} {l : List Dw} {ins : List (List UInt8)} (h : DS M v l) (hl : l.length ≤ 2 ^ 20) (hld : okA l = true → ∀ d ∈ l, 0 ≤ d.2.1) (hls : ∀ d ∈ l, d.2.2.length ≤ 2 ^ 10) (hi : BL M x1 ins) (hil : ins.length ≤ 100) (his : ∀ l ∈ ins, l.length ≤ 2 ^ 12) :
    R F.acts_Run #[v, x1] M fun r M' => Up M M' ∧ RunR M M' r (runA l ins) := by
  refine R.cps fun Q hQ => ?_
  apply T_acts_Run
  unfold S_acts_Run
  refine (Aok_ok h (by omega) (fun d hd => by have := hls d hd; omega)).mono fun r M1 ⟨u1, hr⟩ => ?_
  subst hr
  unfold runA at hQ
  rw [e_not, BR_bool]
  split
  · rename_i ho
    rw [if_neg (by simpa using ho)] at hQ
    exact ⟨rfl, hQ _ _ ⟨u1, rfl⟩⟩
  · rename_i ho
    have ho : okA l = true := by simpa using ho
    rw [if_pos ho] at hQ
    rw [h.lenV, OP_some]
    refine RunE_loop (M0 := M1) (Sl.up h u1) hl (fun d hd => ⟨hld ho d hd, hls d hd⟩) (hi.up B_up u1) hil his (fun r M' hu hr => hQ _ _ ⟨u1.trans hu, ?_⟩) l.length 0 _ [] M1 rfl (Ch.refl _ _) (Sl.nil _ _ _) (by simp) rfl
    cases hrl : runL ins (l.drop 0) [] with
    | none =>
      rw [hrl] at hr
      rw [List.drop_zero] at hrl
      rw [hrl]; exact hr
    | some t =>
      rw [hrl] at hr
      rw [List.drop_zero] at hrl
      rw [hrl]
      obtain ⟨w, e, hN, ht⟩ := hr
      exact ⟨w, e, Nw.base hN u1.n, ht⟩
/-- Actions that are right have numbers that are not below nought. -/
theorem rightA_pos {d : Dw} (h : rightA d = true) : 0 ≤ d.2.1 := by
  unfold rightA at h
  split at h
  · cases h
  · split at h
    · cases h
    · split at h
      · split at h
        · omega
        · cases h
      · split at h
        · split at h
          · assumption
          · cases h
        · cases h
theorem okFrom_right : ∀ (l : List Dw) (i : Nat), okFrom i l = true → ∀ d ∈ l, rightA d = true
  | d :: l, i, h, e, he => by
    rw [okFrom, Bool.and_eq_true] at h
    rcases List.mem_cons.1 he with rfl | he
    · have := h.1
      unfold goodA at this
      rw [Bool.and_eq_true] at this
      exact this.1
    · exact okFrom_right l (i + 1) h.2 e he
theorem okA_pos {l : List Dw} (h : okA l = true) : ∀ d ∈ l, 0 ≤ d.2.1 := fun d hd => by
  unfold okA at h
  rw [Bool.and_eq_true] at h
  exact rightA_pos (okFrom_right l 0 h.1 d hd)
end Go.G
