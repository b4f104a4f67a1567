/- Layer 6: joined, together, a step and a run: the very bytes. -/
import Derived.Test.YtpacolplhcfamaaPR7
namespace Go.G
open Go.Ab Go.Proofs Go.RowKit
set_option linter.unusedVariables false
set_option linter.unusedSimpArgs false
set_option maxRecDepth 100000

theorem joinB6_snoc (s : List UInt8) (c : UInt8) : ∀ xs : List UInt8, xs ≠ [] → joinB6 s (xs ++ [c]) = (joinB6 s xs ++ s) ++ [c]
  | [], h => absurd rfl h
  | [x], _ => by simp [joinB6]
  | x :: y :: r, _ => by
    have ih := joinB6_snoc s c (y :: r) (by simp)
    simp only [List.cons_append] at ih
    simp only [List.cons_append, joinB6, ih, List.append_assoc]
theorem joinB6_len (s : List UInt8) : ∀ xs : List UInt8, (joinB6 s xs).length ≤ xs.length * (s.length + 1)
  | [] => by simp [joinB6]
  | [x] => by simp [joinB6]
  | x :: y :: r => by
    have ih := joinB6_len s (y :: r)
    simp only [joinB6, List.length_cons, List.length_append] at *
    rw [Nat.succ_mul (r.length + 1)]
    omega
theorem joinedE_loop {M0 : Store} {x : Value} {l s : List UInt8} (h : B M0 x l) (hl : l.length ≤ 2 ^ 10) (hs : s.length ≤ 2 ^ 10) {Q : Value → Store → Prop} (hQ : ∀ w M, Up M0 M → N M0 M w (joinB6 s l) → Q w M) :
    ∀ (k i : Nat) (w : Value) (M : Store), k + i = l.length → Up M0 M → N M0 M w (joinB6 s (l.take i)) → P_acts_joined_1 (sv s) w x (iv (l.length : Int)) (iv (i : Int)) M Q := by
  intro k
  induction k with
  | zero =>
    intro i w M hi hu hN
    apply T_acts_joined_1
    unfold S_acts_joined_1
    rw [lss_n, BR_dec, if_neg (by omega)]
    apply T_acts_joined_3
    unfold S_acts_joined_3
    rw [List.take_of_length_le (by omega)] at hN
    exact ⟨nts_of hN.by, hQ w M hu hN⟩
  | succ k ih =>
    intro i w M hi hu hN
    apply T_acts_joined_1
    unfold S_acts_joined_1
    have hil : i < l.length := by omega
    have ht := joinB6_len s (l.take i)
    rw [List.length_take, Nat.min_eq_left (by omega)] at ht
    have hmul : i * (s.length + 1) ≤ 2 ^ 10 * (2 ^ 10 + 1) := Nat.mul_le_mul (by omega) (by omega)
    have hsn := List.take_succ_eq_append_getElem hil
    rw [lss_n, BR_dec, if_pos hil]
    apply T_acts_joined_2
    unfold S_acts_joined_2
    rw [by_ld (Sl.up h hu) hil, gtr_l 0 0 rfl, BR_dec]
    generalize l[i] = c at *
    split
    · rename_i hi0
      have hne : l.take i ≠ [] := by intro e; have := congrArg List.length e; rw [List.length_take, List.length_nil] at this; omega
      refine appT_ok hu hN s (by omega) fun w1 M1 hu1 hN1 _ => ?_
      rw [bl_bv]
      refine s_lit (s := 1) rfl fun M2 u2 h2 o2 n2 => ?_
      have hx2 : By Ty.uint8 M2 (.slice (some ⟨M1.n, 0, none⟩) 1 1) [c] := h2.sl
      refine app_by (hu1.trans u2) (Nw.up hN1 u2) hx2 (by rw [List.length_append, List.length_singleton]; omega) fun w3 M3 hu3 hN3 _ => ?_
      rw [add1_n _ (by omega)]
      exact ih (i + 1) w3 M3 (by omega) hu3 (by rw [hsn, joinB6_snoc s c _ hne]; exact hN3)
    · rename_i hi0
      have i0 : i = 0 := by omega
      subst i0
      rw [bl_bv]
      refine s_lit (s := 1) rfl fun M2 u2 h2 o2 n2 => ?_
      have hx2 : By Ty.uint8 M2 (.slice (some ⟨M.n, 0, none⟩) 1 1) [c] := h2.sl
      refine app_by (hu.trans u2) (Nw.up hN u2) hx2 (by rw [List.length_singleton]; omega) fun w3 M3 hu3 hN3 _ => ?_
      rw [add1_n _ (by omega)]
      exact ih (0 + 1) w3 M3 (by omega) hu3 (by rw [hsn]; exact hN3)
theorem joinedE {M : Store} {x : Value} {l s : List UInt8} (h : B M x l) (hl : l.length ≤ 2 ^ 10) (hs : s.length ≤ 2 ^ 10) : R F.acts_joined #[x, sv s] M fun v M' => Up M M' ∧ N M M' v (joinB6 s l) := by
  refine R.cps fun Q hQ => ?_
  apply T_acts_joined
  unfold S_acts_joined
  rw [by_len h]
  exact joinedE_loop h hl hs (fun w M' hu hN => hQ _ _ ⟨hu, hN⟩) l.length 0 _ M rfl (Ch.refl _ _) (Nw.nil _ _ _ _)
theorem concatE_loop {M0 : Store} {x : Value} {ls : List (List UInt8)} (h : BL M0 x ls) (hl : ls.length ≤ 100) (hs : ∀ l ∈ ls, l.length ≤ 2 ^ 12) {Q : Value → Store → Prop} (hQ : ∀ w M, Up M0 M → N M0 M w ls.flatten → Q w M) :
    ∀ (k i : Nat) (w : Value) (M : Store), k + i = ls.length → Up M0 M → N M0 M w (ls.take i).flatten → P_slices_Concat_sl_byte_byte_4 w x (iv (ls.length : Int)) (iv (i : Int)) M Q := by
  intro k
  induction k with
  | zero =>
    intro i w M hi hu hN
    apply T_slices_Concat_sl_byte_byte_4
    unfold S_slices_Concat_sl_byte_byte_4
    rw [lss_n, BR_dec, if_neg (by omega)]
    apply T_slices_Concat_sl_byte_byte_5
    unfold S_slices_Concat_sl_byte_byte_5
    rw [List.take_of_length_le (by omega)] at hN
    exact ⟨nts_of hN.by, hQ w M hu hN⟩
  | succ k ih =>
    intro i w M hi hu hN
    apply T_slices_Concat_sl_byte_byte_4
    unfold S_slices_Concat_sl_byte_byte_4
    have hil : i < ls.length := by omega
    rw [lss_n, BR_dec, if_pos hil]
    refine bl_ld (h.up B_up hu) hil fun u hw => ?_
    have h1 := hs _ (List.getElem_mem hil)
    have h2 := sumL_le (2 ^ 12) (ls.take i) fun l hl => hs l (List.mem_of_mem_take hl)
    have h3 : (ls.take i).length * 2 ^ 12 ≤ 100 * 2 ^ 12 := Nat.mul_le_mul_right _ (by rw [List.length_take]; omega)
    have h4 : (ls.take i).flatten.length = sumL (ls.take i) := by rw [List.length_flatten]; rfl
    refine app_by hu hN hw (by omega) fun w1 M1 hu1 hN1 _ => ?_
    rw [add1_n _ (by omega)]
    exact ih (i + 1) w1 M1 (by omega) hu1 (by rw [List.take_succ_eq_append_getElem hil, List.flatten_append]; simpa using hN1)
theorem ConcatE {M : Store} {x : Value} {ls : List (List UInt8)} (h : BL M x ls) (hl : ls.length ≤ 100) (hs : ∀ l ∈ ls, l.length ≤ 2 ^ 12) : R F.slices_Concat_sl_byte_byte #[x] M fun v M' => Up M M' ∧ N M M' v ls.flatten := by
  refine R.cps fun Q hQ => ?_
  apply T_slices_Concat_sl_byte_byte
  unfold S_slices_Concat_sl_byte_byte
  rw [h.lenV, OP_some]
  refine concat_loop h hl hs ?_ ls.length 0 rfl
  apply T_slices_Concat_sl_byte_byte_3
  unfold S_slices_Concat_sl_byte_byte_3
  have h2 := sumL_le (2 ^ 12) ls hs
  have h3 : ls.length * 2 ^ 12 ≤ 100 * 2 ^ 12 := Nat.mul_le_mul_right _ hl
  refine (Grow6_ok (n := sumL ls) (by omega)).mono fun w M1 ⟨u1, h1⟩ => ?_
  rw [(h.up B_up u1).lenV, OP_some]
  exact concatE_loop (M0 := M) h hl hs (fun w M' hu hN => hQ _ _ ⟨hu, hN⟩) ls.length 0 w M1 rfl u1 h1

/-- What a step, or a run, comes to. -/
def StepR (M0 M : Store) (r : Value) : Option (List UInt8) → Prop
  | none => r = .tuple #[.slice none 0 0, .bool false]
  | some t => ∃ w, r = .tuple #[w, .bool true] ∧ B M w t ∧ t.length ≤ 2 ^ 20
theorem stepE {M : Store} {x1 x2 : Value} {ins : List (List UInt8)} {b : List UInt8} {d : Dw} (hi : BL M x1 ins) (hil : ins.length ≤ 100) (his : ∀ l ∈ ins, l.length ≤ 2 ^ 12) (hb : B M x2 b) (hbl : b.length ≤ 256) (hd : 0 ≤ d.2.1) (hs : d.2.2.length ≤ 2 ^ 10) :
    R F.acts_step #[dv d, x1, x2] M fun r M' => Up M M' ∧ StepR M M' r (stepA d ins b) := by
  refine R.cps fun Q hQ => ?_
  apply T_acts_step
  unfold S_acts_step
  rw [dv_box, OP_some]
  refine s_new fun M1 u1 o1 n1 => ?_
  obtain ⟨k, n, s⟩ := d
  have o1 : Ob M1 M.n [iv k, iv n, sv s] Ty.api_Do := o1
  simp only at hd hs
  simp only [fad0, o1.l3]
  have fin : ∀ (w : Value) (t : List UInt8) (M' : Store), stepA (k, n, s) ins b = some t → Up M M' → B M' w t → t.length ≤ 2 ^ 20 → NTs [w, .bool true] ∧ Q (.tuple #[w, .bool true]) M' := fun w t M' he hu hB ht => ⟨by obtain ⟨a, c, rfl⟩ := hB.slice; rfl, hQ _ _ ⟨hu, by rw [he]; exact ⟨w, rfl, hB, ht⟩⟩⟩
  have fail : ∀ (M' : Store), stepA (k, n, s) ins b = none → Up M M' → NTs [(.slice none 0 0), .bool false] ∧ Q (.tuple #[(.slice none 0 0), .bool false]) M' := fun M' he hu => ⟨rfl, hQ _ _ ⟨hu, by rw [he]; rfl⟩⟩
  have hi1 := hi.up B_up u1
  have hb1 : B M1 x2 b := Sl.up hb u1
  obtain ⟨m, rfl⟩ := Int.eq_ofNat_of_zero_le hd
  have hmin : ∃ q : Nat, (if (b.length : Int) < (m : Int) then (b.length : Int) else (m : Int)) = (q : Int) ∧ q = min m b.length := by
    by_cases hj : (b.length : Int) < (m : Int)
    · exact ⟨b.length, by rw [if_pos hj], by omega⟩
    · exact ⟨m, by rw [if_neg hj], by omega⟩
  show OP (binI .eql (.int .i64 k) (.int .i64 1)) _
  rw [e_eql, BR_dec]
  unfold stepA at fin fail
  simp only at fin fail
  split
  · rename_i h1
    simp only [if_pos h1] at fin
    show OP2 (cvSB Ty.uint8 (.string ⟨s.toArray⟩) M1) _
    exact cvSB_ok (by omega) fun w M2 u2 h2 => fin w s M2 rfl (u1.trans u2) h2.by (by omega)
  rename_i h1
  simp only [if_neg h1] at fin fail
  show OP (binI .eql (.int .i64 k) (.int .i64 2)) _
  rw [e_eql, BR_dec]
  split
  · rename_i h2
    simp only [if_pos h2] at fin fail
    rw [hi1.lenV, OP_some]
    show OP (binI .geq (.int .i64 (m : Int)) (.int .i64 (ins.length : Int))) _
    rw [e_geq, BR_dec]
    split
    · rename_i hge
      simp only [if_neg (show ¬ (m : Int) < (ins.length : Int) by omega)] at fail
      exact fail M1 trivial u1
    · have hlt : (m : Int) < (ins.length : Int) := by omega
      simp only [if_pos hlt] at fin
      have hm : m < ins.length := by omega
      refine bl_ld hi1 hm fun w hw => ?_
      have := his _ (List.getElem_mem hm)
      refine (Clone_ok hw (by omega)).mono fun w2 M2 ⟨u2, h2⟩ => fin w2 _ M2 ?_ (u1.trans u2) h2.by (by omega)
      simp [List.getD_eq_getElem?_getD, List.getElem?_eq_getElem hm]
  rename_i h2
  simp only [if_neg h2] at fin fail
  show OP (binI .eql (.int .i64 k) (.int .i64 3)) _
  rw [e_eql, BR_dec]
  split
  · rename_i h3
    simp only [if_pos h3] at fin
    exact Join_ok hi1 hil his fun v M' hu hB => fin v _ M' (by rw [joinL_nil]) (u1.trans hu) hB (by have := joinL_le hil his; omega)
  rename_i h3
  simp only [if_neg h3] at fin fail
  show OP (binI .eql (.int .i64 k) (.int .i64 4)) _
  rw [e_eql, BR_dec]
  split
  · rename_i h4
    simp only [if_pos h4] at fin
    show R F.acts_turned #[x2, bv 97, bv 122, iv (-32)] M1 _
    exact (turnedE hb1 (by omega) 97 122 (-32) (by omega)).mono fun v M' ⟨hu, hN⟩ => fin v _ M' rfl (u1.trans hu) hN.by (by simp; omega)
  rename_i h4
  simp only [if_neg h4] at fin fail
  show OP (binI .eql (.int .i64 k) (.int .i64 5)) _
  rw [e_eql, BR_dec]
  split
  · rename_i h5
    simp only [if_pos h5] at fin
    show R F.acts_turned #[x2, bv 65, bv 90, iv 32] M1 _
    exact (turnedE hb1 (by omega) 65 90 32 (by omega)).mono fun v M' ⟨hu, hN⟩ => fin v _ M' rfl (u1.trans hu) hN.by (by simp; omega)
  rename_i h5
  simp only [if_neg h5] at fin fail
  show OP (binI .eql (.int .i64 k) (.int .i64 6)) _
  rw [e_eql, BR_dec]
  split
  · rename_i h6
    simp only [if_pos h6] at fin
    exact (Clone_ok hb1 (by omega)).mono fun v M2 ⟨u2, h2⟩ => (ReverseE (M0 := M1) u2 h2 (by omega)).mono fun r M3 ⟨u3, hN⟩ => fin v _ M3 rfl (u1.trans u3) hN.by (by simp; omega)
  rename_i h6
  simp only [if_neg h6] at fin fail
  show OP (binI .eql (.int .i64 k) (.int .i64 7)) _
  rw [e_eql, BR_dec]
  split
  · rename_i h7
    simp only [if_pos h7] at fin
    rw [by_len hb1]
    show OP (amin2 (.int .i64 (m : Int)) (.int .i64 (b.length : Int))) _
    rw [e_min]
    obtain ⟨q, hq, hql⟩ := hmin
    rw [hq]
    obtain ⟨v', e, hB⟩ := hb1.cut (lo := none) (hi := some (.int .i64 (q : Int))) (a := 0) (r := q) (by simp only [abound]; rw [if_pos ⟨by omega, by omega⟩]; rfl) rfl (by omega) (Nat.zero_le _)
    rw [e, OP_some]
    refine fin v' _ M1 ?_ u1 hB (by simp; omega)
    rw [List.drop_zero, Int.toNat_natCast, hql]
    by_cases hmb : m ≤ b.length
    · rw [Nat.min_eq_left hmb]
    · rw [Nat.min_eq_right (by omega), List.take_length, List.take_of_length_le (by omega)]
  rename_i h7
  simp only [if_neg h7] at fin fail
  show OP (binI .eql (.int .i64 k) (.int .i64 8)) _
  rw [e_eql, BR_dec]
  split
  · rename_i h8
    simp only [if_pos h8] at fin
    rw [by_len hb1]
    show OP (amin2 (.int .i64 (m : Int)) (.int .i64 (b.length : Int))) _
    rw [e_min]
    obtain ⟨q, hq, hql⟩ := hmin
    rw [hq]
    obtain ⟨v', e, hB⟩ := hb1.cut (lo := some (.int .i64 (q : Int))) (hi := none) (a := q) (r := b.length) rfl (by simp only [abound]; rw [if_pos ⟨by omega, by omega⟩]; rfl) (Nat.le_refl _) (by omega)
    rw [e, OP_some]
    refine fin v' _ M1 ?_ u1 hB (by simp; omega)
    rw [List.take_length, Int.toNat_natCast, hql]
    by_cases hmb : m ≤ b.length
    · rw [Nat.min_eq_left hmb]
    · rw [Nat.min_eq_right (by omega), List.drop_length, List.drop_of_length_le (by omega)]
  rename_i h8
  simp only [if_neg h8] at fin fail
  show OP (binI .eql (.int .i64 k) (.int .i64 9)) _
  rw [e_eql, BR_dec]
  split
  · rename_i h9
    simp only [if_pos h9] at fin
    obtain ⟨a, c, rfl⟩ := hb1.slice
    rw [e_lit2c]
    refine s_lit (s := 1) (n := 2) rfl fun M2 u2 h2 o2 n2 => ?_
    have hL : BL M2 (.slice (some ⟨M1.n, 0, none⟩) 2 2) [b, b] := ⟨_, h2.sl, Sl.up hb1 u2, Sl.up hb1 u2, trivial⟩
    refine (ConcatE hL (by simp) (fun l hl => ?_)).mono fun v M3 ⟨u3, hN⟩ => fin v _ M3 (by simp) ((u1.trans u2).trans u3) hN.by (by simp; omega)
    have : l = b := by simpa using hl
    subst this; omega
  rename_i h9
  simp only [if_neg h9] at fin fail
  show OP (binI .eql (.int .i64 k) (.int .i64 10)) _
  rw [e_eql, BR_dec]
  split
  · rename_i h10
    simp only [if_pos h10] at fin
    refine (joinedE (s := s) hb1 (by omega) (by omega)).mono fun v M3 ⟨u3, hN⟩ => fin v _ M3 rfl (u1.trans u3) hN.by ?_
    have h1 := joinB6_len s b
    have h2 : b.length * (s.length + 1) ≤ 256 * (2 ^ 10 + 1) := Nat.mul_le_mul hbl (by omega)
    omega
  · rename_i h10
    simp only [if_neg h10] at fail
    exact fail M1 trivial u1
end Go.G
