/- Layer 6: a run, by the document: the very bytes. -/
import Derived.Test.YtpacolplhcfamaaPGX
import Derived.Test.YtpacolplhcfamaaPU2
import Derived.Test.YtpacolplhcfamaaPR9d
namespace Go.G
open Go.Ab Go.Proofs Go.RowKit
set_option linter.unusedVariables false
set_option linter.unusedSimpArgs false
set_option maxRecDepth 100000

theorem wrap_u8N (x : Int) : IntKind.wrap .u8 x = ((u8N x).toNat : Int) := by
  have h : IntKind.wrap .u8 x = x % 256 := by simp [IntKind.wrap, IntKind.bits, IntKind.signed]
  rw [h, u8N, UInt8.toNat_ofNat']
  omega
theorem bv_sub (c : UInt8) (n : Int) (K : Value → Prop) : OP (binI .sub (bv c) (.int .u8 n)) K = K (bv (u8N ((c.toNat : Int) - n))) := by
  show OP (binI .sub (.int .u8 (c.toNat : Int)) (.int .u8 n)) K = _
  rw [e_sub, wrap_u8N]; rfl
theorem bv_add (c : UInt8) (n : Int) (K : Value → Prop) : OP (binI .add (bv c) (.int .u8 n)) K = K (bv (u8N ((c.toNat : Int) + n))) := by
  show OP (binI .add (.int .u8 (c.toNat : Int)) (.int .u8 n)) K = _
  rw [e_add, wrap_u8N]; rfl
theorem ne_do_u8 : Ty.api_Do ≠ Ty.uint8 := by decide
/-- One byte more. -/
theorem app_c {M0 M : Store} {x8 : Value} {l : List UInt8} {c : UInt8} (hu : Up M0 M) (hN : N M0 M x8 l) (hl : l.length ≤ 2 ^ 24) {K : Value → Store → Prop} (hK : ∀ v M', Up M0 M' → N M0 M' v (l ++ [c]) → K v M') :
    OP (bldL (.int .u8 0) 1 1 [(0, bv c)]) fun cc => LT (.slice (some ⟨M.n, 0, none⟩) 1 1) (M.push (some (.inl (cc, Ty.uint8, true)))) fun t M1 => OP2 (appV 1 Ty.uint8 x8 t M1) fun v M2 => K v M2 := by
  rw [bl_bv]
  refine s_lit (s := 1) rfl fun M2 u2 h2 o2 n2 => ?_
  have hx2 : By Ty.uint8 M2 (.slice (some ⟨M.n, 0, none⟩) 1 1) [c] := h2.sl
  exact app_by (hu.trans u2) (Nw.up hN u2) hx2 (by rw [List.length_singleton]; omega) fun w3 M3 hu3 hN3 _ => hK w3 M3 hu3 hN3

section
variable {M0 : Store} {x1 : Value} {b : List UInt8} {bx : Nat} {k n : Int} {s : List UInt8} {Q : Value → Store → Prop}
theorem ch_end {t : List UInt8} (hQ : ∀ w M, Up M0 M → N M0 M w t → Q (.tuple #[w, .bool true]) M) {w : Value} {M : Store} (hu : Up M0 M) (hN : N M0 M w t) : P_fettleref4_changed_3 w M Q := by
  apply T_fettleref4_changed_3
  unfold S_fettleref4_changed_3
  exact ⟨by obtain ⟨a, c, rfl⟩ := hN.sl.slice; rfl, hQ w M hu hN⟩
/-! ## turned -/
def turnK (k : Int) (c : UInt8) : UInt8 := if k = 4 then turnB 97 122 (-32) c else if k = 5 then turnB 65 90 32 c else c
theorem ch_turn (hb : B M0 x1 b) (hbl : b.length ≤ 256) (o : Ob M0 bx [iv k, iv n, sv s] Ty.api_Do) (hQ : ∀ w M, Up M0 M → N M0 M w (b.map (turnK k)) → Q (.tuple #[w, .bool true]) M) :
    ∀ (j i : Nat) (x8 : Value) (M : Store), j + i = b.length → Up M0 M → N M0 M x8 ((b.take i).map (turnK k)) → P_fettleref4_changed_4 x1 (pt bx) x8 (iv (i : Int)) M Q := by
  intro j
  induction j with
  | zero =>
    intro i x8 M hi hu hN
    apply T_fettleref4_changed_4
    unfold S_fettleref4_changed_4
    rw [by_len (Sl.up hb hu), lss_n, BR_dec, if_neg (by omega)]
    rw [List.take_of_length_le (by omega)] at hN
    exact ch_end hQ hu hN
  | succ j ih =>
    intro i x8 M hi hu hN
    have hil : i < b.length := by omega
    have hsn := List.take_succ_eq_append_getElem hil
    apply T_fettleref4_changed_4
    unfold S_fettleref4_changed_4
    rw [by_len (Sl.up hb hu), lss_n, BR_dec, if_pos hil]
    apply T_fettleref4_changed_7
    unfold S_fettleref4_changed_7
    have o' := o.up hu
    have hlen : ((b.take i).map (turnK k)).length ≤ 2 ^ 24 := by rw [List.length_map, List.length_take]; omega
    rw [by_ld (Sl.up hb hu) hil]
    generalize b[i] = c at *
    have next : ∀ (v : Value) (M' : Store), Up M0 M' → N M0 M' v ((b.take i).map (turnK k) ++ [turnK k c]) → P_fettleref4_changed_10 x1 (pt bx) v (iv (i : Int)) M' Q := by
      intro v M' hu' hN'
      apply T_fettleref4_changed_10
      unfold S_fettleref4_changed_10
      rw [add1_n _ (by omega)]
      exact ih (i + 1) v M' (by omega) hu' (by rw [hsn, List.map_append]; exact hN')
    have p9 : ∀ d : UInt8, (if k = 5 then turnB 65 90 32 d else d) = turnK k c → P_fettleref4_changed_9 x1 (pt bx) x8 (iv (i : Int)) (bv d) M Q := by
      intro d hd
      apply T_fettleref4_changed_9
      unfold S_fettleref4_changed_9
      simp only [fad0, o'.l3]
      show OP (binI .eql (.int .i64 k) (.int .i64 5)) _
      rw [e_eql, BR_dec]
      split
      · rename_i h5
        rw [if_pos h5] at hd
        rw [bv_geI (d := 65) (n := 65) rfl, BR_dec]
        unfold turnB at hd
        split
        · rename_i h65
          rw [if_pos h65] at hd
          rw [bv_leI (d := 90) (n := 90) rfl, BR_dec]
          split
          · rename_i h90
            rw [if_pos h90] at hd
            rw [bv_add, hd]
            exact app_c hu hN hlen next
          · rename_i h90
            rw [if_neg h90] at hd
            subst hd
            exact app_c hu hN hlen next
        · rename_i h65
          rw [if_neg h65] at hd
          subst hd
          exact app_c hu hN hlen next
      · rename_i h5
        rw [if_neg h5] at hd
        subst hd
        exact app_c hu hN hlen next
    simp only [fad0, o'.l3]
    show OP (binI .eql (.int .i64 k) (.int .i64 4)) _
    rw [e_eql, BR_dec]
    split
    · rename_i h4
      have h45 : ¬ k = 5 := by omega
      have ht : turnK k c = turnB 97 122 (-32) c := by unfold turnK; rw [if_pos h4]
      rw [bv_geI (d := 97) (n := 97) rfl, BR_dec]
      split
      · rename_i h97
        rw [bv_leI (d := 122) (n := 122) rfl, BR_dec]
        split
        · rename_i h122
          rw [bv_sub]
          refine p9 _ ?_
          rw [if_neg h45, ht]
          unfold turnB
          rw [if_pos h97, if_pos h122]
          rfl
        · rename_i h122
          refine p9 _ ?_
          rw [if_neg h45, ht]
          unfold turnB
          rw [if_pos h97, if_neg h122]
      · rename_i h97
        refine p9 _ ?_
        rw [if_neg h45, ht]
        unfold turnB
        rw [if_neg h97]
    · rename_i h4
      refine p9 _ ?_
      unfold turnK
      rw [if_neg h4]
/-! ## reversed -/
theorem ch_rev (hb : B M0 x1 b) (hbl : b.length ≤ 256) (hQ : ∀ w M, Up M0 M → N M0 M w b.reverse → Q (.tuple #[w, .bool true]) M) :
    ∀ (j : Nat) (x8 : Value) (M : Store), j ≤ b.length → Up M0 M → N M0 M x8 (b.drop j).reverse → P_fettleref4_changed_5 x1 x8 (iv ((j : Int) - 1)) M Q := by
  intro j
  induction j with
  | zero =>
    intro x8 M hj hu hN
    apply T_fettleref4_changed_5
    unfold S_fettleref4_changed_5
    show OP (binI .geq (.int .i64 ((0 : Nat) - 1 : Int)) (.int .i64 0)) _
    rw [e_geq, BR_dec, if_neg (by omega)]
    rw [List.drop_zero] at hN
    exact ch_end hQ hu hN
  | succ j ih =>
    intro x8 M hj hu hN
    have hjl : j < b.length := by omega
    apply T_fettleref4_changed_5
    unfold S_fettleref4_changed_5
    have e : (((j + 1 : Nat) : Int) - 1) = (j : Int) := by omega
    rw [e]
    show OP (binI .geq (.int .i64 (j : Int)) (.int .i64 0)) _
    rw [e_geq, BR_dec, if_pos (by omega), by_ld (Sl.up hb hu) hjl]
    refine app_c hu hN (by simp; omega) fun v M' hu' hN' => ?_
    show OP (binI .sub (.int .i64 (j : Int)) (.int .i64 1)) _
    rw [e_sub, w64 (by omega) (by omega)]
    refine ih v M' (by omega) hu' ?_
    rw [List.drop_eq_getElem_cons hjl, List.reverse_cons]
    exact hN'
/-! ## joined -/
theorem ch_join (hb : B M0 x1 b) (hbl : b.length ≤ 256) (hs : s.length ≤ 2 ^ 10) (o : Ob M0 bx [iv k, iv n, sv s] Ty.api_Do) (hQ : ∀ w M, Up M0 M → N M0 M w (joinB6 s b) → Q (.tuple #[w, .bool true]) M) :
    ∀ (j i : Nat) (x8 : Value) (M : Store), j + i = b.length → Up M0 M → N M0 M x8 (joinB6 s (b.take i)) → P_fettleref4_changed_6 x1 (pt bx) x8 (iv (i : Int)) M Q := by
  intro j
  induction j with
  | zero =>
    intro i x8 M hi hu hN
    apply T_fettleref4_changed_6
    unfold S_fettleref4_changed_6
    rw [by_len (Sl.up hb hu), lss_n, BR_dec, if_neg (by omega)]
    rw [List.take_of_length_le (by omega)] at hN
    exact ch_end hQ hu hN
  | succ j ih =>
    intro i x8 M hi hu hN
    have hil : i < b.length := by omega
    have ht := joinB6_len s (b.take i)
    rw [List.length_take, Nat.min_eq_left (by omega)] at ht
    have hmul : i * (s.length + 1) ≤ 2 ^ 10 * (2 ^ 10 + 1) := Nat.mul_le_mul (by omega) (by omega)
    have hsn := List.take_succ_eq_append_getElem hil
    apply T_fettleref4_changed_6
    unfold S_fettleref4_changed_6
    rw [by_len (Sl.up hb hu), lss_n, BR_dec, if_pos hil]
    apply T_fettleref4_changed_8
    unfold S_fettleref4_changed_8
    rw [gtr_l 0 0 rfl, BR_dec]
    split
    · rename_i hi0
      have hne : b.take i ≠ [] := by intro e; have := congrArg List.length e; rw [List.length_take, List.length_nil] at this; omega
      simp only [fad0, (o.up hu).l3]
      refine appT_ok hu hN s (by omega) fun w1 M1 hu1 hN1 _ => ?_
      rw [by_ld (Sl.up hb hu1) hil]
      generalize b[i] = c at *
      refine app_c hu1 hN1 (by rw [List.length_append]; omega) fun w3 M3 hu3 hN3 => ?_
      rw [add1_n _ (by omega)]
      exact ih (i + 1) w3 M3 (by omega) hu3 (by rw [hsn, joinB6_snoc s c _ hne]; exact hN3)
    · rename_i hi0
      have i0 : i = 0 := by omega
      subst i0
      rw [by_ld (Sl.up hb hu) hil]
      generalize b[0] = c at *
      refine app_c hu hN (by simp [joinB6]) fun w3 M3 hu3 hN3 => ?_
      rw [add1_n _ (by omega)]
      exact ih (0 + 1) w3 M3 (by omega) hu3 (by rw [hsn]; exact hN3)
/-! ## all inputs -/
theorem ch_all {x2 : Value} {ls : List (List UInt8)} (h : BL M0 x2 ls) (hl : ls.length ≤ 100) (hs : ∀ l ∈ ls, l.length ≤ 2 ^ 12) (hQ : ∀ w M, Up M0 M → N M0 M w ls.flatten → Q (.tuple #[w, .bool true]) M) :
    ∀ (k i : Nat) (w : Value) (M : Store), k + i = ls.length → Up M0 M → N M0 M w (ls.take i).flatten → P_fettleref4_changed_1 x2 w (iv (i : Int)) M Q := by
  intro k
  induction k with
  | zero =>
    intro i w M hi hu hN
    apply T_fettleref4_changed_1
    unfold S_fettleref4_changed_1
    rw [(h.up B_up hu).lenV, OP_some]
    show OP (binI .lss (iv (i : Int)) (iv (ls.length : Int))) _
    rw [lss_n, BR_dec, if_neg (by omega)]
    rw [List.take_of_length_le (by omega)] at hN
    exact ch_end hQ hu hN
  | succ k ih =>
    intro i w M hi hu hN
    have hil : i < ls.length := by omega
    apply T_fettleref4_changed_1
    unfold S_fettleref4_changed_1
    rw [(h.up B_up hu).lenV, OP_some]
    show OP (binI .lss (iv (i : Int)) (iv (ls.length : Int))) _
    rw [lss_n, BR_dec, if_pos hil]
    refine bl_ld (h.up B_up hu) hil fun u hw => ?_
    have h1 := hs _ (List.getElem_mem hil)
    have h2 := sumL_le (2 ^ 12) (ls.take i) fun l hl => hs l (List.mem_of_mem_take hl)
    have h3 : (ls.take i).length * 2 ^ 12 ≤ 100 * 2 ^ 12 := Nat.mul_le_mul_right _ (by rw [List.length_take]; omega)
    have h4 : (ls.take i).flatten.length = sumL (ls.take i) := by rw [List.length_flatten]; rfl
    refine app_by hu hN hw (by omega) fun w1 M1 hu1 hN1 _ => ?_
    rw [add1_n _ (by omega)]
    exact ih (i + 1) w1 M1 (by omega) hu1 (by rw [List.take_succ_eq_append_getElem hil, List.flatten_append]; simpa using hN1)
end
theorem changedE {M : Store} {x1 x2 : Value} {ins : List (List UInt8)} {b : List UInt8} {d : Dw} (hi : BL M x2 ins) (hil : ins.length ≤ 100) (his : ∀ l ∈ ins, l.length ≤ 2 ^ 12) (hb : B M x1 b) (hbl : b.length ≤ 256) (hr : rightA d = true) (hd : 0 ≤ d.2.1) (hs : d.2.2.length ≤ 2 ^ 10) (hk1 : 1 ≤ d.1) (hk : d.1 ≤ 11) :
    R F.fettleref4_changed #[dv d, x1, x2] M fun r M' => Up M M' ∧ StepR M M' r (stepA d ins b) := by
  refine R.cps fun Q hQ => ?_
  apply T_fettleref4_changed
  unfold S_fettleref4_changed
  rw [dv_box, OP_some]
  refine s_new fun M1 u1 o1 n1 => ?_
  obtain ⟨k, n, s⟩ := d
  have o1 : Ob M1 M.n [iv k, iv n, sv s] Ty.api_Do := o1
  simp only at hd hs hk1 hk
  simp only [fad0, o1.l3]
  have fin : ∀ (w : Value) (t : List UInt8) (M' : Store), stepA (k, n, s) ins b = some t → Up M1 M' → B M' w t → t.length ≤ 2 ^ 20 → Q (.tuple #[w, .bool true]) M' := fun w t M' he hu hB ht => hQ _ _ ⟨u1.trans hu, by rw [he]; exact ⟨w, rfl, hB, ht⟩⟩
  have nts : ∀ (w : Value) (t : List UInt8) (M' : Store), B M' w t → NTs [w, .bool true] := fun w t M' hB => by obtain ⟨a, c, rfl⟩ := hB.slice; rfl
  have fail : ∀ (M' : Store), stepA (k, n, s) ins b = none → Up M1 M' → NTs [(.slice none 0 0), .bool false] ∧ Q (.tuple #[(.slice none 0 0), .bool false]) M' := fun M' he hu => ⟨rfl, hQ _ _ ⟨u1.trans hu, by rw [he]; rfl⟩⟩
  have hi1 := hi.up B_up u1
  have hb1 : B M1 x1 b := Sl.up hb u1
  have u0 : Up M1 M1 := Ch.refl _ _
  obtain ⟨m, rfl⟩ := Int.eq_ofNat_of_zero_le hd
  have hmin : ∃ q : Nat, (if (b.length : Int) < (m : Int) then (b.length : Int) else (m : Int)) = (q : Int) ∧ q = min m b.length := by
    by_cases hj : (b.length : Int) < (m : Int)
    · exact ⟨b.length, by rw [if_pos hj], by omega⟩
    · exact ⟨m, by rw [if_neg hj], by omega⟩
  have hnil : N M1 M1 (.slice none 0 0) [] := Nw.nil _ _ _ _
  show OP (binI .eql (.int .i64 k) (.int .i64 1)) _
  rw [e_eql, BR_dec]
  unfold stepA at fin fail
  simp only at fin fail
  split
  · rename_i h1
    simp only [if_pos h1] at fin
    show OP2 (cvSB Ty.uint8 (.string ⟨s.toArray⟩) M1) _
    exact cvSB_ok (by omega) fun w M2 u2 h2 => ⟨nts w s M2 h2.by, fin w s M2 rfl u2 h2.by (by omega)⟩
  rename_i h1
  simp only [if_neg h1] at fin fail
  show OP (binI .eql (.int .i64 k) (.int .i64 2)) _
  rw [e_eql, BR_dec]
  split
  · rename_i h2
    simp only [if_pos h2] at fin fail
    rw [hi1.lenV, OP_some]
    show OP (binI .geq (.int .i64 (m : Int)) (.int .i64 (ins.length : Int))) _
    rw [e_geq, BR_dec]
    split
    · rename_i hge
      simp only [if_neg (show ¬ (m : Int) < (ins.length : Int) by omega)] at fail
      exact fail M1 trivial u0
    · have hlt : (m : Int) < (ins.length : Int) := by omega
      simp only [if_pos hlt] at fin
      have hm : m < ins.length := by omega
      rw [show bldL (.int .u8 0) 1 0 [] = some [] from by kernel_rfl, OP_some]
      refine s_lit (s := 1) (n := 0) rfl fun M2 u2 h2 o2 n2 => ?_
      simp only [(o1.up u2).l3]
      refine bl_ld (hi1.up B_up u2) hm fun w hw => ?_
      have hxl := his _ (List.getElem_mem hm)
      have h2 : N M1 M2 (.slice (some ⟨M1.n, 0, none⟩) 0 0) [] := h2
      refine app_by u2 h2 hw (by simp; omega) fun w2 M3 u3 h3 _ => ?_
      rw [List.nil_append] at h3
      refine ⟨nts w2 _ M3 h3.by, fin w2 _ M3 ?_ u3 h3.by (by omega)⟩
      simp [List.getD_eq_getElem?_getD, List.getElem?_eq_getElem hm]
  rename_i h2
  simp only [if_neg h2] at fin fail
  show OP (binI .eql (.int .i64 k) (.int .i64 3)) _
  rw [e_eql, BR_dec]
  split
  · rename_i h3
    simp only [if_pos h3] at fin
    have h5 := sumL_le (2 ^ 12) ins his
    have h6 : ins.length * 2 ^ 12 ≤ 100 * 2 ^ 12 := Nat.mul_le_mul_right _ hil
    have h4 : ins.flatten.length = sumL ins := by rw [List.length_flatten]; rfl
    exact ch_all (M0 := M1) hi1 hil his (fun w M' hu hN => fin w _ M' rfl hu hN.by (by omega)) ins.length 0 _ M1 rfl u0 hnil
  rename_i h3
  simp only [if_neg h3] at fin fail
  have two : ∀ (bb : Bool), bb = decide (k = 4 ∨ k = 5) → P_fettleref4_changed_2 x1 (pt M.n) (.slice none 0 0) (iv k) (tv bb) M1 Q := by
    intro bb hbb
    apply T_fettleref4_changed_2
    unfold S_fettleref4_changed_2
    subst hbb
    rw [BR_dec]
    split
    · rename_i h45
      refine ch_turn (M0 := M1) hb1 hbl o1 (fun w M' hu hN => fin w (b.map (turnK k)) M' ?_ hu hN.by (by simp; omega)) b.length 0 _ M1 rfl u0 hnil
      rcases h45 with h4 | h5
      · rw [if_pos h4]
        congr 2
        funext c
        unfold turnK
        rw [if_pos h4]
      · rw [if_neg (by omega), if_pos h5]
        congr 2
        funext c
        unfold turnK
        rw [if_neg (by omega), if_pos h5]
    rename_i h45
    have h4 : ¬ k = 4 := fun h => h45 (.inl h)
    have h5 : ¬ k = 5 := fun h => h45 (.inr h)
    simp only [if_neg h4, if_neg h5] at fin fail
    show OP (binI .eql (.int .i64 k) (.int .i64 6)) _
    rw [e_eql, BR_dec]
    split
    · rename_i h6
      simp only [if_pos h6] at fin
      rw [by_len hb1]
      show OP (binI .sub (.int .i64 (b.length : Int)) (.int .i64 1)) _
      rw [e_sub, w64 (by omega) (by omega)]
      exact ch_rev (M0 := M1) hb1 hbl (fun w M' hu hN => fin w _ M' rfl hu hN.by (by simp; omega)) b.length _ M1 (Nat.le_refl _) u0 (by rw [List.drop_length]; exact hnil)
    rename_i h6
    simp only [if_neg h6] at fin fail
    show OP (binI .eql (.int .i64 k) (.int .i64 7)) _
    rw [e_eql, BR_dec]
    split
    · rename_i h7
      simp only [if_pos h7] at fin
      simp only [fad0, o1.l3]
      rw [by_len hb1]
      show OP (amin2 (.int .i64 (m : Int)) (.int .i64 (b.length : Int))) _
      rw [e_min]
      obtain ⟨q, hq, hql⟩ := hmin
      rw [hq]
      obtain ⟨v', e, hB⟩ := hb1.cut (lo := none) (hi := some (.int .i64 (q : Int))) (a := 0) (r := q) (by simp only [abound]; rw [if_pos ⟨by omega, by omega⟩]; rfl) rfl (by omega) (Nat.zero_le _)
      rw [e, OP_some]
      refine app_by u0 hnil hB (by simp; omega) fun w2 M3 u3 h3 _ => ?_
      rw [List.nil_append] at h3
      refine ch_end (M0 := M1) (fun w M' hu hN => fin w _ M' ?_ hu hN.by (by simp; omega)) u3 h3
      rw [List.drop_zero, Int.toNat_natCast, hql]
      by_cases hmb : m ≤ b.length
      · rw [Nat.min_eq_left hmb]
      · rw [Nat.min_eq_right (by omega), List.take_length, List.take_of_length_le (by omega)]
    rename_i h7
    simp only [if_neg h7] at fin fail
    show OP (binI .eql (.int .i64 k) (.int .i64 8)) _
    rw [e_eql, BR_dec]
    split
    · rename_i h8
      simp only [if_pos h8] at fin
      simp only [fad0, o1.l3]
      rw [by_len hb1]
      show OP (amin2 (.int .i64 (m : Int)) (.int .i64 (b.length : Int))) _
      rw [e_min]
      obtain ⟨q, hq, hql⟩ := hmin
      rw [hq]
      obtain ⟨v', e, hB⟩ := hb1.cut (lo := some (.int .i64 (q : Int))) (hi := none) (a := q) (r := b.length) rfl (by simp only [abound]; rw [if_pos ⟨by omega, by omega⟩]; rfl) (Nat.le_refl _) (by omega)
      rw [e, OP_some]
      refine app_by u0 hnil hB (by simp; omega) fun w2 M3 u3 h3 _ => ?_
      rw [List.nil_append] at h3
      refine ch_end (M0 := M1) (fun w M' hu hN => fin w _ M' ?_ hu hN.by (by simp; omega)) u3 h3
      rw [List.take_length, Int.toNat_natCast, hql]
      by_cases hmb : m ≤ b.length
      · rw [Nat.min_eq_left hmb]
      · rw [Nat.min_eq_right (by omega), List.drop_length, List.drop_of_length_le (by omega)]
    rename_i h8
    simp only [if_neg h8] at fin fail
    show OP (binI .eql (.int .i64 k) (.int .i64 9)) _
    rw [e_eql, BR_dec]
    split
    · rename_i h9
      simp only [if_pos h9] at fin
      refine app_by u0 hnil hb1 (by simp; omega) fun w2 M3 u3 h3 _ => ?_
      rw [List.nil_append] at h3
      refine app_by u3 h3 (Sl.up hb1 u3) (by omega) fun w4 M4 u4 h4 _ => ?_
      exact ch_end (M0 := M1) (fun w M' hu hN => fin w _ M' rfl hu hN.by (by simp; omega)) u4 h4
    rename_i h9
    simp only [if_neg h9] at fin fail
    show OP (binI .eql (.int .i64 k) (.int .i64 10)) _
    rw [e_eql, BR_dec]
    split
    · rename_i h10
      simp only [if_pos h10] at fin
      refine ch_join (M0 := M1) hb1 hbl hs o1 (fun w M' hu hN => fin w _ M' rfl hu hN.by ?_) b.length 0 _ M1 rfl u0 hnil
      have h1 := joinB6_len s b
      have h2 : b.length * (s.length + 1) ≤ 256 * (2 ^ 10 + 1) := Nat.mul_le_mul hbl (by omega)
      omega
    rename_i h10
    simp only [if_neg h10] at fail
    show OP (binI .eql (.int .i64 k) (.int .i64 11)) _
    rw [e_eql, BR_dec, if_pos (by omega)]
    exact fail M1 trivial u0
  show OP (binI .eql (.int .i64 k) (.int .i64 4)) _
  rw [e_eql, BR_dec]
  split
  · rename_i h4
    have := two (decide (k = 4)) (by simp [h4])
    exact this
  · rename_i h4
    show OP (binI .eql (.int .i64 k) (.int .i64 5)) _
    rw [e_eql]
    refine two (decide (k = 5)) ?_
    simp [h4]

/-! ## a run -/
def RunB (M : Store) (r : Value) : Option (List UInt8) → Prop
  | none => r = .tuple #[.slice none 0 0, .bool false]
  | some t => ∃ w, r = .tuple #[w, .bool true] ∧ B M w t ∧ t.length ≤ 256
theorem RRun_loop {M0 : Store} {v x1 : Value} {l : List Dw} {ins : List (List UInt8)} (h : DS M0 v l) (hl : l.length ≤ 2 ^ 20) (hr : ∀ d ∈ l, rightA d = true) (hls : ∀ d ∈ l, d.2.2.length ≤ 2 ^ 10) (hi : BL M0 x1 ins) (hil : ins.length ≤ 100) (his : ∀ l ∈ ins, l.length ≤ 2 ^ 12)
    {o : Option (List UInt8)} {Q : Value → Store → Prop} (hQ : ∀ r M, Up M0 M → RunB M r o → Q r M) :
    ∀ (k i : Nat) (x6 : Value) (b : List UInt8) (M : Store), k + i = l.length → Up M0 M → B M x6 b → b.length ≤ 256 → runL ins (l.drop i) b = o → P_fettleref4_Run_1 v x1 x6 (iv (i : Int)) M Q := by
  intro k
  induction k with
  | zero =>
    intro i x6 b M hk hu hB hb ho
    apply T_fettleref4_Run_1
    unfold S_fettleref4_Run_1
    rw [(Sl.up h hu).lenV, OP_some]
    show OP (binI .lss (iv (i : Int)) (iv (l.length : Int))) _
    rw [lss_n, BR_dec, if_neg (by omega)]
    apply T_fettleref4_Run_3
    unfold S_fettleref4_Run_3
    rw [List.drop_of_length_le (by omega)] at ho
    subst ho
    refine ⟨by obtain ⟨a, c, rfl⟩ := hB.slice; rfl, hQ _ _ hu ⟨x6, rfl, hB, hb⟩⟩
  | succ k ih =>
    intro i x6 b M hk hu hB hb ho
    have hil2 : i < l.length := by omega
    apply T_fettleref4_Run_1
    unfold S_fettleref4_Run_1
    rw [(Sl.up h hu).lenV, OP_some]
    show OP (binI .lss (iv (i : Int)) (iv (l.length : Int))) _
    rw [lss_n, BR_dec, if_pos hil2]
    apply T_fettleref4_Run_2
    unfold S_fettleref4_Run_2
    rw [ds_ld (Sl.up h hu) hil2]
    have hd := hr _ (List.getElem_mem hil2)
    have hdl := hls _ (List.getElem_mem hil2)
    rw [List.drop_eq_getElem_cons hil2] at ho
    generalize l[i] = d at *
    have hk1 : 1 ≤ d.1 ∧ d.1 ≤ 11 := by
      unfold rightA at hd
      split at hd
      · cases hd
      · split at hd
        · cases hd
        · omega
    refine (changedE (d := d) (hi.up B_up hu) hil his hB hb hd (rightA_pos hd) hdl hk1.1 hk1.2).mono fun r M3 ⟨u3, hr3⟩ => ?_
    have none_ : o = none → NTs [(.slice none 0 0), (.bool false)] ∧ Q (.tuple #[(.slice none 0 0), (.bool false)]) M3 := fun e => ⟨rfl, hQ _ _ (hu.trans u3) (by rw [e]; rfl)⟩
    rw [runL] at ho
    cases hst : stepA d ins b with
    | none =>
      rw [hst] at hr3 ho
      have hr3 : r = .tuple #[.slice none 0 0, .bool false] := hr3
      subst hr3
      rw [(tp2b _ _).1, (tp2b _ _).2, e_not, BR_bool, if_pos (show (!false) = true from rfl)]
      exact none_ ho.symm
    | some t =>
      rw [hst] at hr3 ho
      obtain ⟨w, e, hw, ht⟩ := hr3
      subst e
      rw [(tp2b _ _).1, (tp2b _ _).2, e_not, BR_bool, if_neg (by simp), by_len hw, gtr_l 256 256 rfl, BR_dec]
      simp only at ho
      split
      · rename_i hlt
        rw [if_pos hlt] at ho
        exact none_ ho.symm
      · rename_i hlt
        rw [if_neg hlt] at ho
        rw [add1_n _ (by omega)]
        exact ih (i + 1) w t M3 (by omega) (hu.trans u3) hw (by omega) ho
theorem RRunE {M : Store} {v x1 : Value} {l : List Dw} {ins : List (List UInt8)} (h : DS M v l) (hl : l.length ≤ 2 ^ 20) (hls : ∀ d ∈ l, d.2.2.length ≤ 2 ^ 10) (hi : BL M x1 ins) (hil : ins.length ≤ 100) (his : ∀ l ∈ ins, l.length ≤ 2 ^ 12) :
    R F.fettleref4_Run #[v, x1] M fun r M' => Up M M' ∧ RunB M' r (runA l ins) := by
  refine R.cps fun Q hQ => ?_
  apply T_fettleref4_Run
  unfold S_fettleref4_Run
  refine (ROk_ok h (by omega) (fun d hd => by have := hls d hd; omega)).mono fun r M1 ⟨u1, hr⟩ => ?_
  subst hr
  unfold runA at hQ
  rw [e_not, BR_bool]
  split
  · rename_i ho
    rw [if_neg (by simpa using ho)] at hQ
    exact ⟨rfl, hQ _ _ ⟨u1, rfl⟩⟩
  · rename_i ho
    have ho : okA l = true := by simpa using ho
    rw [if_pos ho] at hQ
    have hra : ∀ d ∈ l, rightA d = true := fun d hd => by
      unfold okA at ho
      rw [Bool.and_eq_true] at ho
      exact okFrom_right l 0 ho.1 d hd
    exact RRun_loop (M0 := M1) (Sl.up h u1) hl hra hls (hi.up B_up u1) hil his (fun r M' hu hr => hQ _ _ ⟨u1.trans hu, hr⟩) l.length 0 _ [] M1 rfl (Ch.refl _ _) (Sl.nil _ _ _) (by simp) (by rw [List.drop_zero])
end Go.G
