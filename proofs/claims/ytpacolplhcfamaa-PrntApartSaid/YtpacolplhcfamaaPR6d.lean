/- Layer 6: a step; a run. -/
import Derived.Test.YtpacolplhcfamaaPR6c
namespace Go.G
open Go.Ab Go.Proofs Go.RowKit
set_option linter.unusedVariables false
set_option linter.unusedSimpArgs false
set_option maxRecDepth 100000

theorem joinL_le {ls : List (List UInt8)} (hl : ls.length ≤ 100) (hs : ∀ l ∈ ls, l.length ≤ 2 ^ 12) : (joinL [] ls).length ≤ 100 * 2 ^ 12 := by
  rw [joinL_nil, List.length_flatten]
  have h2 := sumL_le (2 ^ 12) ls hs
  have h3 : ls.length * 2 ^ 12 ≤ 100 * 2 ^ 12 := Nat.mul_le_mul_right _ hl
  unfold sumL at h2; omega
theorem e_lit2c (z : Value) (a b : Option Addr) (n1 c1 n2 c2 : Nat) (K : List Value → Prop) : OP (bldL z 1 2 [(0, .slice a n1 c1), (1, .slice b n2 c2)]) K = K [.slice a n1 c1, .slice b n2 c2] := by kernel_rfl
def SR (M : Store) (r : Value) (M' : Store) : Prop := Up M M' ∧ ∃ w ok t, r = .tuple #[w, .bool ok] ∧ B M' w t ∧ t.length ≤ 2 ^ 20
theorem step_ok {M : Store} {x1 x2 : Value} {ins : List (List UInt8)} {b : List UInt8} {d : Dw} (hi : BL M x1 ins) (hil : ins.length ≤ 100) (his : ∀ l ∈ ins, l.length ≤ 2 ^ 12) (hb : B M x2 b) (hbl : b.length ≤ 256) (hd : 0 ≤ d.2.1) (hs : d.2.2.length ≤ 2 ^ 10) :
    R F.acts_step #[dv d, x1, x2] M fun r M' => SR M r M' := by
  refine R.cps fun Q hQ => ?_
  apply T_acts_step
  unfold S_acts_step
  rw [dv_box, OP_some]
  refine s_new fun M1 u1 o1 n1 => ?_
  obtain ⟨k, n, s⟩ := d
  have o1 : Ob M1 M.n [iv k, iv n, sv s] Ty.api_Do := o1
  simp only at hd hs
  simp only [fad0, o1.l3]
  have fin : ∀ (w : Value) (ok : Bool) (t : List UInt8) (M' : Store), Up M M' → B M' w t → t.length ≤ 2 ^ 20 → NTs [w, .bool ok] ∧ Q (.tuple #[w, .bool ok]) M' := fun w ok t M' hu hB ht => ⟨by obtain ⟨a, c, rfl⟩ := hB.slice; rfl, hQ _ _ ⟨hu, w, ok, t, rfl, hB, ht⟩⟩
  have hi1 := hi.up B_up u1
  have hb1 : B M1 x2 b := Sl.up hb u1
  have hmin : ∃ q : Nat, (if (b.length : Int) < n then (b.length : Int) else n) = (q : Int) ∧ q ≤ b.length := by
    obtain ⟨j, rfl⟩ := Int.eq_ofNat_of_zero_le hd
    by_cases hj : (b.length : Int) < (j : Int)
    · exact ⟨b.length, by rw [if_pos hj], Nat.le_refl _⟩
    · exact ⟨j, by rw [if_neg hj], by omega⟩
  show OP (binI .eql (.int .i64 k) (.int .i64 1)) _
  rw [e_eql, BR_dec]
  split
  · show OP2 (cvSB Ty.uint8 (.string ⟨s.toArray⟩) M1) _
    exact cvSB_ok (by omega) fun w M2 u2 h2 => fin w true s M2 (u1.trans u2) h2.by (by omega)
  show OP (binI .eql (.int .i64 k) (.int .i64 2)) _
  rw [e_eql, BR_dec]
  split
  · rw [hi1.lenV, OP_some]
    show OP (binI .geq (.int .i64 n) (.int .i64 (ins.length : Int))) _
    rw [e_geq, BR_dec]
    split
    · exact fin _ false [] M1 u1 (Sl.nil _ _ _) (by simp)
    · obtain ⟨j, rfl⟩ := Int.eq_ofNat_of_zero_le hd
      refine bl_ld hi1 (i := j) (by omega) fun w hw => ?_
      have := his _ (List.getElem_mem (show j < ins.length by omega))
      exact (Clone_ok hw (by omega)).mono fun w2 M2 ⟨u2, h2⟩ => fin w2 true _ M2 (u1.trans u2) h2.by (by omega)
  show OP (binI .eql (.int .i64 k) (.int .i64 3)) _
  rw [e_eql, BR_dec]
  split
  · exact Join_ok hi1 hil his fun v M' hu hB => fin v true _ M' (u1.trans hu) hB (by have := joinL_le hil his; omega)
  show OP (binI .eql (.int .i64 k) (.int .i64 4)) _
  rw [e_eql, BR_dec]
  split
  · show R F.acts_turned #[x2, bv 97, bv 122, iv (-32)] M1 _
    exact (turned_ok hb1 (by omega) 97 122 (-32)).mono fun v M' ⟨hu, t, hN, ht⟩ => fin v true t M' (u1.trans hu) hN.by (by omega)
  show OP (binI .eql (.int .i64 k) (.int .i64 5)) _
  rw [e_eql, BR_dec]
  split
  · show R F.acts_turned #[x2, bv 65, bv 90, iv 32] M1 _
    exact (turned_ok hb1 (by omega) 65 90 32).mono fun v M' ⟨hu, t, hN, ht⟩ => fin v true t M' (u1.trans hu) hN.by (by omega)
  show OP (binI .eql (.int .i64 k) (.int .i64 6)) _
  rw [e_eql, BR_dec]
  split
  · exact (Clone_ok hb1 (by omega)).mono fun v M2 ⟨u2, h2⟩ => (Reverse_ok (M0 := M1) u2 h2 (by omega)).mono fun r M3 ⟨u3, t, hN, ht⟩ => fin v true t M3 (u1.trans u3) hN.by (by omega)
  show OP (binI .eql (.int .i64 k) (.int .i64 7)) _
  rw [e_eql, BR_dec]
  split
  · rw [by_len hb1]
    show OP (amin2 (.int .i64 n) (.int .i64 (b.length : Int))) _
    rw [e_min]
    obtain ⟨q, hq, hql⟩ := hmin
    rw [hq]
    obtain ⟨v', e, hB⟩ := hb1.cut (lo := none) (hi := some (.int .i64 (q : Int))) (a := 0) (r := q) (by simp only [abound]; rw [if_pos ⟨by omega, by omega⟩]; rfl) rfl hql (Nat.zero_le _)
    rw [e, OP_some]
    exact fin v' true _ M1 u1 hB (by simp; omega)
  show OP (binI .eql (.int .i64 k) (.int .i64 8)) _
  rw [e_eql, BR_dec]
  split
  · rw [by_len hb1]
    show OP (amin2 (.int .i64 n) (.int .i64 (b.length : Int))) _
    rw [e_min]
    obtain ⟨q, hq, hql⟩ := hmin
    rw [hq]
    obtain ⟨v', e, hB⟩ := hb1.cut (lo := some (.int .i64 (q : Int))) (hi := none) (a := q) (r := b.length) rfl (by simp only [abound]; rw [if_pos ⟨by omega, by omega⟩]; rfl) (Nat.le_refl _) hql
    rw [e, OP_some]
    exact fin v' true _ M1 u1 hB (by simp; omega)
  show OP (binI .eql (.int .i64 k) (.int .i64 9)) _
  rw [e_eql, BR_dec]
  split
  · obtain ⟨a, c, rfl⟩ := hb1.slice
    rw [e_lit2c]
    refine s_lit (s := 1) (n := 2) rfl fun M2 u2 h2 o2 n2 => ?_
    have hL : BL M2 (.slice (some ⟨M1.n, 0, none⟩) 2 2) [b, b] := ⟨_, h2.sl, Sl.up hb1 u2, Sl.up hb1 u2, trivial⟩
    refine (Concat6_ok hL (by simp) (fun l hl => ?_)).mono fun v M3 ⟨u3, t, hN, ht⟩ => fin v true t M3 ((u1.trans u2).trans u3) hN.by ?_
    · have : l = b := by simpa using hl
      subst this; omega
    · have : sumL [b, b] = b.length + b.length := by simp [sumL]
      omega
  show OP (binI .eql (.int .i64 k) (.int .i64 10)) _
  rw [e_eql, BR_dec]
  split
  · refine (joined_ok (s := s) hb1 (by omega) (by omega)).mono fun v M3 ⟨u3, t, hN, ht⟩ => fin v true t M3 (u1.trans u3) hN.by ?_
    have : b.length * (s.length + 1) ≤ 256 * (2 ^ 10 + 1) := Nat.mul_le_mul hbl (by omega)
    omega
  · exact fin _ false [] M1 u1 (Sl.nil _ _ _) (by simp)

theorem tp2b (a : Value) (ok : Bool) : (∀ K : Value → Prop, OP (tup (.tuple #[a, .bool ok]) 0) K = K a) ∧ (∀ K : Value → Prop, OP (tup (.tuple #[a, .bool ok]) 1) K = K (.bool ok)) := tp2 a (.bool ok)
theorem Run_loop {M0 : Store} {v x1 : Value} {l : List Dw} {ins : List (List UInt8)} (h : DS M0 v l) (hl : l.length ≤ 2 ^ 20) (hld : ∀ d ∈ l, 0 ≤ d.2.1 ∧ d.2.2.length ≤ 2 ^ 10) (hi : BL M0 x1 ins) (hil : ins.length ≤ 100) (his : ∀ l ∈ ins, l.length ≤ 2 ^ 12)
    {Q : Value → Store → Prop} (hQ : ∀ w ok t M, Up M0 M → N M0 M w t → t.length ≤ 256 → Q (.tuple #[w, .bool ok]) M) :
    ∀ (k i : Nat) (x6 : Value) (b : List UInt8) (M : Store), k + i = l.length → Up M0 M → B M x6 b → b.length ≤ 256 → P_acts_Run_1 x1 x6 v (iv (l.length : Int)) (iv (i : Int)) M Q := by
  have none : ∀ M, Up M0 M → NTs [(.slice none 0 0), (.bool false)] ∧ Q (.tuple #[(.slice none 0 0), (.bool false)]) M := fun M hu => ⟨rfl, hQ _ _ [] _ hu (Nw.nil _ _ _ _) (by simp)⟩
  intro k
  induction k with
  | zero =>
    intro i x6 b M hk hu hB hb
    apply T_acts_Run_1
    unfold S_acts_Run_1
    rw [lss_n, BR_dec, if_neg (by omega)]
    apply T_acts_Run_3
    unfold S_acts_Run_3
    refine (Clone_ok hB (by omega)).mono fun w M1 ⟨u1, h1⟩ => (Clip_ok h1).mono fun w2 M2 ⟨e2, h2⟩ => ?_
    subst e2
    refine ⟨?_, hQ _ _ b _ (hu.trans u1) (Nw.base h2 hu.n) hb⟩
    obtain ⟨a, c, rfl⟩ := h2.by.slice
    rfl
  | succ k ih =>
    intro i x6 b M hk hu hB hb
    apply T_acts_Run_1
    unfold S_acts_Run_1
    have hil2 : i < l.length := by omega
    rw [lss_n, BR_dec, if_pos hil2]
    apply T_acts_Run_2
    unfold S_acts_Run_2
    rw [ds_ld (Sl.up h hu) hil2]
    have hd := hld _ (List.getElem_mem hil2)
    generalize l[i] = d at *
    refine s_new fun M1 u1 o1 n1 => ?_
    refine s_st (vs := dcs d) o1 rfl rfl (dcs_one _) fun M2 c2 o2 n2 => ?_
    have u02 : Up M M2 := u1.ch c2 (by simp)
    have hu2 : Up M0 M2 := hu.trans u02
    rw [o2.ldA (s := 3) rfl, OP_some]
    refine (step_ok (d := d) (hi.up B_up hu2) hil his (Sl.up hB u02) hb hd.1 hd.2).mono fun r M3 ⟨u3, w, ok, t, hr, hw, ht⟩ => ?_
    subst hr
    rw [(tp2b w ok).1, (tp2b w ok).2, e_not, BR_bool]
    split
    · exact none M3 (hu2.trans u3)
    · rw [by_len hw, gtr_l 256 256 rfl, BR_dec]
      split
      · exact none M3 (hu2.trans u3)
      · rw [add1_n _ (by omega)]
        exact ih (i + 1) w t M3 (by omega) (hu2.trans u3) hw (by omega)
theorem Run_ok {M : Store} {v x1 : Value} {l : List Dw} {ins : List (List UInt8)} (h : DS M v l) (hl : l.length ≤ 2 ^ 20) (hld : ∀ d ∈ l, 0 ≤ d.2.1 ∧ d.2.2.length ≤ 2 ^ 10) (hi : BL M x1 ins) (hil : ins.length ≤ 100) (his : ∀ l ∈ ins, l.length ≤ 2 ^ 12) :
    R F.acts_Run #[v, x1] M fun r M' => Up M M' ∧ ∃ w ok t, r = .tuple #[w, .bool ok] ∧ N M M' w t ∧ t.length ≤ 256 := by
  refine R.cps fun Q hQ => ?_
  apply T_acts_Run
  unfold S_acts_Run
  refine (Aok_ok h (by omega) (fun d hd => by have := (hld d hd).2; omega)).mono fun r M1 ⟨u1, hr⟩ => ?_
  subst hr
  rw [e_not, BR_bool]
  split
  · exact ⟨rfl, hQ _ _ ⟨u1, _, false, [], rfl, Nw.nil _ _ _ _, by simp⟩⟩
  · rw [h.lenV, OP_some]
    exact Run_loop (M0 := M1) (Sl.up h u1) hl hld (hi.up B_up u1) hil his (fun w ok t M' hu hN ht => hQ _ _ ⟨u1.trans hu, w, ok, t, rfl, Nw.base hN u1.n, ht⟩) l.length 0 _ [] M1 rfl (Ch.refl _ _) (Sl.nil _ _ _) (by simp)
end Go.G
