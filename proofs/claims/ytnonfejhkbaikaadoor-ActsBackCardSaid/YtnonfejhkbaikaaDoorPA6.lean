/- Layer 6: actions that are right; their bytes; by the program and by the document. -/
import Derived.Test.YtnonfejhkbaikaaDoorPGC
import Derived.Test.YtnonfejhkbaikaaDoorPN1
import Derived.Test.YtnonfejhkbaikaaDoorPC1
import Derived.Test.YtnonfejhkbaikaaDoorPQ6
namespace Go.G
open Go.Ab Go.Proofs Go.RowKit
set_option linter.unusedVariables false
set_option linter.unusedSimpArgs false
set_option maxRecDepth 100000

def dcs (d : Dw) : List Value := [iv d.1, iv d.2.1, sv d.2.2]
def dv (d : Dw) : Value := .agg (dcs d).toArray
theorem dcs_len (d : Dw) : (dcs d).length = 3 := rfl
theorem dcs_one (d : Dw) : (dcs d).all (·.oneCell') = true := by obtain ⟨a, b, c⟩ := d; kernel_rfl
abbrev DS (M : Store) (v : Value) (l : List Dw) : Prop := LK 3 dcs Ty.api_Do M v l
abbrev NDS (M0 M : Store) (v : Value) (l : List Dw) : Prop := NK 3 dcs Ty.api_Do M0 M v l
theorem dv_box (d : Dw) : boxv (dv d) = some (dcs d) := by obtain ⟨a, b, c⟩ := d; kernel_rfl
theorem ds_ld {M : Store} {v : Value} {l : List Dw} (h : DS M v l) {i : Nat} (hi : i < l.length) (K : Value → Prop) : (OP (ixA 3 v (iv (i : Int))) fun p => OP (ld 3 true p M) K) = K (dv l[i]) := by
  obtain ⟨p, e1, e2⟩ := LK.at dcs_len h hi .i64
  show (OP (ixA 3 v (.int .i64 (i : Int))) fun p => OP (ld 3 true p M) K) = _
  rw [e1, OP_some, e2 true]; rfl
theorem ds_fld {M : Store} {v : Value} {l : List Dw} (h : DS M v l) {i : Nat} (hi : i < l.length) {f : Nat} {w : Value} (hf : (dcs l[i])[f]? = some w) (K : Value → Prop) : (OP (ixA 3 v (iv (i : Int))) fun p => OP (fad f p) fun p => OP (ld 1 false p M) K) = K w := by
  obtain ⟨b, o, e1, e2⟩ := LK.fld dcs_len h hi hf .i64
  show (OP (ixA 3 v (.int .i64 (i : Int))) fun p => OP (fad f p) fun p => OP (ld 1 false p M) K) = _
  rw [e1, OP_some, e_fad, e2, OP_some]

/-! ## kinds -/
theorem atext_ok {M : Store} {k : Int} {Q : Value → Store → Prop} (hQ : Q (tv (textA k)) M) : R F.acts_text #[iv k] M Q := by
  apply T_acts_text
  unfold S_acts_text
  show OP (binI .eql (.int .i64 k) (.int .i64 1)) _
  rw [e_eql, BR_dec]
  unfold textA at hQ
  split
  · rename_i h; rw [decide_eq_true h, Bool.true_or] at hQ; exact ⟨rfl, hQ⟩
  · rename_i h
    rw [decide_eq_false h, Bool.false_or] at hQ
    show OP (binI .eql (.int .i64 k) (.int .i64 10)) _
    rw [e_eql]; exact ⟨rfl, hQ⟩
theorem abegins_ok {M : Store} {k : Int} {Q : Value → Store → Prop} (hQ : Q (tv (beginsA k)) M) : R F.acts_begins #[iv k] M Q := by
  apply T_acts_begins
  unfold S_acts_begins
  unfold beginsA at hQ
  show OP (binI .eql (.int .i64 k) (.int .i64 1)) _
  rw [e_eql, BR_dec]
  split
  · rename_i h; rw [decide_eq_true h, Bool.true_or] at hQ; exact ⟨rfl, hQ⟩
  · rename_i h
    rw [decide_eq_false h, Bool.false_or] at hQ
    show OP (binI .eql (.int .i64 k) (.int .i64 2)) _
    rw [e_eql, BR_dec]
    split
    · rename_i h; rw [decide_eq_true h, Bool.true_or] at hQ; exact ⟨rfl, hQ⟩
    · rename_i h
      rw [decide_eq_false h, Bool.false_or] at hQ
      show OP (binI .eql (.int .i64 k) (.int .i64 3)) _
      rw [e_eql]; exact ⟨rfl, hQ⟩
theorem atop_ok {M : Store} {k : Int} {Q : Value → Store → Prop} (hQ : Q (iv (topA k)) M) : R F.acts_top #[iv k] M Q := by
  apply T_acts_top
  unfold S_acts_top
  unfold topA at hQ
  show OP (binI .eql (.int .i64 k) (.int .i64 2)) _
  rw [e_eql, BR_dec]
  split
  · rename_i h; rw [if_pos h] at hQ; exact ⟨rfl, hQ⟩
  · rename_i h
    rw [if_neg h] at hQ
    show OP (binI .eql (.int .i64 k) (.int .i64 7)) _
    rw [e_eql, BR_dec]
    split
    · rename_i h; rw [if_pos h] at hQ; rw [BR_dec, if_pos h]; exact ⟨rfl, hQ⟩
    · rename_i h
      rw [if_neg h] at hQ
      show OP (binI .eql (.int .i64 k) (.int .i64 8)) _
      rw [e_eql, BR_dec]
      split
      · rename_i h; rw [if_pos h] at hQ; exact ⟨rfl, hQ⟩
      · rename_i h; rw [if_neg h] at hQ; exact ⟨rfl, hQ⟩
theorem fit_bad {s : List UInt8} {i : Nat} (h : i < s.length) (hb : fitB s[i] = false) : fitsA s = false := by
  unfold fitsA
  have : s.all fitB = false := by rw [List.all_eq_false]; exact ⟨s[i], List.getElem_mem h, by rw [hb]; decide⟩
  rw [this, Bool.false_and]
theorem fit_end {s : List UInt8} (h : ∀ j (hj : j < s.length), fitB s[j] = true) : fitsA s = decide (s.length ≤ 64) := by
  unfold fitsA
  have : s.all fitB = true := List.all_eq_true.2 fun c hc => by
    obtain ⟨j, hj, rfl⟩ := List.getElem_of_mem hc
    exact h j hj
  rw [this, Bool.true_and]
theorem fit_round {s : List UInt8} {i : Nat} (hi : i < s.length) {F G : Prop} (hF : fitB s[i] = false → F) (hG : fitB s[i] = true → G) :
    OP (ixS (sv s) (iv (i : Int))) fun t11 => OP (binI .lss t11 (.int .u8 32)) fun t12 => BR t12 F (OP (ixS (sv s) (iv (i : Int))) fun t16 => OP (binI .gtr t16 (.int .u8 126)) fun t17 => BR t17 F (
      OP (ixS (sv s) (iv (i : Int))) fun t22 => OP (binI .eql t22 (.int .u8 34)) fun t23 => BR t23 F G)) := by
  rw [bv_at s i hi, bv_ltI (d := 32) (n := 32) rfl, BR_dec]
  split
  · rename_i h; exact hF (by unfold fitB; rw [decide_eq_true h]; rfl)
  · rename_i h1
    rw [bv_at s i hi, bv_gtI (d := 126) (n := 126) rfl, BR_dec]
    split
    · rename_i h; exact hF (by unfold fitB; rw [decide_eq_true (p := 126 < s[i]) h]; simp)
    · rename_i h2
      rw [bv_at s i hi, bv_eqI (d := 34) (n := 34) rfl, BR_dec]
      split
      · rename_i h; exact hF (by unfold fitB; rw [decide_eq_true (p := s[i] = 34) h]; simp)
      · rename_i h3
        exact hG (by unfold fitB; rw [decide_eq_false h1, decide_eq_false (p := 126 < s[i]) h2, decide_eq_false (p := s[i] = 34) h3]; rfl)
theorem fits_loop {M : Store} {s : List UInt8} (hs : s.length ≤ 2 ^ 40) {Q : Value → Store → Prop} (hQ : Q (tv (fitsA s)) M) : ∀ (d i : Nat), d + i = s.length → (∀ j (hj : j < i) (hl : j < s.length), fitB s[j] = true) → P_acts_fits_1 (sv s) (iv (s.length : Int)) (iv (i : Int)) M Q := by
  intro d
  induction d with
  | zero =>
    intro i hi h
    apply T_acts_fits_1
    unfold S_acts_fits_1
    rw [lss_n, BR_dec, if_neg (by omega)]
    apply T_acts_fits_3
    unfold S_acts_fits_3
    rw [fit_end fun j hj => h j (by omega) hj] at hQ
    rw [sv_len, leq_l 64 64 rfl]
    exact ⟨rfl, hQ⟩
  | succ d ih =>
    intro i hi h
    apply T_acts_fits_1
    unfold S_acts_fits_1
    have hil : i < s.length := by omega
    rw [lss_n, BR_dec, if_pos hil]
    apply T_acts_fits_2
    unfold S_acts_fits_2
    refine fit_round hil (fun hb => ?_) fun hb => ?_
    · rw [fit_bad hil hb] at hQ; exact ⟨rfl, hQ⟩
    · rw [add1_n _ (by omega)]
      refine ih (i + 1) (by omega) fun j hj hl => ?_
      by_cases e : j = i
      · subst e; exact hb
      · exact h j (by omega) hl
theorem fits_ok {M : Store} {s : List UInt8} (hs : s.length ≤ 2 ^ 40) {Q : Value → Store → Prop} (hQ : Q (tv (fitsA s)) M) : R F.acts_fits #[sv s] M Q := by
  apply T_acts_fits
  unfold S_acts_fits
  rw [sv_len]
  exact fits_loop hs hQ s.length 0 rfl fun j hj => by omega
theorem rplain_loop {M : Store} {s : List UInt8} (hs : s.length ≤ 2 ^ 40) {Q : Value → Store → Prop} (hQ : Q (tv (fitsA s)) M) : ∀ (d i : Nat), d + i = s.length → (∀ j (hj : j < i) (hl : j < s.length), fitB s[j] = true) → P_fettleref4_plain_1 (sv s) (iv (i : Int)) M Q := by
  intro d
  induction d with
  | zero =>
    intro i hi h
    apply T_fettleref4_plain_1
    unfold S_fettleref4_plain_1
    rw [sv_len, lss_n, BR_dec, if_neg (by omega)]
    apply T_fettleref4_plain_3
    unfold S_fettleref4_plain_3
    rw [fit_end fun j hj => h j (by omega) hj] at hQ
    rw [sv_len, leq_l 64 64 rfl]
    exact ⟨rfl, hQ⟩
  | succ d ih =>
    intro i hi h
    apply T_fettleref4_plain_1
    unfold S_fettleref4_plain_1
    have hil : i < s.length := by omega
    rw [sv_len, lss_n, BR_dec, if_pos hil]
    apply T_fettleref4_plain_2
    unfold S_fettleref4_plain_2
    refine fit_round hil (fun hb => ?_) fun hb => ?_
    · rw [fit_bad hil hb] at hQ; exact ⟨rfl, hQ⟩
    · rw [add1_n _ (by omega)]
      refine ih (i + 1) (by omega) fun j hj hl => ?_
      by_cases e : j = i
      · subst e; exact hb
      · exact h j (by omega) hl
theorem rplain_ok {M : Store} {s : List UInt8} (hs : s.length ≤ 2 ^ 40) {Q : Value → Store → Prop} (hQ : Q (tv (fitsA s)) M) : R F.fettleref4_plain #[sv s] M Q := by
  apply T_fettleref4_plain
  unfold S_fettleref4_plain
  exact rplain_loop hs hQ s.length 0 rfl fun j hj => by omega

/-! ## right ones -/
theorem right_ok {M : Store} {d : Dw} (hs : d.2.2.length ≤ 2 ^ 40) : R F.acts_right #[dv d] M fun v M' => Up M M' ∧ v = tv (rightA d) := by
  refine R.cps fun Q hQ => ?_
  apply T_acts_right
  unfold S_acts_right
  rw [dv_box, OP_some]
  refine s_new fun M1 u1 o1 n1 => ?_
  obtain ⟨k, n, s⟩ := d
  have o1 : Ob M1 M.n [iv k, iv n, sv s] Ty.api_Do := o1
  have hQ' : Q (tv (rightA (k, n, s))) M1 := hQ _ _ ⟨u1, rfl⟩
  unfold rightA at hQ'
  simp only at hQ' hs
  simp only [fad0, o1.l3]
  show OP (binI .lss (.int .i64 k) (.int .i64 1)) _
  rw [e_lss, BR_dec]
  split
  · rename_i h; rw [if_pos h] at hQ'; exact ⟨rfl, hQ'⟩
  · rename_i h1
    rw [if_neg h1] at hQ'
    show OP (binI .gtr (.int .i64 k) (.int .i64 11)) _
    rw [e_gtr, BR_dec]
    split
    · rename_i h; rw [if_pos h] at hQ'; exact ⟨rfl, hQ'⟩
    · rename_i h2
      rw [if_neg h2] at hQ'
      refine atext_ok ?_
      simp only [fad0, o1.l3]
      rw [BR_bool]
      split
      · rename_i ht
        rw [if_pos ht] at hQ'
        show OP (binI .eql (.int .i64 n) (.int .i64 0)) _
        rw [e_eql, BR_dec]
        split
        · rename_i h; rw [if_pos h] at hQ'; exact fits_ok hs ⟨rfl, hQ'⟩
        · rename_i h; rw [if_neg h] at hQ'; exact ⟨rfl, hQ'⟩
      · rename_i ht
        rw [if_neg ht] at hQ'
        show OP (binS .eql (sv s) (sv [])) _
        rw [sv_eq, BR_dec]
        split
        · rename_i h
          rw [if_pos h] at hQ'
          show OP (binI .geq (.int .i64 n) (.int .i64 0)) _
          rw [e_geq, BR_dec]
          split
          · rename_i h
            rw [if_pos h] at hQ'
            refine atop_ok ⟨Up.tdj (Ch.refl _ _) _ _, ?_⟩
            rw [e_max, e_leq]
            exact ⟨rfl, hQ'⟩
          · rename_i h
            rw [if_neg h] at hQ'; exact ⟨rfl, hQ'⟩
        · rename_i h
          rw [if_neg h] at hQ'; exact ⟨rfl, hQ'⟩

theorem bool_eq' (a b : Bool) (K : Value → Prop) : OP (abin Tryd.prog false .eql Ty.bool (tv a) (tv b)) K = K (tv (a == b)) := by
  have : abin Tryd.prog false .eql Ty.bool (.bool a) (.bool b) = some (.bool (a == b)) := by kernel_rfl
  rw [this]; rfl
theorem bool_ne' (a b : Bool) (K : Value → Prop) : OP (abin Tryd.prog false .neq Ty.bool (tv a) (tv b)) K = K (tv (a != b)) := by
  have : abin Tryd.prog false .neq Ty.bool (.bool a) (.bool b) = some (.bool (a != b)) := by kernel_rfl
  rw [this]; rfl
theorem okFrom_drop (l : List Dw) : ∀ i, okFrom i (l.drop i) = (if h : i < l.length then goodA (decide (i = 0)) l[i] && okFrom (i + 1) (l.drop (i + 1)) else true) := by
  intro i
  split
  · rename_i h; rw [List.drop_eq_getElem_cons h, okFrom]
  · rename_i h; rw [List.drop_of_length_le (by omega)]; rfl
theorem Aok_loop {M0 : Store} {v : Value} {l : List Dw} (h : DS M0 v l) (hl : l.length ≤ 2 ^ 40) (hs : ∀ d ∈ l, d.2.2.length ≤ 2 ^ 40) {Q : Value → Store → Prop} (hQ : ∀ M, Up M0 M → Q (tv (okA l)) M) :
    ∀ (k i : Nat) (M : Store), k + i = l.length → Up M0 M → okFrom 0 l = okFrom i (l.drop i) → P_acts_Ok_1 v v (iv (l.length : Int)) (iv (i : Int)) M Q := by
  intro k
  induction k with
  | zero =>
    intro i M hi hu ho
    apply T_acts_Ok_1
    unfold S_acts_Ok_1
    rw [lss_n, BR_dec, if_neg (by omega)]
    apply T_acts_Ok_3
    unfold S_acts_Ok_3
    have hQ := hQ M hu
    unfold okA at hQ
    rw [ho, List.drop_of_length_le (by omega)] at hQ
    have : okFrom i ([] : List Dw) = true := rfl
    rw [this, Bool.true_and] at hQ
    rw [(Sl.up h hu).lenV, OP_some]
    show OP (binI .geq (iv (l.length : Int)) _) _
    rw [geq_l 1 1 rfl, BR_dec]
    split
    · rename_i h1
      rw [decide_eq_true h1, Bool.true_and] at hQ
      rw [OP_some]
      show OP (binI .leq (iv (l.length : Int)) _) _
      rw [leq_l 8 8 rfl]
      exact ⟨rfl, hQ⟩
    · rename_i h1
      rw [decide_eq_false h1, Bool.false_and] at hQ
      exact ⟨rfl, hQ⟩
  | succ k ih =>
    intro i M hi hu ho
    have hil : i < l.length := by omega
    apply T_acts_Ok_1
    unfold S_acts_Ok_1
    rw [lss_n, BR_dec, if_pos hil]
    apply T_acts_Ok_2
    unfold S_acts_Ok_2
    rw [ds_ld (Sl.up h hu) hil]
    have hsl := hs _ (List.getElem_mem hil)
    rw [okFrom_drop, dif_pos hil] at ho
    generalize l[i] = d at *
    refine s_new fun M1 u1 o1 n1 => ?_
    refine s_st (vs := dcs d) o1 rfl rfl (dcs_one _) fun M2 c2 o2 n2 => ?_
    have hu2 : Up M0 M2 := hu.trans (u1.ch c2 (by simp))
    rw [o2.ldA (s := 3) rfl, OP_some]
    refine (right_ok (d := d) hsl).mono fun r M3 ⟨u3, hr⟩ => ?_
    subst hr
    have hu3 := hu2.trans u3
    have hbad : goodA (decide (i = 0)) d = false → Q (tv false) M3 := fun hg => by
      have hQ := hQ M3 hu3
      unfold okA at hQ
      rw [ho, hg, Bool.false_and, Bool.false_and] at hQ
      exact hQ
    rw [e_not, BR_bool]
    split
    · rename_i hr
      have hr : rightA d = false := by simpa using hr
      exact ⟨rfl, hbad (by unfold goodA; rw [hr, Bool.false_and])⟩
    · rename_i hr
      have hr : rightA d = true := by simpa using hr
      have o3 := o2.up u3
      rw [fad0, Ob.ld (o := 0) (v := iv d.1) o3 rfl, OP_some]
      refine abegins_ok ?_
      rw [eql_l 0 0 rfl, bool_ne', BR_bool]
      split
      · rename_i hb
        refine ⟨rfl, hbad ?_⟩
        unfold goodA
        rw [hr, Bool.true_and]
        cases h1 : beginsA d.1 <;> cases h2 : decide (i = 0) <;> rw [h1, h2] at hb <;> first | rfl | (cases hb; done)
      · rename_i hb
        have hg : goodA (decide (i = 0)) d = true := by
          unfold goodA
          rw [hr, Bool.true_and]
          cases h1 : beginsA d.1 <;> cases h2 : decide (i = 0) <;> rw [h1, h2] at hb <;> first | rfl | (exact absurd rfl hb)
        rw [add1_n _ (by omega)]
        exact ih (i + 1) M3 (by omega) hu3 (by rw [ho, hg, Bool.true_and])
theorem Aok_ok {M : Store} {v : Value} {l : List Dw} (h : DS M v l) (hl : l.length ≤ 2 ^ 40) (hs : ∀ d ∈ l, d.2.2.length ≤ 2 ^ 40) : R F.acts_Ok #[v] M fun r M' => Up M M' ∧ r = tv (okA l) := by
  refine R.cps fun Q hQ => ?_
  apply T_acts_Ok
  unfold S_acts_Ok
  rw [h.lenV, OP_some]
  exact Aok_loop h hl hs (fun M' hu => hQ _ _ ⟨hu, rfl⟩) l.length 0 M rfl (Ch.refl _ _) rfl

/-! ## bytes -/
theorem held_len {n : Nat} (h : n ≤ 2 ^ 30) : held (n : Int) = n := held_of (by omega)
theorem fm_snoc {l : List Dw} {i : Nat} (h : i < l.length) : (l.take (i + 1)).flatMap doB = (l.take i).flatMap doB ++ doB l[i] := by
  rw [List.take_succ_eq_append_getElem h, List.flatMap_append]; simp
theorem doB_length (d : Dw) : (doB d).length = 18 + d.2.2.length := by simp [doB, be_length]; omega
theorem fm_len (m : Nat) : ∀ l : List Dw, (∀ d ∈ l, d.2.2.length ≤ m) → (l.flatMap doB).length ≤ l.length * (18 + m)
  | [], _ => by simp
  | d :: l, h => by
    rw [List.flatMap_cons, List.length_append, doB_length, List.length_cons, Nat.succ_mul]
    have h1 := h d (by simp)
    have h2 := fm_len m l fun x hx => h x (by simp [hx])
    omega
theorem ABytes_loop {M0 : Store} {v : Value} {l : List Dw} (h : DS M0 v l) (hl : l.length ≤ 2 ^ 10) (hs : ∀ d ∈ l, d.2.2.length ≤ 2 ^ 10) {Q : Value → Store → Prop} (hQ : ∀ w M, Up M0 M → N M0 M w (actB l) → Q w M) :
    ∀ (k i : Nat) (w : Value) (M : Store), k + i = l.length → Up M0 M → N M0 M w (be 6 l.length ++ (l.take i).flatMap doB) → P_acts_Bytes_1 w v (iv (l.length : Int)) (iv (i : Int)) M Q := by
  intro k
  induction k with
  | zero =>
    intro i w M hi hu hN
    apply T_acts_Bytes_1
    unfold S_acts_Bytes_1
    rw [lss_n, BR_dec, if_neg (by omega)]
    apply T_acts_Bytes_3
    unfold S_acts_Bytes_3
    rw [List.take_of_length_le (by omega)] at hN
    exact ⟨nts_of hN.by, hQ w M hu hN⟩
  | succ k ih =>
    intro i w M hi hu hN
    have hil : i < l.length := by omega
    have hpre : ((l.take i).flatMap doB).length ≤ (l.take i).length * (18 + 2 ^ 10) := fm_len (2 ^ 10) _ fun d hd => hs d (List.mem_of_mem_take hd)
    have htl : (l.take i).length = i := by rw [List.length_take]; omega
    have hmul : (l.take i).length * (18 + 2 ^ 10) ≤ 2 ^ 10 * (18 + 2 ^ 10) := Nat.mul_le_mul_right _ (by omega)
    have hb6 : (be 6 l.length).length = 6 := be_length _ _
    apply T_acts_Bytes_1
    unfold S_acts_Bytes_1
    rw [lss_n, BR_dec, if_pos hil]
    apply T_acts_Bytes_2
    unfold S_acts_Bytes_2
    rw [ds_ld (Sl.up h hu) hil]
    have hsl := hs _ (List.getElem_mem hil)
    have hfm := fm_snoc hil
    generalize l[i] = d at *
    refine s_new fun M1 u1 o1 n1 => ?_
    refine s_st (vs := dcs d) o1 rfl rfl (dcs_one _) fun M2 c2 o2 n2 => ?_
    have u02 : Up M M2 := u1.ch c2 (by simp)
    obtain ⟨kk, n, t⟩ := d
    have o2 : Ob M2 M.n [iv kk, iv n, sv t] Ty.api_Do := o2
    simp only [fad0, o2.l3]
    refine (Num_ok (Sl.up hN.by u02) (by rw [List.length_append]; omega) kk).mono fun w3 M3 ⟨u3, h3⟩ => ⟨u3.tdj _ _, ?_⟩
    have o3 := o2.up u3
    simp only [o3.l3]
    refine (Num_ok h3.by (by simp only [List.length_append, be_length]; omega) n).mono fun w4 M4 ⟨u4, h4⟩ => ⟨u4.tdj _ _, ?_⟩
    have o4 := o3.up u4
    simp only [o4.l3]
    refine cvSB_ok (by simp only at hsl; omega) fun w5 M5 u5 h5 => ?_
    refine (Bytes_ok (Sl.up h4.by u5) h5.by (by simp only [List.length_append, be_length]; omega) (by simp only at hsl; omega)).mono fun w6 M6 ⟨u6, h6⟩ => ⟨u6.tdx _ _ _, ?_⟩
    rw [add1_n _ (by omega)]
    have hu5 : Up M0 M5 := (((hu.trans u02).trans u3).trans u4).trans u5
    refine ih (i + 1) w6 M6 (by omega) (hu5.trans u6) ?_
    have h6 := Nw.base h6 hu5.n
    have e : be 6 l.length ++ (l.take (i + 1)).flatMap doB = (be 6 l.length ++ (l.take i).flatMap doB ++ be 6 (held kk) ++ be 6 (held n)) ++ be 6 t.length ++ t := by
      rw [hfm]; simp [doB, List.append_assoc]
    rw [e]
    exact h6
theorem ABytes_ok {M : Store} {v : Value} {l : List Dw} (h : DS M v l) (hl : l.length ≤ 2 ^ 10) (hs : ∀ d ∈ l, d.2.2.length ≤ 2 ^ 10) : R F.acts_Bytes #[v] M fun r M' => Up M M' ∧ N M M' r (actB l) := by
  refine R.cps fun Q hQ => ?_
  apply T_acts_Bytes
  unfold S_acts_Bytes
  rw [h.lenV, OP_some]
  refine (Num_ok (l := []) (Sl.nil _ _ _) (by simp) _).mono fun w M1 ⟨u1, h1⟩ => ?_
  rw [OP_some]
  rw [List.nil_append, held_len (by omega)] at h1
  exact ABytes_loop h hl hs (fun w M' hu hN => hQ _ _ ⟨hu, hN⟩) l.length 0 w M1 rfl u1 (by simpa using h1)
end Go.G
