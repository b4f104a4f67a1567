/- Layer 6: the statements' actions of numbers; whether two are the same. -/
import Derived.Test.YtnonfejhkbaikaaDoorPA6a
import Derived.Test.YtnonfejhkbaikaaDoorPGAc
namespace Go.G
open Go.Ab Go.Proofs Go.RowKit
set_option linter.unusedVariables false
set_option linter.unusedSimpArgs false
set_option maxRecDepth 100000

/-- What the statements' actions of numbers keep to. -/
def okD (d : Dw) : Prop := 0 ≤ d.1 ∧ d.1 ≤ 11 ∧ 0 ≤ d.2.1 ∧ d.2.1 ≤ 255 ∧ d.2.2.length ≤ 64
def acTexts : List (List UInt8) := [[], [97], [104, 105, 32, 116, 104, 101, 114, 101], [45], [120, 121, 122], [48, 49, 50, 51, 52, 53, 54, 55, 56, 57, 48, 49, 50, 51, 52, 53, 54, 55, 56, 57, 48, 49, 50, 51, 52, 53, 54, 55, 56, 57, 48, 49, 50, 51, 52, 53, 54, 55, 56, 57, 48, 49, 50, 51, 52, 53, 54, 55, 56, 57, 48, 49, 50, 51, 52, 53, 54, 55, 56, 57, 48, 49, 50, 51]]
theorem acTexts_len : ∀ t ∈ acTexts, t.length ≤ 64 := by decide
theorem acTexts_fit : ∀ t ∈ acTexts, fitsA t = true := List.all_eq_true.1 (by kernel_rfl)
theorem right_text {k : Nat} {t : List UInt8} (h1 : 1 ≤ k) (h2 : k ≤ 11) (ht : textA (k : Int) = true) (hf : fitsA t = true) : rightA ((k : Int), 0, t) = true := by
  unfold rightA
  simp only
  rw [if_neg (by omega), if_neg (by omega), if_pos ht, if_pos trivial]; exact hf
theorem right_n {k n : Nat} (h1 : 1 ≤ k) (h2 : k ≤ 11) (ht : textA (k : Int) = false) (hn : (n : Int) ≤ (if 0 > topA (k : Int) then 0 else topA (k : Int))) : rightA ((k : Int), (n : Int), []) = true := by
  unfold rightA
  simp only
  rw [if_neg (by omega), if_neg (by omega), if_neg (by rw [ht]; decide), if_pos trivial, if_pos (by omega)]
  exact decide_eq_true hn
/-! ## the action of numbers, plainly -/
def finD (k : Nat) (z : Int) : Dw :=
  if textA (k : Int) = true then ((k : Int), 0, acTexts.getD (andN (shrN z 10) 255 % 6) [])
  else if k = 2 then ((k : Int), ((andN (shrN z 10) 3 : Nat) : Int), [])
  else if k = 7 ∨ k = 8 then ((k : Int), ((andN (shrN z 10) 31 : Nat) : Int), []) else ((k : Int), 0, [])
def midK (k : Nat) (z : Int) : Nat := if k = 11 then (if 0 < andN (shrN z 8) 3 then 6 else 11) else k
def begK (i : Nat) (z : Int) : Nat := if i = 0 then 1 + andN z 255 % 3 else 4 + andN z 7
def doF (i : Nat) (z : Int) : Dw := finD (midK (begK i z) z) z
def actG : Nat → List Int → List Dw
  | _, [] => []
  | i, z :: r => doF i z :: actG (i + 1) r
def actF (ns : List Int) : List Dw := if ns.take 6 = [] then [(3, 0, [])] else actG 0 (ns.take 6)
theorem actG_len : ∀ (i : Nat) (l : List Int), (actG i l).length = l.length
  | _, [] => rfl
  | i, z :: r => by simp [actG, actG_len (i + 1) r]
theorem actG_snoc : ∀ (i : Nat) (l : List Int) (z : Int), actG i (l ++ [z]) = actG i l ++ [doF (i + l.length) z]
  | i, [], z => rfl
  | i, y :: l, z => by
    rw [List.cons_append, actG, actG_snoc (i + 1) l z, actG, List.cons_append, List.length_cons, show i + 1 + l.length = i + (l.length + 1) by omega]
theorem actG_all {p : Dw → Prop} (h : ∀ i z, p (doF i z)) : ∀ (i : Nat) (l : List Int), ∀ d ∈ actG i l, p d
  | _, [], d, hd => by cases hd
  | i, z :: r, d, hd => by
    rcases List.mem_cons.1 hd with rfl | hd
    · exact h i z
    · exact actG_all h (i + 1) r d hd
theorem actG_ok : ∀ (i : Nat) (l : List Int), (∀ i z, goodA (decide (i = 0)) (doF i z) = true) → okFrom i (actG i l) = true
  | _, [], _ => rfl
  | i, z :: r, h => by rw [actG, okFrom, h i z, actG_ok (i + 1) r h]; rfl
theorem finD_ok {k : Nat} (z : Int) (hk1 : 1 ≤ k) (hk : k ≤ 11) : okD (finD k z) ∧ rightA (finD k z) = true ∧ (finD k z).1 = (k : Int) := by
  unfold finD
  split
  · rename_i htx
    have hj : andN (shrN z 10) 255 % 6 < acTexts.length := Nat.mod_lt _ (by decide)
    have hpc := acTexts_len _ (List.getElem_mem hj)
    have hpf := acTexts_fit _ (List.getElem_mem hj)
    rw [List.getD_eq_getElem?_getD, List.getElem?_eq_getElem hj, Option.getD_some]
    exact ⟨⟨by simp, by simp only; omega, by simp, by simp, hpc⟩, right_text hk1 hk htx hpf, rfl⟩
  · rename_i htx
    have htx : textA (k : Int) = false := by simpa using htx
    split
    · rename_i hk2
      have hle := andN_le (shrN z 10) 3 (by decide)
      exact ⟨⟨by simp, by simp only; omega, by simp, (by show ((andN (shrN z 10) 3 : Nat) : Int) ≤ 255; omega), by simp⟩, right_n hk1 hk htx (by subst hk2; show ((andN (shrN z 10) 3 : Nat) : Int) ≤ 15; omega), rfl⟩
    · split
      · rename_i h78
        have hle := andN_le (shrN z 10) 31 (by decide)
        exact ⟨⟨by simp, by simp only; omega, by simp, (by show ((andN (shrN z 10) 31 : Nat) : Int) ≤ 255; omega), by simp⟩, right_n hk1 hk htx (by rcases h78 with h | h <;> subst h <;> (show ((andN (shrN z 10) 31 : Nat) : Int) ≤ 999) <;> omega), rfl⟩
      · refine ⟨⟨by simp, by simp only; omega, by simp, by simp, by simp⟩, right_n (n := 0) hk1 hk htx ?_, rfl⟩
        split <;> omega
theorem midK_ok {k : Nat} (z : Int) (hk1 : 1 ≤ k) (hk : k ≤ 11) : 1 ≤ midK k z ∧ midK k z ≤ 11 ∧ beginsA (midK k z : Int) = beginsA (k : Int) := by
  unfold midK
  split
  · rename_i h
    subst h
    split
    · exact ⟨by decide, by decide, rfl⟩
    · exact ⟨by decide, by decide, rfl⟩
  · exact ⟨hk1, hk, rfl⟩
theorem begK_ok (i : Nat) (z : Int) : 1 ≤ begK i z ∧ begK i z ≤ 11 ∧ beginsA (begK i z : Int) = decide (i = 0) := by
  unfold begK
  split
  · rename_i h
    have hr : andN z 255 % 3 < 3 := Nat.mod_lt _ (by decide)
    rw [decide_eq_true h]
    generalize andN z 255 % 3 = r at *
    match r, hr with
    | 0, _ => exact ⟨by decide, by decide, rfl⟩
    | 1, _ => exact ⟨by decide, by decide, rfl⟩
    | 2, _ => exact ⟨by decide, by decide, rfl⟩
  · rename_i h
    have ha := andN_le z 7 (by decide)
    refine ⟨by omega, by omega, ?_⟩
    unfold beginsA
    rw [decide_eq_false (by omega), decide_eq_false (by omega), decide_eq_false (by omega), decide_eq_false h]; rfl
theorem doF_ok (i : Nat) (z : Int) : okD (doF i z) ∧ goodA (decide (i = 0)) (doF i z) = true := by
  obtain ⟨b1, b2, b3⟩ := begK_ok i z
  obtain ⟨m1, m2, m3⟩ := midK_ok z b1 b2
  obtain ⟨f1, f2, f3⟩ := finD_ok z m1 m2
  refine ⟨f1, ?_⟩
  unfold goodA doF
  rw [f2, f3, m3, b3]; simp
theorem actF_ok (ns : List Int) : (actF ns).length ≤ 6 ∧ 1 ≤ (actF ns).length ∧ (∀ d ∈ actF ns, okD d) ∧ okA (actF ns) = true := by
  unfold actF
  split
  · refine ⟨by simp, by simp, ?_, by decide⟩
    intro d hd
    simp at hd; subst hd
    exact ⟨by simp, by simp, by simp, by simp, by simp⟩
  · rename_i h
    have h1 : 1 ≤ (ns.take 6).length := by
      cases hl : ns.take 6 with
      | nil => exact absurd hl h
      | cons _ _ => simp
    have h6 : (ns.take 6).length ≤ 6 := by rw [List.length_take]; omega
    refine ⟨by rw [actG_len]; exact h6, by rw [actG_len]; exact h1, actG_all (fun i z => (doF_ok i z).1) 0 _, ?_⟩
    unfold okA
    rw [actG_ok 0 _ fun i z => (doF_ok i z).2, actG_len, decide_eq_true h1, decide_eq_true (by omega)]; rfl

section
variable {x0 x3 x4 x5 : Value} {b k : Nat} {Q : Value → Store → Prop}
theorem act6 {M : Store} (z : Int) (bb : Bool) (hbb : bb = textA (k : Int)) (o : Ob M b [iv (k : Int), iv 0, sv []] Ty.api_Do) (h4 : LV sv Ty.string M x4 acTexts)
    (h7 : ∀ M', Ch [b] M M' → Ob M' b (dcs (finD k z)) Ty.api_Do → P_fettlelaw6_Act_7 x0 x3 x4 x5 (pt b) M' Q) : P_fettlelaw6_Act_6 x0 x3 x4 x5 (iv z) (pt b) (iv (k : Int)) (.bool bb) M Q := by
  apply T_fettlelaw6_Act_6
  unfold S_fettlelaw6_Act_6
  unfold finD at h7
  simp only [fad0]
  rw [BR_bool]
  subst hbb
  split
  · rename_i htx
    simp only [if_pos htx] at h7
    show OP (binI .shr (.int .i64 z) (.int .u64 ((10 : Nat) : Int))) _
    rw [e_shrN _ 10 (by decide)]
    show OP (binI .and (.int .i64 (shrN z 10)) (.int .i64 ((255 : Nat) : Int))) _
    rw [e_andN (shrN z 10) 255 (by decide), OP_some, h4.len, OP_some]
    have hpl : acTexts.length = 6 := rfl
    rw [e_rem _ _ (by rw [hpl]; decide), OP_some]
    have hj : andN (shrN z 10) 255 % acTexts.length < acTexts.length := Nat.mod_lt _ (by rw [hpl]; decide)
    obtain ⟨p3, g1, g2⟩ := h4.at hj .i64
    rw [g1, OP_some, g2, OP_some]
    have he : acTexts.getD (andN (shrN z 10) 255 % 6) [] = acTexts[andN (shrN z 10) 255 % acTexts.length] := by
      have hj' : andN (shrN z 10) 255 % 6 < acTexts.length := hj
      rw [List.getD_eq_getElem?_getD, List.getElem?_eq_getElem hj', Option.getD_some]; rfl
    rw [he] at h7
    generalize acTexts[andN (shrN z 10) 255 % acTexts.length] = t at *
    refine s_st1 (i := 2) o (by simp) rfl rfl fun M1 c1 o1 n1 => ?_
    exact h7 M1 c1 o1
  · rename_i htx
    simp only [if_neg htx] at h7
    rw [eql_l 2 2 rfl, BR_dec]
    split
    · rename_i hk2
      simp only [if_pos hk2] at h7
      show OP (binI .shr (.int .i64 z) (.int .u64 ((10 : Nat) : Int))) _
      rw [e_shrN _ 10 (by decide)]
      show OP (binI .and (.int .i64 (shrN z 10)) (.int .i64 ((3 : Nat) : Int))) _
      rw [e_andN (shrN z 10) 3 (by decide), OP_some]
      refine s_st1 (i := 1) o (by simp) rfl rfl fun M1 c1 o1 n1 => ?_
      exact h7 M1 c1 o1
    · rename_i hk2
      simp only [if_neg hk2] at h7
      rw [eql_l 7 7 rfl, BR_dec]
      have hlast : ∀ (M : Store), (k = 7 ∨ k = 8) → Ob M b [iv (k : Int), iv 0, sv []] Ty.api_Do → (∀ M', Ch [b] M M' → Ob M' b (dcs (if k = 7 ∨ k = 8 then ((k : Int), ((andN (shrN z 10) 31 : Nat) : Int), []) else ((k : Int), 0, []))) Ty.api_Do → P_fettlelaw6_Act_7 x0 x3 x4 x5 (pt b) M' Q) →
          OP (binI .shr (iv z) (.int .u64 10)) fun t69 => OP (binI .and t69 (.int .i64 31)) fun t70 => OP (st 1 (.pointer (some ⟨b, 1, none⟩)) t70 M) fun M3 => P_fettlelaw6_Act_7 x0 x3 x4 x5 (pt b) M3 Q := fun M h78 o h7 => by
        show OP (binI .shr (.int .i64 z) (.int .u64 ((10 : Nat) : Int))) _
        rw [e_shrN _ 10 (by decide)]
        show OP (binI .and (.int .i64 (shrN z 10)) (.int .i64 ((31 : Nat) : Int))) _
        rw [e_andN (shrN z 10) 31 (by decide), OP_some]
        simp only [if_pos h78] at h7
        refine s_st1 (i := 1) o (by simp) rfl rfl fun M1 c1 o1 n1 => ?_
        exact h7 M1 c1 o1
      split
      · rename_i h
        rw [BR_dec, if_pos h]
        exact hlast M (.inl h) o h7
      · rename_i h7n
        rw [eql_l 8 8 rfl, BR_dec]
        split
        · rename_i h; exact hlast M (.inr h) o h7
        · rename_i h8n
          simp only [if_neg (show ¬ (k = 7 ∨ k = 8) from fun h => h.elim h7n h8n)] at h7
          exact h7 M (Ch.refl _ _) o
theorem act5 {M : Store} (z : Int) (o : Ob M b [iv (k : Int), iv 0, sv []] Ty.api_Do) (h4 : LV sv Ty.string M x4 acTexts)
    (h7 : ∀ M', Ch [b] M M' → Ob M' b (dcs (finD k z)) Ty.api_Do → P_fettlelaw6_Act_7 x0 x3 x4 x5 (pt b) M' Q) : P_fettlelaw6_Act_5 x0 x3 x4 x5 (iv z) (pt b) M Q := by
  apply T_fettlelaw6_Act_5
  unfold S_fettlelaw6_Act_5
  simp only [fad0, o.l3]
  rw [eql_l 1 1 rfl, BR_dec]
  split
  · rename_i h
    exact act6 z _ (by subst h; rfl) o h4 h7
  · rename_i h
    rw [eql_l 10 10 rfl]
    refine act6 z _ ?_ o h4 h7
    unfold textA
    rw [decide_eq_false (show ¬ (k : Int) = 1 by omega), Bool.false_or]
    by_cases h10 : k = 10
    · rw [decide_eq_true h10, decide_eq_true (by omega)]
    · rw [decide_eq_false h10, decide_eq_false (by omega)]
theorem act4 {M : Store} (z : Int) (o : Ob M b [iv (k : Int), iv 0, sv []] Ty.api_Do) (h4 : LV sv Ty.string M x4 acTexts) (h4n : ∀ M', Ch [b] M M' → LV sv Ty.string M' x4 acTexts)
    (h7 : ∀ M', Ch [b] M M' → Ob M' b (dcs (finD (midK k z) z)) Ty.api_Do → P_fettlelaw6_Act_7 x0 x3 x4 x5 (pt b) M' Q) : P_fettlelaw6_Act_4 x0 x3 x4 x5 (iv z) (pt b) M Q := by
  apply T_fettlelaw6_Act_4
  unfold S_fettlelaw6_Act_4
  unfold midK at h7
  simp only [fad0, o.l3]
  rw [eql_l 11 11 rfl, BR_dec]
  split
  · rename_i h11
    simp only [if_pos h11] at h7
    show OP (binI .shr (.int .i64 z) (.int .u64 ((8 : Nat) : Int))) _
    rw [e_shrN _ 8 (by decide)]
    show OP (binI .and (.int .i64 (shrN z 8)) (.int .i64 ((3 : Nat) : Int))) _
    rw [e_andN (shrN z 8) 3 (by decide), OP_some, gtr_l 0 0 rfl, BR_dec]
    split
    · rename_i hp
      simp only [if_pos hp] at h7
      refine s_st1 (i := 0) o (by simp) rfl rfl fun M1 c1 o1 n1 => ?_
      exact act5 (k := 6) z o1 (h4n _ c1) fun M' c ho => h7 M' (c1.trans c) ho
    · rename_i hp
      simp only [if_neg hp] at h7
      subst h11
      exact act5 z o h4 h7
  · rename_i h11
    simp only [if_neg h11] at h7
    exact act5 z o h4 h7
end
theorem Act_loop {M0 : Store} {x0 x4 : Value} {ns : List Int} (h : LV iv Ty.int M0 x0 ns) (h4 : LV sv Ty.string M0 x4 acTexts) {Q : Value → Store → Prop}
    (hQ : ∀ w M, Up M0 M → NDS M0 M w (actF ns) → Q w M) : ∀ (k i : Nat) (x3 : Value) (M : Store), k + i = 6 → i ≤ ns.length → Up M0 M → NDS M0 M x3 (actG 0 (ns.take i)) → P_fettlelaw6_Act_1 x0 x3 x4 (iv (i : Int)) M Q := by
  intro k
  have fin : ∀ (i : Nat) (x3 : Value) (M : Store), ns.take i = ns.take 6 → i ≤ 6 → Up M0 M → NDS M0 M x3 (actG 0 (ns.take i)) → P_fettlelaw6_Act_3 x3 M Q := by
    intro i x3 M hi hi6 hu hN
    rw [hi] at hN
    apply T_fettlelaw6_Act_3
    unfold S_fettlelaw6_Act_3
    unfold actF at hQ
    rw [hN.lv.len, OP_some]
    show OP (binI .eql (iv ((actG 0 (ns.take 6)).length : Int)) _) _
    rw [eql_l 0 0 rfl, BR_dec, actG_len]
    split
    · rename_i h0
      simp only [if_pos (List.length_eq_zero_iff.1 h0)] at hQ
      rw [show bldS #[(.int .i64 0), (.int .i64 0), (.string ⟨#[]⟩)] [(0, 1), (1, 1), (2, 1)] [(0, (.int .i64 3))] = some (dv (3, 0, [])) from bs_do 3, OP_some, bl_do, OP_some]
      refine s_lit (s := 3) (n := 1) rfl fun M1 u1 h1 o1 n1 => ?_
      have hN1 : NDS M0 M1 (.slice (some ⟨M.n, 0, none⟩) 1 1) [(3, 0, [])] := Nw.base h1 hu.n
      exact ⟨nts_of h1.sl, hQ _ _ (hu.trans u1) hN1⟩
    · rename_i h0
      simp only [if_neg (fun e => h0 (by rw [e]; rfl) : ¬ ns.take 6 = [])] at hQ
      exact ⟨nts_of hN.sl, hQ _ _ hu hN⟩
  induction k with
  | zero =>
    intro i x3 M hi hil hu hN
    apply T_fettlelaw6_Act_1
    unfold S_fettlelaw6_Act_1
    obtain rfl : i = 6 := by omega
    rw [(h.up hu).len, OP_some]
    show OP (binI .lss (iv ((6 : Nat) : Int)) (iv (ns.length : Int))) _
    rw [lss_n, BR_dec]
    split
    · rw [lss_l 6 6 rfl, BR_dec, if_neg (by omega)]
      exact fin 6 x3 M rfl (Nat.le_refl _) hu hN
    · exact fin 6 x3 M rfl (Nat.le_refl _) hu hN
  | succ k ih =>
    intro i x3 M hi hil0 hu hN
    apply T_fettlelaw6_Act_1
    unfold S_fettlelaw6_Act_1
    rw [(h.up hu).len, OP_some, lss_n, BR_dec]
    split
    · rename_i hil
      rw [lss_l 6 6 rfl, BR_dec, if_pos (by omega)]
      apply T_fettlelaw6_Act_2
      unfold S_fettlelaw6_Act_2
      obtain ⟨p, e1, e2⟩ := (h.up hu).at hil .i64
      show OP (ixA 1 x0 (.int .i64 (i : Int))) _
      rw [e1, OP_some, e2, OP_some]
      have hsn : ns.take (i + 1) = ns.take i ++ [ns[i]] := List.take_succ_eq_append_getElem hil
      have htl : (ns.take i).length = i := by rw [List.length_take]; omega
      generalize ns[i] = z at *
      show OP (binI .and (.int .i64 z) (.int .i64 ((7 : Nat) : Int))) _
      have ha := andN_le z 7 (by decide)
      rw [e_andN z 7 (by decide), OP_some]
      show OP (binI .add (iv ((4 : Nat) : Int)) (iv (andN z 7 : Int))) _
      rw [add_n _ _ (by omega), bs_do, OP_some]
      refine s_new fun M1 u1 o1 n1 => ?_
      refine s_st (vs := [iv ((4 + andN z 7 : Nat) : Int), iv 0, sv []]) o1 rfl rfl rfl fun M2 c2 o2 n2 => ?_
      have hu2 : Up M M2 := u1.ch c2 (by simp)
      have fin7 : ∀ (k : Nat) (M3 : Store), Up M M3 → Ob M3 M.n [iv (k : Int), iv 0, sv []] Ty.api_Do → k = begK i z → P_fettlelaw6_Act_4 x0 x3 x4 (iv (i : Int)) (iv z) (pt M.n) M3 Q := by
        intro k M3 u3 o3 hk
        refine act4 z o3 (h4.up (hu.trans u3)) (fun M' c => h4.up (hu.trans (u3.ch c (by simp)))) fun M4 c4 o4 => ?_
        have u4 : Up M M4 := u3.ch c4 (by simp)
        rw [hk] at o4
        have o4 : Ob M4 M.n (dcs (doF i z)) Ty.api_Do := o4
        apply T_fettlelaw6_Act_7
        unfold S_fettlelaw6_Act_7
        rw [o4.ldA (s := 3) rfl, OP_some]
        rw [show bldL (.agg #[(.int .i64 0), (.int .i64 0), (.string ⟨#[]⟩)]) 3 1 [(0, .agg (dcs (doF i z)).toArray)] = some (dcs (doF i z)) from bl_do _, OP_some]
        rw [LT_eq]
        refine NK.app1 (M0 := M0) (Mb := M0) dcs_len (hu.trans u4) (Nat.le_refl _) (hu.trans u4).n (Nw.up hN u4) (doF i z) rfl (by rw [actG_len]; omega) fun v' M' hu' hN' hk' _ => ?_
        apply T_fettlelaw6_Act_8
        unfold S_fettlelaw6_Act_8
        rw [add1_n _ (by omega)]
        refine ih (i + 1) v' M' (by omega) hil hu' ?_
        rw [hsn, actG_snoc, htl, Nat.zero_add]
        exact hN'
      rw [eql_l 0 0 rfl, BR_dec]
      split
      · rename_i hi0
        show OP (binI .and (.int .i64 z) (.int .i64 ((255 : Nat) : Int))) _
        rw [e_andN z 255 (by decide), OP_some]
        show OP (binI .rem (.int .i64 (andN z 255 : Int)) (.int .i64 ((3 : Nat) : Int))) _
        rw [e_rem _ _ (by decide), OP_some]
        have hr : andN z 255 % 3 < 3 := Nat.mod_lt _ (by decide)
        show OP (binI .add (iv ((1 : Nat) : Int)) (iv ((andN z 255 % 3 : Nat) : Int))) _
        rw [add_n _ _ (by omega)]
        rw [fad0]
        refine s_st1 (i := 0) o2 (by simp) rfl rfl fun M3 c3 o3 n3 => ?_
        exact fin7 _ M3 (hu2.ch c3 (by simp)) o3 (by unfold begK; rw [if_pos hi0])
      · rename_i hi0
        exact fin7 _ M2 hu2 o2 (by unfold begK; rw [if_neg hi0])
    · rename_i hil
      have : i = ns.length := by omega
      exact fin i x3 M (by rw [List.take_of_length_le (by omega), List.take_of_length_le (by omega)]) (by omega) hu hN
theorem Act_F {M : Store} {x0 : Value} {ns : List Int} (h : LV iv Ty.int M x0 ns) : R F.fettlelaw6_Act #[x0] M fun w M' => Up M M' ∧ NDS M M' w (actF ns) := by
  refine R.cps fun Q hQ => ?_
  apply T_fettlelaw6_Act
  unfold S_fettlelaw6_Act
  rw [show bldL (.string ⟨#[]⟩) 1 6 [(0, (.string ⟨#[]⟩)), (1, (.string ⟨#[97]⟩)), (2, (.string ⟨#[104, 105, 32, 116, 104, 101, 114, 101]⟩)), (3, (.string ⟨#[45]⟩)), (4, (.string ⟨#[120, 121, 122]⟩)), (5, (.string ⟨#[48, 49, 50, 51, 52, 53, 54, 55, 56, 57, 48, 49, 50, 51, 52, 53, 54, 55, 56, 57, 48, 49, 50, 51, 52, 53, 54, 55, 56, 57, 48, 49, 50, 51, 52, 53, 54, 55, 56, 57, 48, 49, 50, 51, 52, 53, 54, 55, 56, 57, 48, 49, 50, 51, 52, 53, 54, 55, 56, 57, 48, 49, 50, 51]⟩))] = some (acTexts.map sv) from by kernel_rfl, OP_some]
  refine s_lit (s := 1) rfl fun M1 u1 h1 o1 n1 => ?_
  exact Act_loop (M0 := M1) (h.up u1) h1.sl (fun w M' hu hN => hQ _ _ ⟨u1.trans hu, Nw.base hN u1.n⟩) 6 0 _ M1 rfl (Nat.zero_le _) (Ch.refl _ _) NK.nil
theorem Act_okA {M : Store} {x0 : Value} {ns : List Int} (h : LV iv Ty.int M x0 ns) : R F.fettlelaw6_Act #[x0] M fun w M' => Up M M' ∧ ∃ l, NDS M M' w l ∧ l.length ≤ 6 ∧ 1 ≤ l.length ∧ (∀ d ∈ l, okD d) ∧ okA l = true :=
  (Act_F h).mono fun w M' ⟨hu, hN⟩ => ⟨hu, actF ns, hN, (actF_ok ns).1, (actF_ok ns).2.1, (actF_ok ns).2.2⟩
theorem Act_ok {M : Store} {x0 : Value} {ns : List Int} (h : LV iv Ty.int M x0 ns) : R F.fettlelaw6_Act #[x0] M fun w M' => Up M M' ∧ ∃ l, NDS M M' w l ∧ l.length ≤ 6 ∧ 1 ≤ l.length ∧ ∀ d ∈ l, okD d :=
  (Act_okA h).mono fun w M' ⟨hu, l, hN, h6, h1, hd, _⟩ => ⟨hu, l, hN, h6, h1, hd⟩
end Go.G
