/- Layer 6: the statements' actions of numbers; whether two are the same. -/
import Derived.Test.YtpacolplhcfamaaPA6
namespace Go.G
open Go.Ab Go.Proofs Go.RowKit
set_option linter.unusedVariables false
set_option linter.unusedSimpArgs false
set_option maxRecDepth 100000

/-- What the statements' actions of numbers keep to. -/
def okD (d : Dw) : Prop := 0 ≤ d.1 ∧ d.1 ≤ 11 ∧ 0 ≤ d.2.1 ∧ d.2.1 ≤ 255 ∧ d.2.2.length ≤ 64
def acTexts : List (List UInt8) := [[], [97], [104, 105, 32, 116, 104, 101, 114, 101], [45], [120, 121, 122], [48, 49, 50, 51, 52, 53, 54, 55, 56, 57, 48, 49, 50, 51, 52, 53, 54, 55, 56, 57, 48, 49, 50, 51, 52, 53, 54, 55, 56, 57, 48, 49, 50, 51, 52, 53, 54, 55, 56, 57, 48, 49, 50, 51, 52, 53, 54, 55, 56, 57, 48, 49, 50, 51, 52, 53, 54, 55, 56, 57, 48, 49, 50, 51]]
theorem acTexts_len : ∀ t ∈ acTexts, t.length ≤ 64 := by decide
abbrev pt (b : Nat) : Value := .pointer (some ⟨b, 0, none⟩)
theorem bl_do (d : Dw) : bldL (.agg #[(.int .i64 0), (.int .i64 0), (.string ⟨#[]⟩)]) 3 1 [(0, dv d)] = some (dcs d) := by obtain ⟨a, b, c⟩ := d; kernel_rfl
theorem bs_do (k : Int) : bldS #[(.int .i64 0), (.int .i64 0), (.string ⟨#[]⟩)] [(0, 1), (1, 1), (2, 1)] [(0, iv k)] = some (.agg [iv k, iv 0, sv []].toArray) := by kernel_rfl

theorem acTexts_fit : ∀ t ∈ acTexts, fitsA t = true := List.all_eq_true.1 (by kernel_rfl)
theorem right_text {k : Nat} {t : List UInt8} (h1 : 1 ≤ k) (h2 : k ≤ 11) (ht : textA (k : Int) = true) (hf : fitsA t = true) : rightA ((k : Int), 0, t) = true := by
  unfold rightA
  simp only
  rw [if_neg (by omega), if_neg (by omega), if_pos ht, if_pos trivial]; exact hf
theorem right_n {k n : Nat} (h1 : 1 ≤ k) (h2 : k ≤ 11) (ht : textA (k : Int) = false) (hn : (n : Int) ≤ (if 0 > topA (k : Int) then 0 else topA (k : Int))) : rightA ((k : Int), (n : Int), []) = true := by
  unfold rightA
  simp only
  rw [if_neg (by omega), if_neg (by omega), if_neg (by rw [ht]; decide), if_pos trivial, if_pos (by omega)]
  exact decide_eq_true hn
theorem okFrom_of : ∀ (l : List Dw) (i : Nat), (∀ j (h : j < l.length), goodA (decide (i + j = 0)) l[j] = true) → okFrom i l = true
  | [], _, _ => rfl
  | d :: r, i, h => by
    rw [okFrom, Bool.and_eq_true]
    refine ⟨h 0 (by simp), okFrom_of r (i + 1) fun j hj => ?_⟩
    have := h (j + 1) (by simpa using hj)
    rw [List.getElem_cons_succ] at this
    rw [show i + 1 + j = i + (j + 1) by omega]; exact this
theorem okA_of {l : List Dw} (h : ∀ j (h : j < l.length), goodA (decide (j = 0)) l[j] = true) (h1 : 1 ≤ l.length) (h8 : l.length ≤ 8) : okA l = true := by
  unfold okA
  rw [okFrom_of l 0 fun j hj => by rw [Nat.zero_add]; exact h j hj, decide_eq_true h1, decide_eq_true h8]; rfl

section
variable {x0 x3 x4 x5 : Value} {b k : Nat} {Q : Value → Store → Prop}
theorem act6 {M : Store} (z : Int) (bb : Bool) (hbb : bb = textA (k : Int)) (o : Ob M b [iv (k : Int), iv 0, sv []] Ty.api_Do) (h4 : LV sv Ty.string M x4 acTexts) (hk1 : 1 ≤ k) (hk : k ≤ 11)
    (h7 : ∀ M' d, Ch [b] M M' → Ob M' b (dcs d) Ty.api_Do → okD d → rightA d = true → d.1 = (k : Int) → P_fettlelaw6_Act_7 x0 x3 x4 x5 (pt b) M' Q) : P_fettlelaw6_Act_6 x0 x3 x4 x5 (iv z) (pt b) (iv (k : Int)) (.bool bb) M Q := by
  apply T_fettlelaw6_Act_6
  unfold S_fettlelaw6_Act_6
  simp only [fad0]
  rw [BR_bool]
  subst hbb
  split
  · rename_i htx
    show OP (binI .shr (.int .i64 z) (.int .u64 ((10 : Nat) : Int))) _
    rw [e_shrN _ 10 (by decide)]
    show OP (binI .and (.int .i64 (shrN z 10)) (.int .i64 ((255 : Nat) : Int))) _
    rw [e_andN (shrN z 10) 255 (by decide), OP_some, h4.len, OP_some]
    have hpl : acTexts.length = 6 := rfl
    rw [e_rem _ _ (by rw [hpl]; decide), OP_some]
    have hj : andN (shrN z 10) 255 % acTexts.length < acTexts.length := Nat.mod_lt _ (by rw [hpl]; decide)
    obtain ⟨p3, g1, g2⟩ := h4.at hj .i64
    rw [g1, OP_some, g2, OP_some]
    have hpc := acTexts_len _ (List.getElem_mem hj)
    have hpf := acTexts_fit _ (List.getElem_mem hj)
    generalize acTexts[andN (shrN z 10) 255 % acTexts.length] = t at *
    refine s_st1 (i := 2) o (by simp) rfl rfl fun M1 c1 o1 n1 => ?_
    exact h7 M1 ((k : Int), 0, t) c1 o1 ⟨by simp, by simp only; omega, by simp, by simp, hpc⟩ (right_text hk1 hk htx hpf) rfl
  · rename_i htx
    have htx : textA (k : Int) = false := by simpa using htx
    rw [eql_l 2 2 rfl, BR_dec]
    split
    · rename_i hk2
      show OP (binI .shr (.int .i64 z) (.int .u64 ((10 : Nat) : Int))) _
      rw [e_shrN _ 10 (by decide)]
      show OP (binI .and (.int .i64 (shrN z 10)) (.int .i64 ((3 : Nat) : Int))) _
      have hle := andN_le (shrN z 10) 3 (by decide)
      rw [e_andN (shrN z 10) 3 (by decide), OP_some]
      refine s_st1 (i := 1) o (by simp) rfl rfl fun M1 c1 o1 n1 => ?_
      exact h7 M1 ((k : Int), ((andN (shrN z 10) 3 : Nat) : Int), []) c1 o1 ⟨by simp, by simp only; omega, by simp, (by show ((andN (shrN z 10) 3 : Nat) : Int) ≤ 255; omega), by simp⟩ (right_n hk1 hk htx (by subst hk2; show ((andN (shrN z 10) 3 : Nat) : Int) ≤ 15; omega)) rfl
    · rw [eql_l 7 7 rfl, BR_dec]
      have hlast : ∀ (M : Store), (k = 7 ∨ k = 8) → Ob M b [iv (k : Int), iv 0, sv []] Ty.api_Do → (∀ M' d, Ch [b] M M' → Ob M' b (dcs d) Ty.api_Do → okD d → rightA d = true → d.1 = (k : Int) → P_fettlelaw6_Act_7 x0 x3 x4 x5 (pt b) M' Q) →
          OP (binI .shr (iv z) (.int .u64 10)) fun t69 => OP (binI .and t69 (.int .i64 31)) fun t70 => OP (st 1 (.pointer (some ⟨b, 1, none⟩)) t70 M) fun M3 => P_fettlelaw6_Act_7 x0 x3 x4 x5 (pt b) M3 Q := fun M h78 o h7 => by
        show OP (binI .shr (.int .i64 z) (.int .u64 ((10 : Nat) : Int))) _
        rw [e_shrN _ 10 (by decide)]
        show OP (binI .and (.int .i64 (shrN z 10)) (.int .i64 ((31 : Nat) : Int))) _
        have hle := andN_le (shrN z 10) 31 (by decide)
        rw [e_andN (shrN z 10) 31 (by decide), OP_some]
        refine s_st1 (i := 1) o (by simp) rfl rfl fun M1 c1 o1 n1 => ?_
        exact h7 M1 ((k : Int), ((andN (shrN z 10) 31 : Nat) : Int), []) c1 o1 ⟨by simp, by simp only; omega, by simp, (by show ((andN (shrN z 10) 31 : Nat) : Int) ≤ 255; omega), by simp⟩ (right_n hk1 hk htx (by rcases h78 with h | h <;> subst h <;> (show ((andN (shrN z 10) 31 : Nat) : Int) ≤ 999) <;> omega)) rfl
      split
      · rename_i h
        rw [BR_dec, if_pos h]
        exact hlast M (.inl h) o h7
      · rw [eql_l 8 8 rfl, BR_dec]
        split
        · rename_i h; exact hlast M (.inr h) o h7
        · refine h7 M ((k : Int), 0, []) (Ch.refl _ _) o ⟨by simp, by simp only; omega, by simp, by simp, by simp⟩ (right_n (n := 0) hk1 hk htx ?_) rfl
          split <;> omega
theorem act5 {M : Store} (z : Int) (o : Ob M b [iv (k : Int), iv 0, sv []] Ty.api_Do) (h4 : LV sv Ty.string M x4 acTexts) (hk1 : 1 ≤ k) (hk : k ≤ 11)
    (h7 : ∀ M' d, Ch [b] M M' → Ob M' b (dcs d) Ty.api_Do → okD d → rightA d = true → d.1 = (k : Int) → P_fettlelaw6_Act_7 x0 x3 x4 x5 (pt b) M' Q) : P_fettlelaw6_Act_5 x0 x3 x4 x5 (iv z) (pt b) M Q := by
  apply T_fettlelaw6_Act_5
  unfold S_fettlelaw6_Act_5
  simp only [fad0, o.l3]
  rw [eql_l 1 1 rfl, BR_dec]
  split
  · rename_i h
    exact act6 z _ (by subst h; rfl) o h4 hk1 hk h7
  · rename_i h
    rw [eql_l 10 10 rfl]
    refine act6 z _ ?_ o h4 hk1 hk h7
    unfold textA
    rw [decide_eq_false (show ¬ (k : Int) = 1 by omega), Bool.false_or]
    by_cases h10 : k = 10
    · rw [decide_eq_true h10, decide_eq_true (by omega)]
    · rw [decide_eq_false h10, decide_eq_false (by omega)]
theorem act4 {M : Store} (z : Int) (o : Ob M b [iv (k : Int), iv 0, sv []] Ty.api_Do) (h4 : LV sv Ty.string M x4 acTexts) (h4n : ∀ M', Ch [b] M M' → LV sv Ty.string M' x4 acTexts) (hk1 : 1 ≤ k) (hk : k ≤ 11)
    (h7 : ∀ M' d, Ch [b] M M' → Ob M' b (dcs d) Ty.api_Do → okD d → rightA d = true → beginsA d.1 = beginsA (k : Int) → P_fettlelaw6_Act_7 x0 x3 x4 x5 (pt b) M' Q) : P_fettlelaw6_Act_4 x0 x3 x4 x5 (iv z) (pt b) M Q := by
  apply T_fettlelaw6_Act_4
  unfold S_fettlelaw6_Act_4
  simp only [fad0, o.l3]
  rw [eql_l 11 11 rfl, BR_dec]
  split
  · rename_i h11
    show OP (binI .shr (.int .i64 z) (.int .u64 ((8 : Nat) : Int))) _
    rw [e_shrN _ 8 (by decide)]
    show OP (binI .and (.int .i64 (shrN z 8)) (.int .i64 ((3 : Nat) : Int))) _
    rw [e_andN (shrN z 8) 3 (by decide), OP_some, gtr_l 0 0 rfl, BR_dec]
    split
    · refine s_st1 (i := 0) o (by simp) rfl rfl fun M1 c1 o1 n1 => ?_
      exact act5 (k := 6) z o1 (h4n _ c1) (by omega) (by omega) fun M' d c ho hd hr he => h7 M' d (c1.trans c) ho hd hr (by rw [he, h11]; rfl)
    · exact act5 z o h4 hk1 hk fun M' d c ho hd hr he => h7 M' d c ho hd hr (by rw [he])
  · exact act5 z o h4 hk1 hk fun M' d c ho hd hr he => h7 M' d c ho hd hr (by rw [he])
end
theorem Act_loop {M0 : Store} {x0 x4 : Value} {ns : List Int} (h : LV iv Ty.int M0 x0 ns) (h4 : LV sv Ty.string M0 x4 acTexts) {Q : Value → Store → Prop}
    (hQ : ∀ w M l, Up M0 M → NDS M0 M w l → l.length ≤ 6 → 1 ≤ l.length → (∀ d ∈ l, okD d) → okA l = true → Q w M) : ∀ (k i : Nat) (l : List Dw) (x3 : Value) (M : Store), k + i = 6 → Up M0 M → NDS M0 M x3 l → l.length = i → (∀ d ∈ l, okD d) → (∀ j (h : j < l.length), goodA (decide (j = 0)) l[j] = true) → P_fettlelaw6_Act_1 x0 x3 x4 (iv (i : Int)) M Q := by
  intro k
  have fin : ∀ (l : List Dw) (x3 : Value) (M : Store), Up M0 M → NDS M0 M x3 l → l.length ≤ 6 → (∀ d ∈ l, okD d) → (∀ j (h : j < l.length), goodA (decide (j = 0)) l[j] = true) → P_fettlelaw6_Act_3 x3 M Q := by
    intro l x3 M hu hN hl hd hg
    apply T_fettlelaw6_Act_3
    unfold S_fettlelaw6_Act_3
    rw [hN.lv.len, OP_some]
    show OP (binI .eql (iv (l.length : Int)) _) _
    rw [eql_l 0 0 rfl, BR_dec]
    split
    · rw [show bldS #[(.int .i64 0), (.int .i64 0), (.string ⟨#[]⟩)] [(0, 1), (1, 1), (2, 1)] [(0, (.int .i64 3))] = some (dv (3, 0, [])) from bs_do 3, OP_some, bl_do, OP_some]
      refine s_lit (s := 3) (n := 1) rfl fun M1 u1 h1 o1 n1 => ?_
      have hN1 : NDS M0 M1 (.slice (some ⟨M.n, 0, none⟩) 1 1) [(3, 0, [])] := Nw.base h1 hu.n
      exact ⟨nts_of h1.sl, hQ _ _ _ (hu.trans u1) hN1 (by simp) (by simp) (by intro d hd; simp at hd; subst hd; exact ⟨by simp, by simp, by simp, by simp, by simp⟩) (by decide)⟩
    · exact ⟨nts_of hN.sl, hQ _ _ _ hu hN hl (by omega) hd (okA_of hg (by omega) (by omega))⟩
  induction k with
  | zero =>
    intro i l x3 M hi hu hN hl hd hg
    apply T_fettlelaw6_Act_1
    unfold S_fettlelaw6_Act_1
    rw [(h.up hu).len, OP_some, lss_n, BR_dec]
    split
    · rw [lss_l 6 6 rfl, BR_dec, if_neg (by omega)]
      exact fin l x3 M hu hN (by omega) hd hg
    · exact fin l x3 M hu hN (by omega) hd hg
  | succ k ih =>
    intro i l x3 M hi hu hN hl hd hg
    apply T_fettlelaw6_Act_1
    unfold S_fettlelaw6_Act_1
    rw [(h.up hu).len, OP_some, lss_n, BR_dec]
    split
    · rename_i hil
      rw [lss_l 6 6 rfl, BR_dec, if_pos (by omega)]
      apply T_fettlelaw6_Act_2
      unfold S_fettlelaw6_Act_2
      obtain ⟨p, e1, e2⟩ := (h.up hu).at hil .i64
      show OP (ixA 1 x0 (.int .i64 (i : Int))) _
      rw [e1, OP_some, e2, OP_some]
      generalize ns[i] = z at *
      show OP (binI .and (.int .i64 z) (.int .i64 ((7 : Nat) : Int))) _
      have ha := andN_le z 7 (by decide)
      rw [e_andN z 7 (by decide), OP_some]
      show OP (binI .add (iv ((4 : Nat) : Int)) (iv (andN z 7 : Int))) _
      rw [add_n _ _ (by omega), bs_do, OP_some]
      refine s_new fun M1 u1 o1 n1 => ?_
      refine s_st (vs := [iv ((4 + andN z 7 : Nat) : Int), iv 0, sv []]) o1 rfl rfl rfl fun M2 c2 o2 n2 => ?_
      have hu2 : Up M M2 := u1.ch c2 (by simp)
      have fin7 : ∀ (k : Nat) (M3 : Store), Up M M3 → Ob M3 M.n [iv (k : Int), iv 0, sv []] Ty.api_Do → 1 ≤ k → k ≤ 11 → beginsA (k : Int) = decide (i = 0) → P_fettlelaw6_Act_4 x0 x3 x4 (iv (i : Int)) (iv z) (pt M.n) M3 Q := by
        intro k M3 u3 o3 hk1 hk hbg
        refine act4 z o3 (h4.up (hu.trans u3)) (fun M' c => h4.up (hu.trans (u3.ch c (by simp)))) hk1 hk fun M4 d c4 o4 hd4 hr4 hb4 => ?_
        have u4 : Up M M4 := u3.ch c4 (by simp)
        apply T_fettlelaw6_Act_7
        unfold S_fettlelaw6_Act_7
        rw [o4.ldA (s := 3) rfl, OP_some]
        rw [show bldL (.agg #[(.int .i64 0), (.int .i64 0), (.string ⟨#[]⟩)]) 3 1 [(0, .agg (dcs d).toArray)] = some (dcs d) from bl_do d, OP_some]
        rw [LT_eq]
        refine NK.app1 (M0 := M0) (Mb := M0) dcs_len (hu.trans u4) (Nat.le_refl _) (hu.trans u4).n (Nw.up hN u4) d rfl (by omega) fun v' M' hu' hN' hk' _ => ?_
        apply T_fettlelaw6_Act_8
        unfold S_fettlelaw6_Act_8
        rw [add1_n _ (by omega)]
        refine ih (i + 1) (l ++ [d]) v' M' (by omega) hu' hN' (by simp [hl]) (fun x hx => ?_) fun j hj => ?_
        · rcases List.mem_append.1 hx with hx | hx
          · exact hd x hx
          · simp at hx; subst hx; exact hd4
        · by_cases hjl : j < l.length
          · rw [List.getElem_append_left hjl]; exact hg j hjl
          · have hje : j = l.length := by simp at hj; omega
            subst hje
            rw [List.getElem_append_right (Nat.le_refl _)]
            simp only [Nat.sub_self, List.getElem_cons_zero]
            unfold goodA
            rw [hr4, hb4, hbg, hl]; simp
      rw [eql_l 0 0 rfl, BR_dec]
      split
      · rename_i hi0
        show OP (binI .and (.int .i64 z) (.int .i64 ((255 : Nat) : Int))) _
        rw [e_andN z 255 (by decide), OP_some]
        show OP (binI .rem (.int .i64 (andN z 255 : Int)) (.int .i64 ((3 : Nat) : Int))) _
        rw [e_rem _ _ (by decide), OP_some]
        have hr : andN z 255 % 3 < 3 := Nat.mod_lt _ (by decide)
        show OP (binI .add (iv ((1 : Nat) : Int)) (iv ((andN z 255 % 3 : Nat) : Int))) _
        rw [add_n _ _ (by omega)]
        rw [fad0]
        refine s_st1 (i := 0) o2 (by simp) rfl rfl fun M3 c3 o3 n3 => ?_
        refine fin7 _ M3 (hu2.ch c3 (by simp)) o3 (by omega) (by omega) ?_
        rw [hi0]
        generalize andN z 255 % 3 = r at *
        match r, hr with
        | 0, _ => rfl
        | 1, _ => rfl
        | 2, _ => rfl
      · rename_i hi0
        refine fin7 _ M2 hu2 o2 (by omega) (by omega) ?_
        unfold beginsA
        rw [decide_eq_false (by omega), decide_eq_false (by omega), decide_eq_false (by omega), decide_eq_false hi0]; rfl
    · exact fin l x3 M hu hN (by omega) hd hg
theorem Act_okA {M : Store} {x0 : Value} {ns : List Int} (h : LV iv Ty.int M x0 ns) : R F.fettlelaw6_Act #[x0] M fun w M' => Up M M' ∧ ∃ l, NDS M M' w l ∧ l.length ≤ 6 ∧ 1 ≤ l.length ∧ (∀ d ∈ l, okD d) ∧ okA l = true := by
  refine R.cps fun Q hQ => ?_
  apply T_fettlelaw6_Act
  unfold S_fettlelaw6_Act
  rw [show bldL (.string ⟨#[]⟩) 1 6 [(0, (.string ⟨#[]⟩)), (1, (.string ⟨#[97]⟩)), (2, (.string ⟨#[104, 105, 32, 116, 104, 101, 114, 101]⟩)), (3, (.string ⟨#[45]⟩)), (4, (.string ⟨#[120, 121, 122]⟩)), (5, (.string ⟨#[48, 49, 50, 51, 52, 53, 54, 55, 56, 57, 48, 49, 50, 51, 52, 53, 54, 55, 56, 57, 48, 49, 50, 51, 52, 53, 54, 55, 56, 57, 48, 49, 50, 51, 52, 53, 54, 55, 56, 57, 48, 49, 50, 51, 52, 53, 54, 55, 56, 57, 48, 49, 50, 51, 52, 53, 54, 55, 56, 57, 48, 49, 50, 51]⟩))] = some (acTexts.map sv) from by kernel_rfl, OP_some]
  refine s_lit (s := 1) rfl fun M1 u1 h1 o1 n1 => ?_
  exact Act_loop (M0 := M1) (h.up u1) h1.sl (fun w M' l hu hN h6 h1 hd ho => hQ _ _ ⟨u1.trans hu, l, Nw.base hN u1.n, h6, h1, hd, ho⟩) 6 0 [] _ M1 rfl (Ch.refl _ _) (NK.nil) rfl (by simp) (by simp)
theorem Act_ok {M : Store} {x0 : Value} {ns : List Int} (h : LV iv Ty.int M x0 ns) : R F.fettlelaw6_Act #[x0] M fun w M' => Up M M' ∧ ∃ l, NDS M M' w l ∧ l.length ≤ 6 ∧ 1 ≤ l.length ∧ ∀ d ∈ l, okD d :=
  (Act_okA h).mono fun w M' ⟨hu, l, hN, h6, h1, hd, _⟩ => ⟨hu, l, hN, h6, h1, hd⟩
end Go.G
