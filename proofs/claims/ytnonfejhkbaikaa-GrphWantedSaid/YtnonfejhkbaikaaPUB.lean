/- ... -/
import Derived.Test.YtnonfejhkbaikaaPR9
import Derived.Test.YtnonfejhkbaikaaPA6a
namespace Go.G
open Go.Ab Go.Proofs Go.RowKit
set_option linter.unusedVariables false
set_option linter.unusedSimpArgs false
set_option maxRecDepth 100000
theorem oneB_cons (w : Ww) (r : List Ww) (hq : ¬ w.2.2.2 = true) : oneB (w :: r) = (match kindB w.1 1 (wordsA.drop 1) with
    | none => none
    | some k => restB k r) := by
  rw [oneB, if_neg hq]; rfl
section
variable {M0 : Store} {v x4 : Value} {w : Ww} {r : List Ww} {b : Nat} {Q : Value → Store → Prop}
theorem kind_loop (h : WW M0 v (w :: r)) (hw : ∀ x ∈ w :: r, x.1.length ≤ 2 ^ 40) (hb : M0.n ≤ b) (hq : ¬ w.2.2.2 = true) (hQ : ∀ q M, Up M0 M → OneR q (oneB (w :: r)) → Q q M) {M : Store} (hu : Up M0 M) (oA : Ob M b [iv 0, iv 0, sv []] Ty.api_Do) (hL : LV sv Ty.string M x4 wordsA) :
    ∀ (k i : Nat), k + i = 12 → kindB w.1 1 (wordsA.drop 1) = kindB w.1 i (wordsA.drop i) → P_r4_one_1 v (pt b) x4 (iv (i : Int)) M Q := by
  have hlen : wordsA.length = 12 := rfl
  have hone := oneB_cons w r hq
  intro k
  induction k with
  | zero =>
    intro i hi he
    apply T_r4_one_1
    unfold S_r4_one_1
    rw [hL.len, OP_some, hlen]
    show OP (binI .lss (iv (i : Int)) (iv ((12 : Nat) : Int))) _
    rw [lss_n, BR_dec, if_neg (by omega)]
    apply T_r4_one_3
    unfold S_r4_one_3
    have e0 : wordsA.drop i = [] := List.drop_of_length_le (by omega)
    rw [e0] at he
    have he : kindB w.1 1 (wordsA.drop 1) = none := he
    rw [he] at hone
    rw [bs_do0, OP_some]
    refine s_st (vs := [iv 0, iv 0, sv []]) oA rfl rfl rfl fun M2 c2 o2 n2 => ?_
    rw [o2.ldA (s := 3) rfl, OP_some]
    exact ⟨rfl, hQ _ _ (hu.ch c2 (by simpa using hb)) (by rw [hone]; exact ⟨(0, 0, []), rfl⟩)⟩
  | succ k ih =>
    intro i hi he
    apply T_r4_one_1
    unfold S_r4_one_1
    rw [hL.len, OP_some, hlen]
    show OP (binI .lss (iv (i : Int)) (iv ((12 : Nat) : Int))) _
    rw [lss_n, BR_dec, if_pos (by omega)]
    apply T_r4_one_2
    unfold S_r4_one_2
    have hil : i < wordsA.length := by omega
    obtain ⟨p, e1, e2⟩ := hL.at hil .i64
    show OP (ixA 1 x4 (.int .i64 (i : Int))) _
    rw [e1, OP_some, e2, OP_some]
    show OP (ixA 4 v (iv ((0 : Nat) : Int))) _
    rw [ww_fld (Sl.up h hu) (by simp) (f := 0) (w := sv w.1) rfl]
    rw [sv_ne, BR_dec]
    rw [List.drop_eq_getElem_cons hil, kindB] at he
    split
    · rename_i hne
      rw [if_neg hne] at he
      rw [add1_n _ (by omega)]
      exact ih (i + 1) (by omega) he
    · rename_i hne
      rw [if_pos (Decidable.not_not.1 hne)] at he
      rw [he] at hone
      exact rest_ok h hw hb (by omega) (fun q M' hu' hr => hQ q M' hu' (by rw [hone]; exact hr)) hu oA
end
theorem rone_ok {M : Store} {v : Value} {ws : List Ww} (h : WW M v ws) (hw : ∀ w ∈ ws, w.1.length ≤ 2 ^ 40) (hwl : ws.length ≤ 2 ^ 40) : R F.r4_one #[v] M fun r M' => Up M M' ∧ OneR r (oneB ws) := by
  refine R.cps fun Q hQ => ?_
  apply T_r4_one
  unfold S_r4_one
  refine s_new fun M1 u1 oA n1 => ?_
  have oA : Ob M1 M.n [iv 0, iv 0, sv []] Ty.api_Do := oA
  have bad : oneB ws = none →
      OP (bldS #[(.int .i64 0), (.int .i64 0), (.string ⟨#[]⟩)] [(0, 1), (1, 1), (2, 1)] []) fun t14 => OP (st 3 (.pointer (some ⟨M.n, 0, none⟩)) t14 M1) fun M2 => OP (ld 3 true (.pointer (some ⟨M.n, 0, none⟩)) M2) fun r2 => NTs [r2, (.bool false)] ∧ Q (.tuple #[r2, (.bool false)]) M2 := by
    intro he
    rw [bs_do0, OP_some]
    refine s_st (vs := [iv 0, iv 0, sv []]) oA rfl rfl rfl fun M2 c2 o2 n2 => ?_
    rw [o2.ldA (s := 3) rfl, OP_some]
    exact ⟨rfl, hQ _ _ ⟨u1.ch c2 (by simp), by rw [he]; exact ⟨(0, 0, []), rfl⟩⟩⟩
  rw [h.len, OP_some]
  show OP (binI .eql (iv (ws.length : Int)) _) _
  rw [eql_l 0 0 rfl, BR_dec]
  split
  · rename_i h0
    have : ws = [] := List.length_eq_zero_iff.1 h0
    exact bad (by rw [this]; rfl)
  rename_i h0
  have hlen : 0 < ws.length := by omega
  obtain ⟨w, r, rfl⟩ : ∃ w r, ws = w :: r := by
    cases ws with
    | nil => simp at hlen
    | cons w r => exact ⟨w, r, rfl⟩
  show OP (ixA 4 v (iv ((0 : Nat) : Int))) _
  rw [ww_fld (h.up u1) hlen (f := 3) (w := tv w.2.2.2) rfl]
  show BR (.bool w.2.2.2) _ _
  rw [BR_bool]
  split
  · rename_i hq
    exact bad (by rw [oneB, if_pos hq])
  · rename_i hq
    refine rwords_ok fun t M4 u4 hL => ?_
    exact kind_loop (M0 := M) h hw (Nat.le_refl _) hq (fun q M' hu hr => hQ q M' ⟨hu, hr⟩) (u1.trans u4) (oA.up u4) hL 11 1 rfl rfl
theorem is_ok {M : Store} {w : Ww} {t : List UInt8} {Q : Value → Store → Prop} (hQ : ∀ M', Up M M' → Q (tv (decide (w.1 = t) && !w.2.2.2)) M') : R F.r4_is #[.agg (wws w).toArray, sv t] M Q := by
  apply T_r4_is
  unfold S_r4_is
  rw [wv_box, OP_some]
  refine s_new fun M1 u1 o1 n1 => ?_
  have o1 : Ob M1 M.n [sv w.1, iv w.2.1, iv w.2.2.1, tv w.2.2.2] Ty.api_Word := o1
  simp only [fad0, o1.l4]
  have hQ := hQ M1 u1
  show OP (binS .eql (sv w.1) (sv t)) _
  rw [sv_eq, BR_dec]
  split
  · rename_i h
    rw [decide_eq_true h, Bool.true_and] at hQ
    rw [e_not]
    exact ⟨rfl, hQ⟩
  · rename_i h
    rw [decide_eq_false h, Bool.false_and] at hQ
    exact ⟨rfl, hQ⟩
end Go.G

namespace Go.G
open Go.Ab Go.Proofs Go.RowKit
set_option linter.unusedVariables false
set_option linter.unusedSimpArgs false
set_option maxRecDepth 100000
def topR (k : Int) : Int := if k = 7 ∨ k = 8 then 999 else if k = 2 then 15 else 0
theorem textA_iff (k : Int) : textA k = true ↔ k = 1 ∨ k = 10 := by unfold textA; simp
theorem top_iff (k : Int) : (if 0 > topA k then 0 else topA k) = topR k := by
  unfold topA topR
  by_cases h2 : k = 2
  · subst h2; decide
  · by_cases h7 : k = 7
    · subst h7; decide
    · by_cases h8 : k = 8
      · subst h8; decide
      · simp [h2, h7, h8]
theorem good_iff (first : Bool) (k n : Int) (s : List UInt8) : goodA first (k, n, s) = true ↔ (1 ≤ k ∧ k ≤ 11) ∧ beginsA k = first ∧ (0 ≤ n ∧ n ≤ topR k) ∧ fitsA s = true ∧ (textA k = true ∨ s = []) := by
  unfold goodA rightA
  simp only
  rw [Bool.and_eq_true, beq_iff_eq, top_iff]
  by_cases h1 : k < 1
  · rw [if_pos h1]
    constructor
    · intro h; cases h.1
    · intro h; omega
  · rw [if_neg h1]
    by_cases h2 : 11 < k
    · rw [if_pos h2]
      constructor
      · intro h; cases h.1
      · intro h; omega
    · rw [if_neg h2]
      by_cases ht : textA k = true
      · rw [if_pos ht]
        have h0 : topR k = 0 := by
          rcases (textA_iff k).1 ht with rfl | rfl <;> rfl
        by_cases hn : n = 0
        · rw [if_pos hn]
          exact ⟨fun h => ⟨by omega, h.2, by omega, h.1, .inl ht⟩, fun h => ⟨h.2.2.2.1, h.2.1⟩⟩
        · rw [if_neg hn]
          exact ⟨fun h => (by cases h.1), fun h => (by omega)⟩
      · rw [if_neg ht]
        by_cases hs : s = []
        · rw [if_pos hs]
          by_cases hn : 0 ≤ n
          · rw [if_pos hn]
            exact ⟨fun h => ⟨by omega, h.2, ⟨hn, of_decide_eq_true h.1⟩, by rw [hs]; rfl, .inr hs⟩, fun h => ⟨decide_eq_true h.2.2.1.2, h.2.1⟩⟩
          · rw [if_neg hn]
            exact ⟨fun h => (by cases h.1), fun h => (by omega)⟩
        · rw [if_neg hs]
          exact ⟨fun h => (by cases h.1), fun h => absurd h.2.2.2.2 (fun e => e.elim ht hs)⟩
section
variable {x0 : Value} {b i : Nat} {k n : Int} {s : List UInt8} {Q : Value → Store → Prop}
theorem okact5 {M : Store} (o : Ob M b [iv k, iv n, sv s] Ty.api_Do) (hs : s.length ≤ 2 ^ 40) (hno : goodA (decide (i = 0)) (k, n, s) = false → ∀ M', Up M M' → Q (tv false) M') (hyes : goodA (decide (i = 0)) (k, n, s) = true → ∀ M', Up M M' → P_r4_OkAct_6 x0 (iv (i : Int)) M' Q) :
    P_r4_OkAct_5 x0 (iv (i : Int)) (pt b) (tv (beginsA k)) (tv (textA k)) (iv (topR k)) M Q := by
  have hg := good_iff (decide (i = 0)) k n s
  have no : ∀ M', Up M M' → ¬ ((1 ≤ k ∧ k ≤ 11) ∧ beginsA k = decide (i = 0) ∧ (0 ≤ n ∧ n ≤ topR k) ∧ fitsA s = true ∧ (textA k = true ∨ s = [])) → NTs [(.bool false)] ∧ Q (.bool false) M' := fun M' hu hc => ⟨rfl, hno (by
    cases hgg : goodA (decide (i = 0)) (k, n, s) with
    | false => rfl
    | true => exact absurd (hg.1 hgg) hc) M' hu⟩
  have u0 : Up M M := Ch.refl _ _
  apply T_r4_OkAct_5
  unfold S_r4_OkAct_5
  simp only [fad0, o.l3]
  show OP (binI .lss (.int .i64 k) (.int .i64 1)) _
  rw [e_lss, BR_dec]
  split
  · exact no M u0 (by omega)
  show OP (binI .gtr (.int .i64 k) (.int .i64 11)) _
  rw [e_gtr, BR_dec]
  split
  · exact no M u0 (by omega)
  rw [eql_l 0 0 rfl, bool_ne', BR_bool]
  split
  · rename_i hb
    exact no M u0 (fun h => by rw [h.2.1] at hb; simp at hb)
  rename_i hb
  have hb : beginsA k = decide (i = 0) := by simpa using hb
  show OP (binI .lss (.int .i64 n) (.int .i64 0)) _
  rw [e_lss, BR_dec]
  split
  · exact no M u0 (by omega)
  show OP (binI .gtr (.int .i64 n) (.int .i64 (topR k))) _
  rw [e_gtr, BR_dec]
  split
  · exact no M u0 (by omega)
  refine rplain_ok hs ?_
  simp only [fad0, o.l3]
  rw [e_not, BR_bool]
  split
  · rename_i hf
    exact no M u0 (fun h => by rw [h.2.2.2.1] at hf; simp at hf)
  rename_i hf
  have hf : fitsA s = true := by simpa using hf
  have yes : (textA k = true ∨ s = []) → P_r4_OkAct_6 x0 (iv (i : Int)) M Q := fun h => hyes (hg.2 ⟨by omega, hb, by omega, hf, h⟩) M u0
  rw [e_not]
  cases ht : textA k with
  | true =>
    show BR3 (.bool (decide False)) _ _ _
    rw [BR3_dec, if_neg (fun h => h)]
    exact yes (.inl ht)
  | false =>
    show BR3 (.bool (decide True)) _ _ _
    rw [BR3_dec, if_pos trivial]
    show OP (binS .neq (sv s) (sv [])) _
    rw [sv_ne, BR_dec]
    split
    · rename_i hne
      exact no M u0 (fun h => by rcases h.2.2.2.2 with h | h; rw [ht] at h; cases h; exact hne h)
    · rename_i he
      exact yes (.inr (Decidable.not_not.1 he))
end
end Go.G

namespace Go.G
open Go.Ab Go.Proofs Go.RowKit
set_option linter.unusedVariables false
set_option linter.unusedSimpArgs false
set_option maxRecDepth 100000
section
variable {x0 : Value} {b i : Nat} {k n : Int} {s : List UInt8} {Q : Value → Store → Prop}
theorem okact4 {M : Store} {tp : Int} (htp : tp = if k = 2 then 15 else 0) (o : Ob M b [iv k, iv n, sv s] Ty.api_Do) (hs : s.length ≤ 2 ^ 40) (hno : goodA (decide (i = 0)) (k, n, s) = false → ∀ M', Up M M' → Q (tv false) M') (hyes : goodA (decide (i = 0)) (k, n, s) = true → ∀ M', Up M M' → P_r4_OkAct_6 x0 (iv (i : Int)) M' Q) :
    P_r4_OkAct_4 x0 (iv (i : Int)) (pt b) (tv (beginsA k)) (tv (textA k)) (iv tp) M Q := by
  have h5 := okact5 (x0 := x0) (i := i) o hs hno hyes
  apply T_r4_OkAct_4
  unfold S_r4_OkAct_4
  simp only [fad0, o.l3]
  show OP (binI .eql (.int .i64 k) (.int .i64 7)) _
  rw [e_eql, BR_dec]
  split
  · rename_i h7
    have : topR k = 999 := by unfold topR; rw [if_pos (.inl h7)]
    rw [this] at h5
    exact h5
  · rename_i h7
    show OP (binI .eql (.int .i64 k) (.int .i64 8)) _
    rw [e_eql, BR_dec]
    split
    · rename_i h8
      have : topR k = 999 := by unfold topR; rw [if_pos (.inr h8)]
      rw [this] at h5
      exact h5
    · rename_i h8
      have : topR k = tp := by unfold topR; rw [if_neg (fun h => h.elim h7 h8), htp]
      rw [this] at h5
      exact h5
theorem okact2 {M : Store} (o : Ob M b [iv k, iv n, sv s] Ty.api_Do) (hs : s.length ≤ 2 ^ 40) (hno : goodA (decide (i = 0)) (k, n, s) = false → ∀ M', Up M M' → Q (tv false) M') (hyes : goodA (decide (i = 0)) (k, n, s) = true → ∀ M', Up M M' → P_r4_OkAct_6 x0 (iv (i : Int)) M' Q) :
    ∀ (bb : Bool), bb = beginsA k → ((k = 1 → textA k = true) ∧ True) → ∀ (tt : Bool), tt = textA k → (OP (binI .eql (iv k) (.int .i64 2)) fun t41 => BR t41 (P_r4_OkAct_4 x0 (iv (i : Int)) (pt b) (.bool bb) (.bool tt) (.int .i64 15) M Q) (P_r4_OkAct_4 x0 (iv (i : Int)) (pt b) (.bool bb) (.bool tt) (.int .i64 0) M Q)) := by
  intro bb hbb _ tt htt
  subst hbb; subst htt
  show OP (binI .eql (.int .i64 k) (.int .i64 2)) _
  rw [e_eql, BR_dec]
  split
  · rename_i h2; exact okact4 (tp := 15) (by rw [if_pos h2]) o hs hno hyes
  · rename_i h2; exact okact4 (tp := 0) (by rw [if_neg h2]) o hs hno hyes
end
theorem ROk_loop {M0 : Store} {v : Value} {l : List Dw} (h : DS M0 v l) (hl : l.length ≤ 2 ^ 40) (hs : ∀ d ∈ l, d.2.2.length ≤ 2 ^ 40) {Q : Value → Store → Prop} (hQ : ∀ M, Up M0 M → Q (tv (okA l)) M) :
    ∀ (k i : Nat) (M : Store), k + i = l.length → Up M0 M → okFrom 0 l = okFrom i (l.drop i) → P_r4_OkAct_1 v (iv (i : Int)) M Q := by
  intro k
  induction k with
  | zero =>
    intro i M hi hu ho
    apply T_r4_OkAct_1
    unfold S_r4_OkAct_1
    rw [(Sl.up h hu).lenV, OP_some]
    show OP (binI .lss (iv (i : Int)) (iv (l.length : Int))) _
    rw [lss_n, BR_dec, if_neg (by omega)]
    apply T_r4_OkAct_3
    unfold S_r4_OkAct_3
    have hQ := hQ M hu
    unfold okA at hQ
    rw [ho, List.drop_of_length_le (by omega)] at hQ
    have : okFrom i ([] : List Dw) = true := rfl
    rw [this, Bool.true_and] at hQ
    rw [(Sl.up h hu).lenV, OP_some]
    show OP (binI .geq (iv (l.length : Int)) _) _
    rw [geq_l 1 1 rfl, BR_dec]
    split
    · rename_i h1
      rw [decide_eq_true h1, Bool.true_and] at hQ
      rw [OP_some]
      show OP (binI .leq (iv (l.length : Int)) _) _
      rw [leq_l 8 8 rfl]
      exact ⟨rfl, hQ⟩
    · rename_i h1
      rw [decide_eq_false h1, Bool.false_and] at hQ
      exact ⟨rfl, hQ⟩
  | succ k ih =>
    intro i M hi hu ho
    have hil : i < l.length := by omega
    apply T_r4_OkAct_1
    unfold S_r4_OkAct_1
    rw [(Sl.up h hu).lenV, OP_some]
    show OP (binI .lss (iv (i : Int)) (iv (l.length : Int))) _
    rw [lss_n, BR_dec, if_pos hil]
    apply T_r4_OkAct_2
    unfold S_r4_OkAct_2
    rw [ds_ld (Sl.up h hu) hil]
    have hsl := hs _ (List.getElem_mem hil)
    rw [okFrom_drop, dif_pos hil] at ho
    generalize l[i] = d at *
    refine s_new fun M1 u1 o1 n1 => ?_
    refine s_st (vs := dcs d) o1 rfl rfl (dcs_one _) fun M2 c2 o2 n2 => ?_
    have hu2 : Up M0 M2 := hu.trans (u1.ch c2 (by simp))
    obtain ⟨k1, n, s⟩ := d
    have o2 : Ob M2 M.n [iv k1, iv n, sv s] Ty.api_Do := o2
    have hno : goodA (decide (i = 0)) (k1, n, s) = false → ∀ M', Up M2 M' → Q (tv false) M' := fun hg M' hu' => by
      have hQ := hQ M' (hu2.trans hu')
      unfold okA at hQ
      rw [ho, hg, Bool.false_and, Bool.false_and] at hQ
      exact hQ
    have hyes : goodA (decide (i = 0)) (k1, n, s) = true → ∀ M', Up M2 M' → P_r4_OkAct_6 v (iv (i : Int)) M' Q := fun hg M' hu' => by
      apply T_r4_OkAct_6
      unfold S_r4_OkAct_6
      rw [add1_n _ (by omega)]
      exact ih (i + 1) M' (by omega) (hu2.trans hu') (by rw [ho, hg, Bool.true_and])
    have main := okact2 (x0 := v) (i := i) o2 hsl hno hyes
    simp only [fad0, o2.l3]
    show OP (binI .eql (.int .i64 k1) (.int .i64 1)) _
    have hE : ∀ (c : Int) (K : Value → Prop), OP (binI .eql (iv k1) (.int .i64 c)) K = K (.bool (decide (k1 = c))) := fun c K => e_eql .i64 k1 c K
    have e1 := hE 1; have e2 := hE 2; have e3 := hE 3; have e10 := hE 10
    rw [e_eql, BR_dec]
    split
    · rename_i h1
      rw [e1, BR_dec, if_pos h1]
      exact main true (by unfold beginsA; rw [decide_eq_true h1]; rfl) ⟨fun _ => (textA_iff k1).2 (.inl h1), trivial⟩ true ((textA_iff k1).2 (.inl h1)).symm
    · rename_i h1
      have ht : decide (k1 = 10) = textA k1 := by unfold textA; rw [decide_eq_false h1, Bool.false_or]
      rw [e2, BR_dec]
      split
      · rename_i h2
        rw [e1, BR_dec, if_neg h1, e10]
        exact main true (by unfold beginsA; rw [decide_eq_true h2, Bool.true_or, Bool.or_true]) ⟨fun e => absurd e h1, trivial⟩ _ ht
      · rename_i h2
        rw [e3, e1, BR_dec, if_neg h1, e10]
        exact main _ (by unfold beginsA; rw [decide_eq_false h1, decide_eq_false h2, Bool.false_or, Bool.false_or]) ⟨fun e => absurd e h1, trivial⟩ _ ht
theorem ROk_ok {M : Store} {v : Value} {l : List Dw} (h : DS M v l) (hl : l.length ≤ 2 ^ 40) (hs : ∀ d ∈ l, d.2.2.length ≤ 2 ^ 40) : R F.r4_OkAct #[v] M fun r M' => Up M M' ∧ r = tv (okA l) := by
  refine R.cps fun Q hQ => ?_
  apply T_r4_OkAct
  unfold S_r4_OkAct
  exact ROk_loop h hl hs (fun M' hu => hQ _ _ ⟨hu, rfl⟩) l.length 0 M rfl (Ch.refl _ _) rfl
end Go.G

namespace Go.G
open Go.Ab Go.Proofs Go.RowKit
set_option linter.unusedVariables false
set_option linter.unusedSimpArgs false
set_option maxRecDepth 100000
def parseB : Nat → List Ww → List Dw → Option (List Dw)
  | 0, _, _ => none
  | k + 1, ws, acc => match oneB (ws.takeWhile fun w => !semiA w) with
    | none => none
    | some d => match ws.dropWhile fun w => !semiA w with
      | [] => finA (acc ++ [d])
      | _ :: r => parseB k r (acc ++ [d])
theorem tw_stop {p : Ww → Bool} : ∀ (l : List Ww) (j : Nat), (∀ q (h : q < j) (h2 : q < l.length), p l[q] = true) → j ≤ l.length → (∀ h : j < l.length, p l[j] = false) → l.takeWhile p = l.take j ∧ l.dropWhile p = l.drop j
  | [], j, _, hj, _ => by simp at hj; subst hj; exact ⟨rfl, rfl⟩
  | x :: l, 0, _, _, h0 => by
    have : p x = false := h0 (by simp)
    simp [this]
  | x :: l, j + 1, hp, hj, h0 => by
    have hx : p x = true := hp 0 (by omega) (by simp)
    have ih := tw_stop (p := p) l j (fun q h h2 => by have := hp (q + 1) (by omega) (by simpa using h2); simpa using this) (by simpa using hj) (fun h => by have := h0 (by simpa using h); simpa using this)
    simp [hx, ih.1, ih.2]
section
variable {M0 : Store} {v : Value} {ws : List Ww} {o : Option (List Dw)} {Q : Value → Store → Prop}
theorem rparse_end (hQ : ∀ r M, Up M0 M → ParseR M0 M r o → Q r M) {M : Store} {x4 : Value} {acc : List Dw} (hu : Up M0 M) (hN : NDS M0 M x4 acc) (hl : acc.length ≤ 2 ^ 30) (hs : ∀ d ∈ acc, d.2.2.length ≤ 2 ^ 40) (ho : finA acc = o) : P_r4_ParseAct_3 x4 M Q := by
  apply T_r4_ParseAct_3
  unfold S_r4_ParseAct_3
  unfold finA at ho
  refine (ROk_ok hN.lv (by omega) hs).mono fun r M1 ⟨u1, hr⟩ => ?_
  subst hr
  rw [e_not, BR_bool]
  split
  · rename_i h
    rw [if_neg (by simpa using h)] at ho
    exact ⟨rfl, hQ _ _ (hu.trans u1) (by rw [← ho]; rfl)⟩
  · rename_i h
    rw [if_pos (by simpa using h)] at ho
    have hN1 := Nw.up hN u1
    refine ⟨?_, hQ _ _ (hu.trans u1) (by rw [← ho]; exact ⟨x4, rfl, hN1⟩)⟩
    obtain ⟨a, c, rfl⟩ := hN1.sl.slice
    rfl
end
end Go.G

namespace Go.G
open Go.Ab Go.Proofs Go.RowKit
set_option linter.unusedVariables false
set_option linter.unusedSimpArgs false
set_option maxRecDepth 100000
theorem restB_text {k : Nat} {r : List Ww} {d : Dw} {m : Nat} (h : restB k r = some d) (hw : ∀ w ∈ r, w.1.length ≤ m) : d.2.2.length ≤ m := by
  unfold restB at h
  split at h
  · match r, h, hw with
    | [], h, _ => cases h
    | [x], h, hw =>
      simp only [txtB] at h
      split at h
      · injection h with h; subst h; exact hw x (by simp)
      · cases h
    | _ :: _ :: _, h, _ => cases h
  · split at h
    · match r, h with
      | [], h => cases h
      | [x], h =>
        simp only [numB] at h
        split at h
        · cases h
        · split at h
          · injection h with h; subst h; simp
          · cases h
      | _ :: _ :: _, h => cases h
    · split at h
      · injection h with h; subst h; simp
      · cases h
theorem oneB_text {ws : List Ww} {d : Dw} {m : Nat} (h : oneB ws = some d) (hw : ∀ w ∈ ws, w.1.length ≤ m) : d.2.2.length ≤ m := by
  match ws, h, hw with
  | [], h, _ => cases h
  | w :: r, h, hw =>
    by_cases hq : w.2.2.2 = true
    · rw [oneB, if_pos hq] at h; cases h
    · rw [oneB_cons w r hq] at h
      split at h
      · cases h
      · exact restB_text h fun x hx => hw x (by simp [hx])
theorem rseg {M0 : Store} {v : Value} {ws : List Ww} {o : Option (List Dw)} {Q : Value → Store → Prop} (h : WW M0 v ws) (hl : ws.length ≤ 2 ^ 20) (hw : ∀ w ∈ ws, w.1.length ≤ 2 ^ 30) (hQ : ∀ r M, Up M0 M → ParseR M0 M r o → Q r M)
    {from_ i k : Nat} {acc : List Dw} {x4 : Value} {M1 : Store} (hi : i ≤ ws.length) (hf : from_ ≤ i) (hs : (ws.take i).drop from_ = (ws.drop from_).takeWhile (fun w => !semiA w)) (hu1 : Up M0 M1) (hN : NDS M0 M1 x4 acc) (hal : acc.length ≤ from_) (hat : ∀ d ∈ acc, d.2.2.length ≤ 2 ^ 40) (ho : parseB (k + 1) (ws.drop from_) acc = o)
    (hgo : ∀ d, oneB ((ws.drop from_).takeWhile fun w => !semiA w) = some d → ∀ (x4' : Value) (M' : Store), Up M0 M' → NDS M0 M' x4' (acc ++ [d]) → (∀ e ∈ acc ++ [d], e.2.2.length ≤ 2 ^ 40) → P_r4_ParseAct_5 v x4' (iv ((i + 1 : Nat) : Int)) (iv (i : Int)) M' Q) :
    P_r4_ParseAct_4 v x4 (iv (from_ : Int)) (iv (i : Int)) M1 Q := by
  apply T_r4_ParseAct_4
  unfold S_r4_ParseAct_4
  have hu0 : WW M1 v ws := Sl.up h hu1
  obtain ⟨v2, e2, g2⟩ := LK.cut wws_len hu0 (lo := some (.int .i64 (from_ : Int))) (hi := some (.int .i64 (i : Int))) (a := from_) (r := i) (by simp only [abound]; rw [if_pos ⟨by omega, by omega⟩]; rfl) (by simp only [abound]; rw [if_pos ⟨by omega, by omega⟩]; rfl) hi hf
  show OP (slV 4 Ty.api_Word v (some (.int .i64 (from_ : Int))) (some (.int .i64 (i : Int))) M1) _
  rw [e2, OP_some]
  rw [hs] at g2
  have hsub : ∀ w ∈ (ws.drop from_).takeWhile (fun w => !semiA w), w ∈ ws := fun w hm => List.mem_of_mem_drop ((List.takeWhile_prefix _).subset hm)
  have hsl := (List.takeWhile_prefix (l := ws.drop from_) (fun w => !semiA w)).length_le
  rw [List.length_drop] at hsl
  refine (rone_ok g2 (fun w hm => by have := hw w (hsub w hm); omega) (by omega)).mono fun r M2 ⟨u2, hr⟩ => ?_
  rw [parseB] at ho
  cases hone : oneB ((ws.drop from_).takeWhile fun w => !semiA w) with
  | none =>
    rw [hone] at hr ho
    obtain ⟨d, rfl⟩ := hr
    rw [(tp2 _ _).1, (tp2 _ _).2]
    refine s_new fun M3 u3 o3 n3 => ?_
    refine s_st (vs := dcs d) o3 rfl rfl (dcs_one d) fun M4 c4 o4 n4 => ?_
    rw [e_not]
    show BR (.bool true) _ _
    rw [BR_true]
    exact ⟨rfl, hQ _ _ ((hu1.trans u2).trans (u3.ch c4 (by simp))) (by rw [← ho]; rfl)⟩
  | some d =>
    rw [hone] at hr
    have hr : r = .tuple #[dv d, .bool true] := hr
    subst hr
    rw [(tp2 _ _).1, (tp2 _ _).2]
    refine s_new fun M3 u3 o3 n3 => ?_
    refine s_st (vs := dcs d) o3 rfl rfl (dcs_one d) fun M4 c4 o4 n4 => ?_
    have hu4 := (hu1.trans u2).trans (u3.ch c4 (by simp))
    have hN4 : NDS M0 M4 x4 acc := Nw.up (Nw.up hN u2) (u3.ch c4 (by simp))
    rw [e_not]
    show BR (.bool false) _ _
    rw [BR_false, o4.ldA (s := 3) rfl, OP_some]
    rw [show bldL (.agg #[(.int .i64 0), (.int .i64 0), (.string ⟨#[]⟩)]) 3 1 [(0, .agg (dcs d).toArray)] = some (dcs d) from bl_do d, OP_some, LT_eq]
    refine NK.app1 (M0 := M0) (Mb := M0) dcs_len hu4 (Nat.le_refl _) hu4.n hN4 d rfl (by omega) fun x4' M' hu' hN' _ _ => ?_
    rw [add1_n _ (by omega)]
    refine hgo d hone x4' M' hu' hN' fun e he => ?_
    rcases List.mem_append.1 he with he | he
    · exact hat e he
    · have : e = d := by simpa using he
      subst this
      have := oneB_text hone (m := 2 ^ 30) fun w hm => hw w (hsub w hm)
      omega
end Go.G

namespace Go.G
open Go.Ab Go.Proofs Go.RowKit
set_option linter.unusedVariables false
set_option linter.unusedSimpArgs false
set_option maxRecDepth 100000
theorem seg_at {ws : List Ww} {from_ i : Nat} (hf : from_ ≤ i) (hi : i ≤ ws.length) (hsem : ∀ q (h1 : from_ ≤ q) (h2 : q < i) (h3 : q < ws.length), semiA ws[q] = false) (hend : ∀ h : i < ws.length, semiA ws[i] = true) :
    (ws.drop from_).takeWhile (fun w => !semiA w) = (ws.take i).drop from_ ∧ (ws.drop from_).dropWhile (fun w => !semiA w) = ws.drop i := by
  have h := tw_stop (p := fun w => !semiA w) (ws.drop from_) (i - from_) (fun q h h2 => by
    rw [List.length_drop] at h2
    rw [List.getElem_drop, hsem (from_ + q) (by omega) (by omega) (by omega)]; rfl) (by rw [List.length_drop]; omega) (fun h => by
    rw [List.length_drop] at h
    have e : from_ + (i - from_) = i := by omega
    have := hend (by omega)
    simp only [List.getElem_drop, e, this]; rfl)
  refine ⟨by rw [h.1, List.drop_take], ?_⟩
  rw [h.2, List.drop_drop, show from_ + (i - from_) = i by omega]
theorem rparse_loop {M0 : Store} {v : Value} {ws : List Ww} {o : Option (List Dw)} {Q : Value → Store → Prop} (h : WW M0 v ws) (hl : ws.length ≤ 2 ^ 20) (hw : ∀ w ∈ ws, w.1.length ≤ 2 ^ 30) (hQ : ∀ r M, Up M0 M → ParseR M0 M r o → Q r M) :
    ∀ (n from_ i k : Nat) (acc : List Dw) (x4 : Value) (M : Store), n + i = ws.length → from_ ≤ i → (∀ q (h1 : from_ ≤ q) (h2 : q < i) (h3 : q < ws.length), semiA ws[q] = false) → ws.length - from_ < k → Up M0 M → NDS M0 M x4 acc → acc.length ≤ from_ → (∀ d ∈ acc, d.2.2.length ≤ 2 ^ 40) → parseB k (ws.drop from_) acc = o →
      P_r4_ParseAct_1 v x4 (iv (from_ : Int)) (iv (i : Int)) M Q := by
  intro n
  induction n with
  | zero =>
    intro from_ i k acc x4 M hn hf hsem hk hu hN hal hat ho
    obtain ⟨k, rfl⟩ : ∃ k', k = k' + 1 := ⟨k - 1, by omega⟩
    apply T_r4_ParseAct_1
    unfold S_r4_ParseAct_1
    rw [(Sl.up h hu).lenV, OP_some]
    show OP (binI .leq (iv (i : Int)) (iv (ws.length : Int))) _
    rw [leq_n, BR_dec, if_pos (by omega)]
    apply T_r4_ParseAct_2
    unfold S_r4_ParseAct_2
    rw [(Sl.up h hu).lenV, OP_some]
    show OP (binI .lss (iv (i : Int)) (iv (ws.length : Int))) _
    rw [lss_n, BR_dec, if_neg (by omega)]
    obtain ⟨s1, s2⟩ := seg_at hf (by omega) hsem (fun hh => by omega)
    refine rseg h hl hw hQ (k := k) (by omega) hf s1.symm hu hN hal hat ho fun d hone x4' M' hu' hN' hat' => ?_
    rw [parseB, hone] at ho
    simp only [s2] at ho
    rw [List.drop_of_length_le (by omega)] at ho
    apply T_r4_ParseAct_5
    unfold S_r4_ParseAct_5
    rw [add1_n _ (by omega)]
    apply T_r4_ParseAct_1
    unfold S_r4_ParseAct_1
    rw [(Sl.up h hu').lenV, OP_some]
    show OP (binI .leq (iv ((i + 1 : Nat) : Int)) (iv (ws.length : Int))) _
    rw [leq_n, BR_dec, if_neg (by omega)]
    exact rparse_end hQ hu' hN' (by simp; omega) hat' ho
  | succ n ih =>
    intro from_ i k acc x4 M hn hf hsem hk hu hN hal hat ho
    obtain ⟨k, rfl⟩ : ∃ k', k = k' + 1 := ⟨k - 1, by omega⟩
    have hil : i < ws.length := by omega
    apply T_r4_ParseAct_1
    unfold S_r4_ParseAct_1
    rw [(Sl.up h hu).lenV, OP_some]
    show OP (binI .leq (iv (i : Int)) (iv (ws.length : Int))) _
    rw [leq_n, BR_dec, if_pos (by omega)]
    apply T_r4_ParseAct_2
    unfold S_r4_ParseAct_2
    rw [(Sl.up h hu).lenV, OP_some]
    show OP (binI .lss (iv (i : Int)) (iv (ws.length : Int))) _
    rw [lss_n, BR_dec, if_pos hil, ww_ld (Sl.up h hu) hil]
    refine is_ok (t := [59]) fun M1 u1 => ?_
    have hu1 := hu.trans u1
    have hN1 : NDS M0 M1 x4 acc := Nw.up hN u1
    show OP (aun .not (.bool (semiA ws[i]))) _
    rw [e_not, BR_bool]
    split
    · rename_i hs
      have hs : semiA ws[i] = false := by simpa using hs
      apply T_r4_ParseAct_5
      unfold S_r4_ParseAct_5
      rw [add1_n _ (by omega)]
      refine ih from_ (i + 1) (k + 1) acc x4 M1 (by omega) (by omega) (fun q h1 h2 h3 => ?_) hk hu1 hN1 hal hat ho
      by_cases e : q = i
      · subst e; exact hs
      · exact hsem q h1 (by omega) h3
    · rename_i hs
      have hs : semiA ws[i] = true := by simpa using hs
      obtain ⟨s1, s2⟩ := seg_at hf (by omega) hsem (fun _ => hs)
      refine rseg h hl hw hQ (k := k) (by omega) hf s1.symm hu1 hN1 hal hat ho fun d hone x4' M' hu' hN' hat' => ?_
      rw [parseB, hone] at ho
      rw [List.drop_eq_getElem_cons hil] at s2
      simp only [s2] at ho
      apply T_r4_ParseAct_5
      unfold S_r4_ParseAct_5
      rw [add1_n _ (by omega)]
      exact ih (i + 1) (i + 1) k (acc ++ [d]) x4' M' (by omega) (Nat.le_refl _) (fun q h1 h2 h3 => by omega) (by omega) hu' hN' (by simp; omega) hat' ho
theorem ParseAct_ok {M : Store} {v : Value} {ws : List Ww} (h : WW M v ws) (hl : ws.length ≤ 2 ^ 20) (hw : ∀ w ∈ ws, w.1.length ≤ 2 ^ 30) : R F.r4_ParseAct #[v] M fun r M' => Up M M' ∧ ParseR M M' r (parseB (ws.length + 1) ws []) := by
  refine R.cps fun Q hQ => ?_
  apply T_r4_ParseAct
  unfold S_r4_ParseAct
  exact rparse_loop (M0 := M) h hl hw (fun r M' hu hr => hQ _ _ ⟨hu, hr⟩) ws.length 0 0 (ws.length + 1) [] _ M rfl (Nat.le_refl _) (fun q h1 h2 h3 => by omega) (by omega) (Ch.refl _ _) NK.nil (by simp) (by simp) (by rw [List.drop_zero])
end Go.G
