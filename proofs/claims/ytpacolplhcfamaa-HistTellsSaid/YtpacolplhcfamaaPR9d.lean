/- Layer 6: actions that are right, by the document: the walk. -/
import Derived.Test.YtpacolplhcfamaaPR9c
namespace Go.G
open Go.Ab Go.Proofs Go.RowKit
set_option linter.unusedVariables false
set_option linter.unusedSimpArgs false
set_option maxRecDepth 100000
section
variable {x0 : Value} {b i : Nat} {k n : Int} {s : List UInt8} {Q : Value → Store → Prop}
theorem okact4 {M : Store} {tp : Int} (htp : tp = if k = 2 then 15 else 0) (o : Ob M b [iv k, iv n, sv s] Ty.api_Do) (hs : s.length ≤ 2 ^ 40) (hno : goodA (decide (i = 0)) (k, n, s) = false → ∀ M', Up M M' → Q (tv false) M') (hyes : goodA (decide (i = 0)) (k, n, s) = true → ∀ M', Up M M' → P_fettleref4_OkAct_6 x0 (iv (i : Int)) M' Q) :
    P_fettleref4_OkAct_4 x0 (iv (i : Int)) (pt b) (tv (beginsA k)) (tv (textA k)) (iv tp) M Q := by
  have h5 := okact5 (x0 := x0) (i := i) o hs hno hyes
  apply T_fettleref4_OkAct_4
  unfold S_fettleref4_OkAct_4
  simp only [fad0, o.l3]
  show OP (binI .eql (.int .i64 k) (.int .i64 7)) _
  rw [e_eql, BR_dec]
  split
  · rename_i h7
    have : topR k = 999 := by unfold topR; rw [if_pos (.inl h7)]
    rw [this] at h5
    exact h5
  · rename_i h7
    show OP (binI .eql (.int .i64 k) (.int .i64 8)) _
    rw [e_eql, BR_dec]
    split
    · rename_i h8
      have : topR k = 999 := by unfold topR; rw [if_pos (.inr h8)]
      rw [this] at h5
      exact h5
    · rename_i h8
      have : topR k = tp := by unfold topR; rw [if_neg (fun h => h.elim h7 h8), htp]
      rw [this] at h5
      exact h5
theorem okact2 {M : Store} (o : Ob M b [iv k, iv n, sv s] Ty.api_Do) (hs : s.length ≤ 2 ^ 40) (hno : goodA (decide (i = 0)) (k, n, s) = false → ∀ M', Up M M' → Q (tv false) M') (hyes : goodA (decide (i = 0)) (k, n, s) = true → ∀ M', Up M M' → P_fettleref4_OkAct_6 x0 (iv (i : Int)) M' Q) :
    ∀ (bb : Bool), bb = beginsA k → ((k = 1 → textA k = true) ∧ True) → ∀ (tt : Bool), tt = textA k → (OP (binI .eql (iv k) (.int .i64 2)) fun t41 => BR t41 (P_fettleref4_OkAct_4 x0 (iv (i : Int)) (pt b) (.bool bb) (.bool tt) (.int .i64 15) M Q) (P_fettleref4_OkAct_4 x0 (iv (i : Int)) (pt b) (.bool bb) (.bool tt) (.int .i64 0) M Q)) := by
  intro bb hbb _ tt htt
  subst hbb; subst htt
  show OP (binI .eql (.int .i64 k) (.int .i64 2)) _
  rw [e_eql, BR_dec]
  split
  · rename_i h2; exact okact4 (tp := 15) (by rw [if_pos h2]) o hs hno hyes
  · rename_i h2; exact okact4 (tp := 0) (by rw [if_neg h2]) o hs hno hyes
end
theorem ROk_loop {M0 : Store} {v : Value} {l : List Dw} (h : DS M0 v l) (hl : l.length ≤ 2 ^ 40) (hs : ∀ d ∈ l, d.2.2.length ≤ 2 ^ 40) {Q : Value → Store → Prop} (hQ : ∀ M, Up M0 M → Q (tv (okA l)) M) :
    ∀ (k i : Nat) (M : Store), k + i = l.length → Up M0 M → okFrom 0 l = okFrom i (l.drop i) → P_fettleref4_OkAct_1 v (iv (i : Int)) M Q := by
  intro k
  induction k with
  | zero =>
    intro i M hi hu ho
    apply T_fettleref4_OkAct_1
    unfold S_fettleref4_OkAct_1
    rw [(Sl.up h hu).lenV, OP_some]
    show OP (binI .lss (iv (i : Int)) (iv (l.length : Int))) _
    rw [lss_n, BR_dec, if_neg (by omega)]
    apply T_fettleref4_OkAct_3
    unfold S_fettleref4_OkAct_3
    have hQ := hQ M hu
    unfold okA at hQ
    rw [ho, List.drop_of_length_le (by omega)] at hQ
    have : okFrom i ([] : List Dw) = true := rfl
    rw [this, Bool.true_and] at hQ
    rw [(Sl.up h hu).lenV, OP_some]
    show OP (binI .geq (iv (l.length : Int)) _) _
    rw [geq_l 1 1 rfl, BR_dec]
    split
    · rename_i h1
      rw [decide_eq_true h1, Bool.true_and] at hQ
      rw [OP_some]
      show OP (binI .leq (iv (l.length : Int)) _) _
      rw [leq_l 8 8 rfl]
      exact ⟨rfl, hQ⟩
    · rename_i h1
      rw [decide_eq_false h1, Bool.false_and] at hQ
      exact ⟨rfl, hQ⟩
  | succ k ih =>
    intro i M hi hu ho
    have hil : i < l.length := by omega
    apply T_fettleref4_OkAct_1
    unfold S_fettleref4_OkAct_1
    rw [(Sl.up h hu).lenV, OP_some]
    show OP (binI .lss (iv (i : Int)) (iv (l.length : Int))) _
    rw [lss_n, BR_dec, if_pos hil]
    apply T_fettleref4_OkAct_2
    unfold S_fettleref4_OkAct_2
    rw [ds_ld (Sl.up h hu) hil]
    have hsl := hs _ (List.getElem_mem hil)
    rw [okFrom_drop, dif_pos hil] at ho
    generalize l[i] = d at *
    refine s_new fun M1 u1 o1 n1 => ?_
    refine s_st (vs := dcs d) o1 rfl rfl (dcs_one _) fun M2 c2 o2 n2 => ?_
    have hu2 : Up M0 M2 := hu.trans (u1.ch c2 (by simp))
    obtain ⟨k1, n, s⟩ := d
    have o2 : Ob M2 M.n [iv k1, iv n, sv s] Ty.api_Do := o2
    have hno : goodA (decide (i = 0)) (k1, n, s) = false → ∀ M', Up M2 M' → Q (tv false) M' := fun hg M' hu' => by
      have hQ := hQ M' (hu2.trans hu')
      unfold okA at hQ
      rw [ho, hg, Bool.false_and, Bool.false_and] at hQ
      exact hQ
    have hyes : goodA (decide (i = 0)) (k1, n, s) = true → ∀ M', Up M2 M' → P_fettleref4_OkAct_6 v (iv (i : Int)) M' Q := fun hg M' hu' => by
      apply T_fettleref4_OkAct_6
      unfold S_fettleref4_OkAct_6
      rw [add1_n _ (by omega)]
      exact ih (i + 1) M' (by omega) (hu2.trans hu') (by rw [ho, hg, Bool.true_and])
    have main := okact2 (x0 := v) (i := i) o2 hsl hno hyes
    simp only [fad0, o2.l3]
    show OP (binI .eql (.int .i64 k1) (.int .i64 1)) _
    have hE : ∀ (c : Int) (K : Value → Prop), OP (binI .eql (iv k1) (.int .i64 c)) K = K (.bool (decide (k1 = c))) := fun c K => e_eql .i64 k1 c K
    have e1 := hE 1; have e2 := hE 2; have e3 := hE 3; have e10 := hE 10
    rw [e_eql, BR_dec]
    split
    · rename_i h1
      rw [e1, BR_dec, if_pos h1]
      exact main true (by unfold beginsA; rw [decide_eq_true h1]; rfl) ⟨fun _ => (textA_iff k1).2 (.inl h1), trivial⟩ true ((textA_iff k1).2 (.inl h1)).symm
    · rename_i h1
      have ht : decide (k1 = 10) = textA k1 := by unfold textA; rw [decide_eq_false h1, Bool.false_or]
      rw [e2, BR_dec]
      split
      · rename_i h2
        rw [e1, BR_dec, if_neg h1, e10]
        exact main true (by unfold beginsA; rw [decide_eq_true h2, Bool.true_or, Bool.or_true]) ⟨fun e => absurd e h1, trivial⟩ _ ht
      · rename_i h2
        rw [e3, e1, BR_dec, if_neg h1, e10]
        exact main _ (by unfold beginsA; rw [decide_eq_false h1, decide_eq_false h2, Bool.false_or, Bool.false_or]) ⟨fun e => absurd e h1, trivial⟩ _ ht
theorem ROk_ok {M : Store} {v : Value} {l : List Dw} (h : DS M v l) (hl : l.length ≤ 2 ^ 40) (hs : ∀ d ∈ l, d.2.2.length ≤ 2 ^ 40) : R F.fettleref4_OkAct #[v] M fun r M' => Up M M' ∧ r = tv (okA l) := by
  refine R.cps fun Q hQ => ?_
  apply T_fettleref4_OkAct
  unfold S_fettleref4_OkAct
  exact ROk_loop h hl hs (fun M' hu => hQ _ _ ⟨hu, rfl⟩) l.length 0 M rfl (Ch.refl _ _) rfl
end Go.G
