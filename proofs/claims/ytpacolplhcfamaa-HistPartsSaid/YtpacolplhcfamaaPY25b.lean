/- Layer 25: whether commits are honest; a commit of a number. -/
import Derived.Test.YtpacolplhcfamaaPY25a
namespace Go.G
open Go.Ab Go.Proofs Go.RowKit
set_option linter.unusedVariables false
set_option linter.unusedSimpArgs false
set_option maxRecDepth 100000

theorem runR_view {M0 M : Store} {r : Value} {o : Option (List UInt8)} (h : RunR M0 M r o) : ∃ w, r = .tuple #[w, .bool o.isSome] ∧ B M w (o.getD []) := by
  cases o with
  | none => exact ⟨_, h, Sl.nil _ _ _⟩
  | some t => obtain ⟨w, e, h1, _⟩ := h; exact ⟨w, e, h1.by⟩
theorem runRB_view {M : Store} {r : Value} {o : Option (List UInt8)} (h : RunB M r o) : ∃ w, r = .tuple #[w, .bool o.isSome] ∧ B M w (o.getD []) ∧ (o.getD []).length ≤ 256 := by
  cases o with
  | none => exact ⟨_, h, Sl.nil _ _ _, by simp⟩
  | some t => obtain ⟨w, e, h1, h2⟩ := h; exact ⟨w, e, h1, h2⟩
theorem honF_some {c : Cm} {p : List UInt8 × List UInt8} (hd : c.2.2.2 = false) (ho : openF c.2.2.1 = some p) : honF c = decide (valO 4000 256 p.1 = some p.2) := by
  unfold honF; rw [hd, ho]; rfl
theorem honF_none {c : Cm} (hd : c.2.2.2 = false) (ho : openF c.2.2.1 = none) : honF c = false := by
  unfold honF; rw [hd, ho]; rfl
section
variable {M0 : Store} {x0 : Value} {ps : List CP} {o : Bool} {Q : Value → Store → Prop}
theorem Hon_loop (h : CL M0 x0 ps) (hl : ps.length ≤ 2 ^ 20) (hb : ∀ p ∈ ps, p.1.2.2.1.length ≤ 2 ^ 22) (hQ : ∀ M, Up M0 M → Q (tv o) M) : ∀ (k i : Nat) (M : Store), k + i = ps.length → Up M0 M → (cms (ps.drop i)).all honF = o → P_hist_Honest_1 x0 (iv (ps.length : Int)) (iv (i : Int)) M Q := by
  intro k
  induction k with
  | zero =>
    intro i M hi hu ho
    apply T_hist_Honest_1
    unfold S_hist_Honest_1
    rw [lss_n, BR_dec, if_neg (by omega)]
    apply T_hist_Honest_3
    unfold S_hist_Honest_3
    rw [List.drop_of_length_le (by omega)] at ho
    have hq := hQ M hu
    rw [← ho] at hq
    exact ⟨rfl, hq⟩
  | succ k ih =>
    intro i M hi hu ho
    have hil : i < ps.length := by omega
    apply T_hist_Honest_1
    unfold S_hist_Honest_1
    rw [lss_n, BR_dec, if_pos hil]
    apply T_hist_Honest_2
    unfold S_hist_Honest_2
    rw [c_ld (Sl.up h.1 hu) hil]
    have hm := List.getElem_mem hil
    have hbl := hb _ hm
    have hpB := Sl.up (h.2 _ hm) hu
    rw [cms_drop hil, List.all_cons] at ho
    generalize ps[i] = p at *
    refine s_new fun M1 u1 o1 _ => ?_
    refine s_st (vs := ccs p) o1 rfl rfl (ccs_one _) fun M2 c2 o2 _ => ?_
    have u02 : Up M M2 := u1.ch c2 (by simp)
    obtain ⟨⟨who, tg, by_, dr⟩, pa⟩ := p
    have o2 : Ob M2 M.n [iv who, sv tg, slT pa, tv dr] Ty.api_Commit := o2
    have next : honF (who, tg, by_, dr) = true → ∀ M', Up M M' → P_hist_Honest_5 x0 (iv (ps.length : Int)) (iv (i : Int)) M' Q := by
      intro hh M' hu'
      apply T_hist_Honest_5
      unfold S_hist_Honest_5
      rw [add1_n _ (by omega)]
      exact ih (i + 1) M' (by omega) (hu.trans hu') (by rw [← ho]; simp only; rw [hh, Bool.true_and])
    have no : honF (who, tg, by_, dr) = false → ∀ M', Up M M' → NTs [(.bool false)] ∧ Q (.bool false) M' := by
      intro hh M' hu'
      have hq := hQ M' (hu.trans hu')
      rw [← ho] at hq
      simp only at hq
      rw [hh, Bool.false_and] at hq
      exact ⟨rfl, hq⟩
    simp only [fad0, o2.l4]
    rw [BR_bool]
    split
    · rename_i hd
      exact next (by unfold honF; simp only; rw [hd]; rfl) M2 u02
    · rename_i hd
      have hd : dr = false := by simpa using hd
      apply T_hist_Honest_4
      unfold S_hist_Honest_4
      simp only [fad0, o2.l4]
      refine (Open_ok (Sl.up hpB u02) (by simp only at hbl ⊢; omega)).mono fun r M3 ⟨u3, h3⟩ => ?_
      obtain ⟨u, v, e, hu3, hv3⟩ := opn_view h3
      subst e
      rw [(tp3b _ _ _).1, (tp3b _ _ _).2.1, (tp3b _ _ _).2.2]
      have u03 := u02.trans u3
      have hlen : ((openF by_).getD ([], [])).1.length ≤ 4000 := by
        cases hop : openF by_ with
        | none => simp
        | some pp => exact (openF_len hop).1
      refine (PValue_ok hu3 (Nat.le_trans hlen (by decide))).mono fun r4 M4 ⟨u4, h4⟩ => ?_
      obtain ⟨w, e, hw⟩ := runR_view h4
      subst e
      rw [(tp2b _ _).1, (tp2b _ _).2]
      have u04 := u03.trans u4
      cases hop : openF by_ with
      | none =>
        rw [e_not, BR_bool, if_pos (show (!(none : Option (List UInt8 × List UInt8)).isSome) = true from rfl)]
        exact no (honF_none hd hop) M4 u04
      | some pp =>
        rw [hop] at hw hv3
        have hf := honF_some (c := (who, tg, by_, dr)) hd hop
        rw [e_not, BR_bool, if_neg (show ¬ (!(some pp).isSome) = true by simp)]
        have e1 : ((some pp).getD ([], [])).1 = pp.1 := rfl
        rw [e1] at hw ⊢
        cases hval : valO 4000 256 pp.1 with
        | none =>
          rw [e_not, BR_bool, if_pos (show (!(none : Option (List UInt8)).isSome) = true from rfl)]
          exact no (by rw [hf, hval]; simp) M4 u04
        | some t =>
          rw [hval] at hw
          rw [e_not, BR_bool, if_neg (show ¬ (!(some t).isSome) = true by simp)]
          have hv3 : B M3 v pp.2 := hv3
          have hw : B M4 w t := hw
          refine (bEqual_ok (Sl.up hv3 u4) hw).mono fun r5 M5 ⟨e5, e6⟩ => ?_
          subst e5; subst e6
          rw [e_not, BR_bool]
          split
          · rename_i hne
            have hne : ¬ pp.2 = t := by simpa using hne
            exact no (by rw [hf, hval]; simpa using fun e : t = pp.2 => hne e.symm) M5 u04
          · rename_i heq
            have heq : pp.2 = t := by simpa using heq
            exact next (by rw [hf, hval, heq]; simp) M5 u04
theorem Honest_ok {M : Store} (h : CL M x0 ps) (hl : ps.length ≤ 2 ^ 20) (hb : ∀ p ∈ ps, p.1.2.2.1.length ≤ 2 ^ 22) : R F.hist_Honest #[x0] M fun r M' => Up M M' ∧ r = tv ((cms ps).all honF) := by
  refine R.cps fun Q hQ => ?_
  apply T_hist_Honest
  unfold S_hist_Honest
  rw [LK.len h.1, OP_some]
  exact Hon_loop (M0 := M) h hl hb (fun M' hu => hQ _ _ ⟨hu, rfl⟩) ps.length 0 M rfl (Ch.refl _ _) (by rw [List.drop_zero])
theorem RHon_loop (h : CL M0 x0 ps) (hl : ps.length ≤ 2 ^ 20) (hb : ∀ p ∈ ps, p.1.2.2.1.length ≤ 2 ^ 22) (hQ : ∀ M, Up M0 M → Q (tv o) M) : ∀ (k i : Nat) (M : Store), k + i = ps.length → Up M0 M → (cms (ps.drop i)).all honF = o → P_fettleref10_Honest_1 x0 (iv (i : Int)) M Q := by
  intro k
  induction k with
  | zero =>
    intro i M hi hu ho
    apply T_fettleref10_Honest_1
    unfold S_fettleref10_Honest_1
    rw [LK.len (Sl.up h.1 hu), OP_some]
    show OP (binI .lss (iv (i : Int)) (iv (ps.length : Int))) _
    rw [lss_n, BR_dec, if_neg (by omega)]
    apply T_fettleref10_Honest_3
    unfold S_fettleref10_Honest_3
    rw [List.drop_of_length_le (by omega)] at ho
    have hq := hQ M hu
    rw [← ho] at hq
    exact ⟨rfl, hq⟩
  | succ k ih =>
    intro i M hi hu ho
    have hil : i < ps.length := by omega
    apply T_fettleref10_Honest_1
    unfold S_fettleref10_Honest_1
    rw [LK.len (Sl.up h.1 hu), OP_some]
    show OP (binI .lss (iv (i : Int)) (iv (ps.length : Int))) _
    rw [lss_n, BR_dec, if_pos hil]
    apply T_fettleref10_Honest_2
    unfold S_fettleref10_Honest_2
    have hm := List.getElem_mem hil
    have hbl := hb _ hm
    rw [c_fld (Sl.up h.1 hu) hil (f := 2) (w := slT ps[i].2) rfl]
    refine (ROpen_ok (Sl.up (h.2 _ hm) hu) (by omega)).mono fun r M1 ⟨u1, h1⟩ => ?_
    obtain ⟨u, v, e, hu1, hv1⟩ := opr_view h1
    subst e
    rw [(tp3b _ _ _).1, (tp3b _ _ _).2.1, (tp3b _ _ _).2.2]
    have hlen : ((openF ps[i].1.2.2.1).getD ([], [])).1.length ≤ 4000 := by
      cases hop : openF ps[i].1.2.2.1 with
      | none => simp
      | some pp => exact (openF_len hop).1
    refine (RValue_ok hu1 (by omega)).mono fun r2 M2 ⟨u2, h2⟩ => ?_
    obtain ⟨w, e, hw, _⟩ := runRB_view h2
    subst e
    rw [(tp2b _ _).1, (tp2b _ _).2]
    have u02 := u1.trans u2
    have hu2 := hu.trans u02
    rw [c_fld (Sl.up h.1 hu2) hil (f := 3) (w := tv ps[i].1.2.2.2) rfl]
    rw [cms_drop hil, List.all_cons] at ho
    have next : honF ps[i].1 = true → OP (binI .add (iv (i : Int)) (.int .i64 1)) fun t => P_fettleref10_Honest_1 x0 t M2 Q := by
      intro hh
      show OP (binI .add (iv (i : Int)) (iv 1)) _
      rw [add1_n _ (by omega)]
      exact ih (i + 1) M2 (by omega) hu2 (by rw [← ho, hh, Bool.true_and])
    have no : honF ps[i].1 = false → NTs [(.bool false)] ∧ Q (.bool false) M2 := by
      intro hh
      have hq := hQ M2 hu2
      rw [← ho, hh, Bool.false_and] at hq
      exact ⟨rfl, hq⟩
    show OP (aun .not (.bool ps[i].1.2.2.2)) _
    rw [e_not, BR_bool]
    split
    · rename_i hd
      have hd : ps[i].1.2.2.2 = false := by simpa using hd
      rw [e_not]
      cases hop : openF ps[i].1.2.2.1 with
      | none =>
        rw [show (!(none : Option (List UInt8 × List UInt8)).isSome) = true from rfl, BR3_t]
        exact no (honF_none hd hop)
      | some pp =>
        rw [hop] at hw hv1
        have hf := honF_some hd hop
        rw [show (!(some pp).isSome) = false from rfl, BR3_f, e_not]
        have e1 : ((some pp).getD ([], [])).1 = pp.1 := rfl
        rw [e1] at hw ⊢
        cases hval : valO 4000 256 pp.1 with
        | none =>
          rw [show (!(none : Option (List UInt8)).isSome) = true from rfl, BR3_t]
          exact no (by rw [hf, hval]; simp)
        | some t =>
          rw [hval] at hw
          have hv1 : B M1 v pp.2 := hv1
          have hw : B M2 w t := hw
          rw [show (!(some t).isSome) = false from rfl, BR3_f, cvBS_ok (Sl.up hv1 u2), OP_some, cvBS_ok hw, OP_some]
          show OP (binS .neq (sv pp.2) (sv t)) _
          rw [sv_ne, BR_dec]
          split
          · rename_i hne
            exact no (by rw [hf, hval]; simpa using fun e : t = pp.2 => hne e.symm)
          · rename_i heq
            have heq : pp.2 = t := by simpa using heq
            exact next (by rw [hf, hval, heq]; simp)
    · rename_i hd
      have hd : ps[i].1.2.2.2 = true := by simpa using hd
      exact next (by unfold honF; rw [hd]; rfl)
theorem RHonest_ok {M : Store} (h : CL M x0 ps) (hl : ps.length ≤ 2 ^ 20) (hb : ∀ p ∈ ps, p.1.2.2.1.length ≤ 2 ^ 22) : R F.fettleref10_Honest #[x0] M fun r M' => Up M M' ∧ r = tv ((cms ps).all honF) := by
  refine R.cps fun Q hQ => ?_
  apply T_fettleref10_Honest
  unfold S_fettleref10_Honest
  exact RHon_loop (M0 := M) h hl hb (fun M' hu => hQ _ _ ⟨hu, rfl⟩) ps.length 0 M rfl (Ch.refl _ _) (by rw [List.drop_zero])
end

theorem printF_len4 {l : List Dw} {ins : List (List UInt8)} (h : okA l = true) (h8 : ins.length ≤ 8) (hi : ∀ x ∈ ins, x.length ≤ 256) : (printF l ins).length ≤ 2 ^ 16 := by
  have h1 := actB_ok h
  have h2 := insB_len 256 ins hi
  have h3 : ins.length * (6 + 256) ≤ 8 * (6 + 256) := Nat.mul_le_mul_right _ h8
  unfold printF
  simp only [List.length_append, be_length]; omega

/-! ## a commit of a number -/

theorem bs_c (a : Int) (t : List UInt8) (x : Tr3) : bldS #[(.int .i64 0), (.string ⟨#[]⟩), (.slice none 0 0), (.bool false)] [(0, 1), (1, 1), (2, 1), (3, 1)] [(0, iv a), (1, sv t), (2, slT x)] = some (.agg (ccs ((a, t, [], false), x)).toArray) := by obtain ⟨x1, x2, x3⟩ := x; kernel_rfl
theorem bs_cd (a : Int) (t : List UInt8) : bldS #[(.int .i64 0), (.string ⟨#[]⟩), (.slice none 0 0), (.bool false)] [(0, 1), (1, 1), (2, 1), (3, 1)] [(0, iv a), (1, sv t), (3, (.bool true))] = some (.agg (ccs ((a, t, [], true), (none, 0, 0))).toArray) := by kernel_rfl
theorem bl_do2 (d e : Dw) : bldL (.agg #[(.int .i64 0), (.int .i64 0), (.string ⟨#[]⟩)]) 3 2 [(0, dv d), (1, dv e)] = some (dcs d ++ dcs e) := by obtain ⟨a, b, c⟩ := d; obtain ⟨x, y, z⟩ := e; kernel_rfl
theorem bl_b2 (c d : UInt8) : bldL (.int .u8 0) 1 2 [(0, bv c), (1, bv d)] = some [bv c, bv d] := by kernel_rfl
theorem bl_s2 : bldL (.string ⟨#[]⟩) 1 2 [(0, (.string ⟨#[97]⟩)), (1, (.string ⟨#[98]⟩))] = some ([[97], [98]].map sv) := by kernel_rfl
def abT : List (List UInt8) := [[97], [98]]
/-- A commit that lies in memory. -/
def CmR (M : Store) (r : Value) : Prop := ∃ p : CP, r = .agg (ccs p).toArray ∧ B M (slT p.2) p.1.2.2.1 ∧ p.1.2.2.1.length ≤ 2 ^ 20 ∧ p.1.2.1 ∈ abT
theorem cvId_ok {M0 M : Store} (hu : Up M0 M) {v : Value} {l : List UInt8} (h : N M0 M v l) (hl : l ≠ []) {K : Value → Store → Prop} (hK : ∀ M', Up M0 M' → N M0 M' v l → Keep Ty.uint8 M M' → K v M') : OP2 (cvId v M) K := by
  obtain ⟨h1, ⟨h2, _⟩ | ⟨b, cells, c, rfl, h2, h3, h4, h5, h6⟩⟩ := h
  · exact absurd (List.length_eq_zero_iff.1 h2) hl
  · have hob : Ob M b cells Ty.uint8 := h3
    have e : cvId (.slice (some ⟨b, 0, none⟩) l.length c) M = some (.slice (some ⟨b, 0, none⟩) l.length c, M.set b (some (.inl (cells, Ty.uint8, true)))) := by
      simp only [cvId, h3]
      rw [if_pos (List.length_pos_iff.2 hl)]
    rw [e, OP2_some]
    have c1 : Ch [b] M (M.set b (some (.inl (cells, Ty.uint8, true)))) := Ch.setO hob _
    refine hK _ (hu.ch c1 (by simpa using h2)) ⟨h1, .inr ⟨b, cells, c, rfl, h2, hob.setSt _, h4, h5, h6⟩⟩ (c1.keepT hob)
section
variable {M0 : Store} {b : Nat} {n : Int} {Q : Value → Store → Prop}
theorem commit2 {M : Store} {c0 : List Value} (hb0 : M0.n ≤ b) (hu : Up M0 M) (o : Ob M b c0 Ty.api_Commit) (hc : c0.length = 4) {x : Tr3} {t : List UInt8} (hx : B M (slT x) t) (ht : t.length ≤ 2 ^ 20) (hQ : ∀ r M, Up M0 M → CmR M r → Q r M) :
    P_fettlelaw25_Commit_2 (iv n) (pt b) (slT x) M Q := by
  apply T_fettlelaw25_Commit_2
  unfold S_fettlelaw25_Commit_2
  show OP (binI .shr (.int .i64 n) (.int .u64 ((4 : Nat) : Int))) _
  rw [e_shrN n 4 (by decide)]
  show OP (binI .and (.int .i64 (shrN n 4)) (.int .i64 ((1 : Nat) : Int))) _
  rw [e_andN _ 1 (by decide), OP_some, bl_s2, OP_some]
  refine s_lit (s := 1) (n := 2) rfl fun M1 u1 g1 _ _ => ?_
  have g1 : LV sv Ty.string M1 (.slice (some ⟨M.n, 0, none⟩) 2 2) abT := g1.sl
  show OP (binI .shr (.int .i64 n) (.int .u64 ((5 : Nat) : Int))) _
  rw [e_shrN n 5 (by decide)]
  show OP (binI .and (.int .i64 (shrN n 5)) (.int .i64 ((1 : Nat) : Int))) _
  rw [e_andN _ 1 (by decide), OP_some]
  have hj : andN (shrN n 5) 1 < abT.length := by have := andN_le (shrN n 5) 1 (by decide); show _ < 2; omega
  obtain ⟨p, e1, e2⟩ := g1.at hj .i64
  rw [e1, OP_some, e2, OP_some]
  have hm := List.getElem_mem hj
  generalize abT[andN (shrN n 5) 1] = tg at *
  rw [bs_c, OP_some]
  refine s_st (vs := ccs (((andN (shrN n 4) 1 : Int), tg, [], false), x)) (o.up u1) hc rfl (ccs_one _) fun M2 c2 o2 _ => ?_
  rw [o2.ldA (s := 4) rfl, OP_some]
  have hB : B M2 (slT x) t := Sl.keep (Sl.up hx u1) (by decide) (c2.keepT (o.up u1))
  refine ⟨rfl, hQ _ _ ((hu.trans u1).ch c2 (by simpa using hb0)) ⟨(((andN (shrN n 4) 1 : Int), tg, t, false), x), rfl, hB, ht, hm⟩⟩
end
theorem slT_of {M : Store} {v : Value} {l : List UInt8} (h : B M v l) : ∃ x : Tr3, v = slT x := by
  obtain ⟨a, c, rfl⟩ := h.slice
  exact ⟨(a, l.length, c), rfl⟩
theorem Commit_ok {M : Store} (n : Int) : R F.fettlelaw25_Commit #[iv n] M fun r M' => Up M M' ∧ CmR M' r := by
  refine R.cps fun Q hQ => ?_
  apply T_fettlelaw25_Commit
  unfold S_fettlelaw25_Commit
  refine s_new fun M1 u1 o1 _ => ?_
  show OP (binI .and (.int .i64 n) (.int .i64 ((15 : Nat) : Int))) _
  rw [e_andN n 15 (by decide), OP_some, eql_l 15 15 rfl, BR_dec]
  split
  · show OP (binI .shr (.int .i64 n) (.int .u64 ((4 : Nat) : Int))) _
    rw [e_shrN n 4 (by decide)]
    show OP (binI .and (.int .i64 (shrN n 4)) (.int .i64 ((1 : Nat) : Int))) _
    rw [e_andN _ 1 (by decide), OP_some, bl_s2, OP_some]
    refine s_lit (s := 1) (n := 2) rfl fun M2 u2 g2 _ _ => ?_
    have g2 : LV sv Ty.string M2 (.slice (some ⟨M1.n, 0, none⟩) 2 2) abT := g2.sl
    show OP (binI .shr (.int .i64 n) (.int .u64 ((5 : Nat) : Int))) _
    rw [e_shrN n 5 (by decide)]
    show OP (binI .and (.int .i64 (shrN n 5)) (.int .i64 ((1 : Nat) : Int))) _
    rw [e_andN _ 1 (by decide), OP_some]
    have hj : andN (shrN n 5) 1 < abT.length := by have := andN_le (shrN n 5) 1 (by decide); show _ < 2; omega
    obtain ⟨p, e1, e2⟩ := g2.at hj .i64
    rw [e1, OP_some, e2, OP_some]
    have hm := List.getElem_mem hj
    generalize abT[andN (shrN n 5) 1] = tg at *
    rw [bs_cd, OP_some]
    refine s_st (vs := ccs (((andN (shrN n 4) 1 : Int), tg, [], true), (none, 0, 0))) (o1.up u2) rfl rfl (ccs_one _) fun M3 c3 o3 _ => ?_
    rw [o3.ldA (s := 4) rfl, OP_some]
    exact ⟨rfl, hQ _ _ ⟨(u1.trans u2).ch c3 (by simp), (((andN (shrN n 4) 1 : Int), tg, [], true), (none, 0, 0)), rfl, Sl.nil _ _ _, by simp, hm⟩⟩
  · rw [bs_do, OP_some, bs_do, OP_some]
    rw [show bldL (.agg #[(.int .i64 0), (.int .i64 0), (.string ⟨#[]⟩)]) 3 2 [(0, .agg [iv 3, iv 0, sv []].toArray), (1, .agg [iv 6, iv 0, sv []].toArray)] = some (dcs (3, 0, []) ++ dcs (6, 0, [])) from bl_do2 (3, 0, []) (6, 0, []), OP_some]
    refine s_lit (s := 3) (n := 2) rfl fun M4 u4 g4 _ _ => ?_
    have g4 : DS M4 (.slice (some ⟨M1.n, 0, none⟩) 2 2) [(3, 0, []), (6, 0, [])] := g4.sl
    show OP (binI .shr (.int .i64 n) (.int .u64 ((6 : Nat) : Int))) _
    rw [e_shrN n 6 (by decide)]
    show OP (binI .and (.int .i64 (shrN n 6)) (.int .i64 ((1 : Nat) : Int))) _
    rw [e_andN _ 1 (by decide), OP_some, e_add, cv_u8N]
    generalize u8N _ = ca
    show OP (binI .shr (.int .i64 n) (.int .u64 ((7 : Nat) : Int))) _
    rw [e_shrN n 7 (by decide)]
    show OP (binI .and (.int .i64 (shrN n 7)) (.int .i64 ((1 : Nat) : Int))) _
    rw [e_andN _ 1 (by decide), OP_some, e_add, cv_u8N]
    generalize u8N _ = cb
    rw [bl_b2, OP_some]
    refine s_lit (s := 1) (n := 2) rfl fun M5 u5 g5 _ _ => ?_
    have g5 : B M5 (.slice (some ⟨M4.n, 0, none⟩) 2 2) [ca, cb] := g5.sl
    rw [bl_sl1]
    refine s_lit (s := 1) (n := 1) rfl fun M6 u6 g6 _ _ => ?_
    have hL : BL M6 (.slice (some ⟨M5.n, 0, none⟩) 1 1) [[ca, cb]] := ⟨_, g6.sl, Sl.up g5 u6, trivial⟩
    have hD := Sl.up g4 (u5.trans u6)
    refine (RPrint_ok hD (by simp) (by simp) hL (by simp) (by simp)).mono fun t35 M7 ⟨u7, h7⟩ => ?_
    have hok : okA [((3 : Int), (0 : Int), []), (6, 0, [])] = true := by kernel_rfl
    have hpl := printF_len4 hok (ins := [[ca, cb]]) (by simp) (by simp)
    refine (RValue_ok h7.by (by omega)).mono fun r8 M8 ⟨u8, h8⟩ => ?_
    obtain ⟨w8, e8, hw8, hwl⟩ := runRB_view h8
    subst e8
    rw [(tp2b _ _).1, (tp2b _ _).2]
    show OP (binI .and (.int .i64 n) (.int .i64 ((15 : Nat) : Int))) _
    rw [e_andN n 15 (by decide), OP_some]
    have u16 : Up M1 M6 := (u4.trans u5).trans u6
    have u18 : Up M1 M8 := (u16.trans u7).trans u8
    have h7' : B M8 t35 (printF [((3 : Int), (0 : Int), []), (6, 0, [])] [[ca, cb]]) := Sl.up h7.by u8
    generalize printF [((3 : Int), (0 : Int), []), (6, 0, [])] [[ca, cb]] = pr at *
    have one : ∀ (M9 : Store) (x4 : Value) (val : List UInt8), Up M1 M9 → B M9 t35 pr → B M9 x4 val → val.length ≤ 256 → P_fettlelaw25_Commit_1 (iv n) (pt M.n) t35 x4 M9 Q := by
      intro M9 x4 val u9 hp hv hvl
      apply T_fettlelaw25_Commit_1
      unfold S_fettlelaw25_Commit_1
      refine (RMake_ok hp hv (by omega) (by omega)).mono fun t48 M10 ⟨u10, h10⟩ => ?_
      have u0a : Up M M10 := (u1.trans u9).trans u10
      have o10 := o1.up (u9.trans u10)
      show OP (binI .and (.int .i64 n) (.int .i64 ((15 : Nat) : Int))) _
      rw [e_andN n 15 (by decide), OP_some, eql_l 13 13 rfl, BR_dec]
      split
      · rw [show bldL (.int .u8 0) 1 4 [(0, (.int .u8 110)), (1, (.int .u8 111)), (2, (.int .u8 110)), (3, (.int .u8 101))] = some ([110, 111, 110, 101].map bv) from by kernel_rfl, OP_some]
        refine s_lit (s := 1) (n := 4) rfl fun M11 u11 g11 _ _ => ?_
        have g11 : N M10 M11 (.slice (some ⟨M10.n, 0, none⟩) 4 4) [110, 111, 110, 101] := g11
        refine cvId_ok u11 g11 (by simp) fun M12 u12 h12 _ => ?_
        exact commit2 (M0 := M) (x := (some ⟨M10.n, 0, none⟩, 4, 4)) (Nat.le_refl _) (u0a.trans u12) (o10.up u12) rfl h12.by (by simp) fun r M' hu hr => hQ _ _ ⟨hu, hr⟩
      · obtain ⟨x, rfl⟩ := slT_of h10.by
        refine commit2 (M0 := M) (Nat.le_refl _) u0a o10 rfl h10.by ?_ fun r M' hu hr => hQ _ _ ⟨hu, hr⟩
        rw [makeF_length]; omega
    rw [eql_l 14 14 rfl, BR_dec]
    split
    · rw [show bldL (.int .u8 0) 1 3 [(0, (.int .u8 108)), (1, (.int .u8 105)), (2, (.int .u8 101))] = some ([108, 105, 101].map bv) from by kernel_rfl, OP_some]
      refine s_lit (s := 1) (n := 3) rfl fun M11 u11 g11 _ _ => ?_
      have g11 : N M8 M11 (.slice (some ⟨M8.n, 0, none⟩) 3 3) [108, 105, 101] := g11
      refine cvId_ok u11 g11 (by simp) fun M12 u12 h12 _ => ?_
      exact one M12 _ _ (u18.trans u12) (Sl.up h7' u12) h12.by (by simp)
    · exact one M8 w8 _ u18 h7' hw8 hwl
end Go.G
