/- Layer 25: what was when, by the program and by the document. -/
import Derived.Test.YtpacolplhcfamaaPY10c
import Derived.Test.YtpacolplhcfamaaPY25
import Derived.Test.YtpacolplhcfamaaPGH
namespace Go.G
open Go.Ab Go.Proofs Go.RowKit
set_option linter.unusedVariables false
set_option linter.unusedSimpArgs false
set_option maxRecDepth 100000

/-- Where bytes lie. -/
abbrev Tr3 := Option Addr × Nat × Nat
def slT (t : Tr3) : Value := .slice t.1 t.2.1 t.2.2
abbrev CP := Cm × Tr3
abbrev DQ := Dm × Tr3
def ccs (p : CP) : List Value := [iv p.1.1, sv p.1.2.1, slT p.2, tv p.1.2.2.2]
def qcs (p : DQ) : List Value := [sv p.1.1, iv p.1.2.1, iv p.1.2.2.1, slT p.2]
theorem ccs_len (p : CP) : (ccs p).length = 4 := rfl
theorem qcs_len (p : DQ) : (qcs p).length = 4 := rfl
theorem ccs_one (p : CP) : (ccs p).all (·.oneCell') = true := by obtain ⟨⟨a, b, c, d⟩, x, y, z⟩ := p; kernel_rfl
theorem qcs_one (p : DQ) : (qcs p).all (·.oneCell') = true := by obtain ⟨⟨a, b, c, d⟩, x, y, z⟩ := p; kernel_rfl
theorem ccs_box (p : CP) : boxv (.agg (ccs p).toArray) = some (ccs p) := by obtain ⟨⟨a, b, c, d⟩, x, y, z⟩ := p; kernel_rfl
theorem qcs_box (p : DQ) : boxv (.agg (qcs p).toArray) = some (qcs p) := by obtain ⟨⟨a, b, c, d⟩, x, y, z⟩ := p; kernel_rfl
def CB (M : Store) (ps : List CP) : Prop := ∀ p ∈ ps, B M (slT p.2) p.1.2.2.1
def QB (M : Store) (ps : List DQ) : Prop := ∀ p ∈ ps, B M (slT p.2) p.1.2.2.2
theorem CB.up {M M' : Store} {ps : List CP} (h : CB M ps) (k : Up M M') : CB M' ps := fun p hp => Sl.up (h p hp) k
theorem QB.up {M M' : Store} {ps : List DQ} (h : QB M ps) (k : Up M M') : QB M' ps := fun p hp => Sl.up (h p hp) k
/-- Commits, told ones: what lies in memory. -/
def CL (M : Store) (v : Value) (ps : List CP) : Prop := LK 4 ccs Ty.api_Commit M v ps ∧ CB M ps
def QL (M : Store) (v : Value) (ps : List DQ) : Prop := LK 4 qcs Ty.api_Done M v ps ∧ QB M ps
theorem CL.up {M M' : Store} {v : Value} {ps : List CP} (h : CL M v ps) (k : Up M M') : CL M' v ps := ⟨Sl.up h.1 k, h.2.up k⟩
theorem QL.up {M M' : Store} {v : Value} {ps : List DQ} (h : QL M v ps) (k : Up M M') : QL M' v ps := ⟨Sl.up h.1 k, h.2.up k⟩
theorem c_ld {M : Store} {v : Value} {ps : List CP} (h : LK 4 ccs Ty.api_Commit M v ps) {i : Nat} (hi : i < ps.length) (K : Value → Prop) : (OP (ixA 4 v (iv (i : Int))) fun p => OP (ld 4 true p M) K) = K (.agg (ccs ps[i]).toArray) := by
  obtain ⟨p, e1, e2⟩ := LK.at ccs_len h hi .i64
  show (OP (ixA 4 v (.int .i64 (i : Int))) fun p => OP (ld 4 true p M) K) = _
  rw [e1, OP_some, e2 true]; rfl
theorem c_fld {M : Store} {v : Value} {ps : List CP} (h : LK 4 ccs Ty.api_Commit M v ps) {i : Nat} (hi : i < ps.length) {f : Nat} {w : Value} (hf : (ccs ps[i])[f]? = some w) (K : Value → Prop) : (OP (ixA 4 v (iv (i : Int))) fun p => OP (fad f p) fun p => OP (ld 1 false p M) K) = K w := by
  obtain ⟨b, o, e1, e2⟩ := LK.fld ccs_len h hi hf .i64
  show (OP (ixA 4 v (.int .i64 (i : Int))) fun p => OP (fad f p) fun p => OP (ld 1 false p M) K) = _
  rw [e1, OP_some, e_fad, e2, OP_some]
theorem q_ld {M : Store} {v : Value} {ps : List DQ} (h : LK 4 qcs Ty.api_Done M v ps) {i : Nat} (hi : i < ps.length) (K : Value → Prop) : (OP (ixA 4 v (iv (i : Int))) fun p => OP (ld 4 true p M) K) = K (.agg (qcs ps[i]).toArray) := by
  obtain ⟨p, e1, e2⟩ := LK.at qcs_len h hi .i64
  show (OP (ixA 4 v (.int .i64 (i : Int))) fun p => OP (ld 4 true p M) K) = _
  rw [e1, OP_some, e2 true]; rfl
theorem q_fld {M : Store} {v : Value} {ps : List DQ} (h : LK 4 qcs Ty.api_Done M v ps) {i : Nat} (hi : i < ps.length) {f : Nat} {w : Value} (hf : (qcs ps[i])[f]? = some w) (K : Value → Prop) : (OP (ixA 4 v (iv (i : Int))) fun p => OP (fad f p) fun p => OP (ld 1 false p M) K) = K w := by
  obtain ⟨b, o, e1, e2⟩ := LK.fld qcs_len h hi hf .i64
  show (OP (ixA 4 v (.int .i64 (i : Int))) fun p => OP (fad f p) fun p => OP (ld 1 false p M) K) = _
  rw [e1, OP_some, e_fad, e2, OP_some]
def cms (ps : List CP) : List Cm := ps.map (·.1)
def dms (ps : List DQ) : List Dm := ps.map (·.1)
theorem cms_drop {ps : List CP} {i : Nat} (h : i < ps.length) : cms (ps.drop i) = ps[i].1 :: cms (ps.drop (i + 1)) := by
  unfold cms; rw [List.drop_eq_getElem_cons h, List.map_cons]
theorem dms_drop {ps : List DQ} {i : Nat} (h : i < ps.length) : dms (ps.drop i) = ps[i].1 :: dms (ps.drop (i + 1)) := by
  unfold dms; rw [List.drop_eq_getElem_cons h, List.map_cons]
theorem cms_take {ps : List CP} {i : Nat} (h : i < ps.length) : cms (ps.take (i + 1)) = cms (ps.take i) ++ [ps[i].1] := by
  unfold cms; rw [List.take_succ_eq_append_getElem h, List.map_append]; rfl

/-! ## what was last -/
def LastR (M : Store) (r : Value) (o : Option (List UInt8)) : Prop := ∃ w t, r = .tuple #[w, tv o.isSome] ∧ B M w t ∧ ∀ x, o = some x → t = x
section
variable {M : Store} {v : Value} {ps : List CP} {t : List UInt8} {o : Option (List UInt8)} {Q : Value → Store → Prop}
theorem Last_loop (h : CL M v ps) (hl : ps.length ≤ 2 ^ 20) (hb : ∀ p ∈ ps, p.1.2.2.1.length ≤ 2 ^ 22) (hQ : ∀ r M', Up M M' → LastR M' r o → Q r M') : ∀ (j : Nat), j ≤ ps.length → lastF t (cms (ps.take j)) = o → P_hist_Last_1 v (sv t) (iv ((j : Int) - 1)) M Q := by
  have none_ : o = none → NTs [(.slice none 0 0), (.bool false)] ∧ Q (.tuple #[(.slice none 0 0), (.bool false)]) M := fun e => ⟨rfl, hQ _ _ (Ch.refl _ _) ⟨_, [], by rw [e]; rfl, Sl.nil _ _ _, fun x hx => by rw [e] at hx; cases hx⟩⟩
  intro j
  induction j with
  | zero =>
    intro hj ho
    apply T_hist_Last_1
    unfold S_hist_Last_1
    show OP (binI .geq (.int .i64 ((0 : Nat) - 1 : Int)) (.int .i64 0)) _
    rw [e_geq, BR_dec, if_neg (by omega)]
    apply T_hist_Last_3
    unfold S_hist_Last_3
    exact none_ (by rw [← ho]; rfl)
  | succ j ih =>
    intro hj ho
    have hjl : j < ps.length := by omega
    apply T_hist_Last_1
    unfold S_hist_Last_1
    have e : (((j + 1 : Nat) : Int) - 1) = (j : Int) := by omega
    rw [e]
    show OP (binI .geq (.int .i64 (j : Int)) (.int .i64 0)) _
    rw [e_geq, BR_dec, if_pos (by omega)]
    apply T_hist_Last_2
    unfold S_hist_Last_2
    rw [c_fld h.1 hjl (f := 1) (w := sv ps[j].1.2.1) rfl, sv_ne, BR_dec]
    rw [cms_take hjl, lastF_snoc] at ho
    unfold lastS at ho
    split
    · rename_i hne
      rw [if_neg hne] at ho
      show OP (binI .sub (.int .i64 (j : Int)) (.int .i64 1)) _
      rw [e_sub, w64 (by omega) (by omega)]
      exact ih (by omega) ho
    · rename_i heq
      rw [if_pos (Decidable.not_not.1 heq)] at ho
      apply T_hist_Last_4
      unfold S_hist_Last_4
      rw [c_fld h.1 hjl (f := 3) (w := tv ps[j].1.2.2.2) rfl, BR_bool]
      split
      · rename_i hd
        rw [if_pos hd] at ho
        exact none_ ho.symm
      · rename_i hd
        rw [if_neg hd] at ho
        rw [c_fld h.1 hjl (f := 2) (w := slT ps[j].2) rfl]
        have hm := List.getElem_mem hjl
        refine (Clone_ok (h.2 _ hm) (by have := hb _ hm; omega)).mono fun w M1 ⟨u1, h1⟩ => ?_
        refine ⟨by obtain ⟨a, c, rfl⟩ := h1.sl.slice; rfl, hQ _ _ u1 ⟨w, _, by rw [← ho]; rfl, h1.by, fun x hx => by rw [← ho] at hx; injection hx⟩⟩
theorem RLast_loop (h : CL M v ps) (hl : ps.length ≤ 2 ^ 20) (hQ : ∀ r M', Up M M' → LastR M' r o → Q r M') : ∀ (j : Nat), j ≤ ps.length → lastF t (cms (ps.take j)) = o → P_fettleref10_Last_1 v (sv t) (iv ((j : Int) - 1)) M Q := by
  intro j
  induction j with
  | zero =>
    intro hj ho
    apply T_fettleref10_Last_1
    unfold S_fettleref10_Last_1
    show OP (binI .geq (.int .i64 ((0 : Nat) - 1 : Int)) (.int .i64 0)) _
    rw [e_geq, BR_dec, if_neg (by omega)]
    apply T_fettleref10_Last_3
    unfold S_fettleref10_Last_3
    have e : o = none := by rw [← ho]; rfl
    exact ⟨rfl, hQ _ _ (Ch.refl _ _) ⟨_, [], by rw [e]; rfl, Sl.nil _ _ _, fun x hx => by rw [e] at hx; cases hx⟩⟩
  | succ j ih =>
    intro hj ho
    have hjl : j < ps.length := by omega
    apply T_fettleref10_Last_1
    unfold S_fettleref10_Last_1
    have e : (((j + 1 : Nat) : Int) - 1) = (j : Int) := by omega
    rw [e]
    show OP (binI .geq (.int .i64 (j : Int)) (.int .i64 0)) _
    rw [e_geq, BR_dec, if_pos (by omega)]
    apply T_fettleref10_Last_2
    unfold S_fettleref10_Last_2
    rw [c_fld h.1 hjl (f := 1) (w := sv ps[j].1.2.1) rfl, sv_eq, BR_dec]
    rw [cms_take hjl, lastF_snoc] at ho
    unfold lastS at ho
    split
    · rename_i heq
      rw [if_pos heq] at ho
      rw [c_fld h.1 hjl (f := 2) (w := slT ps[j].2) rfl, c_fld h.1 hjl (f := 3) (w := tv ps[j].1.2.2.2) rfl]
      show OP (aun .not (.bool ps[j].1.2.2.2)) _
      rw [e_not]
      have hB := h.2 _ (List.getElem_mem hjl)
      refine ⟨rfl, hQ _ _ (Ch.refl _ _) ⟨slT ps[j].2, _, ?_, hB, fun x hx => ?_⟩⟩
      · rw [← ho]
        cases ps[j].1.2.2.2 <;> rfl
      · rw [← ho] at hx
        split at hx
        · cases hx
        · injection hx
    · rename_i hne
      rw [if_neg hne] at ho
      show OP (binI .sub (.int .i64 (j : Int)) (.int .i64 1)) _
      rw [e_sub, w64 (by omega) (by omega)]
      exact ih (by omega) ho
end
theorem Last_ok {M : Store} {v : Value} {ps : List CP} (t : List UInt8) (h : CL M v ps) (hl : ps.length ≤ 2 ^ 20) (hb : ∀ p ∈ ps, p.1.2.2.1.length ≤ 2 ^ 22) : R F.hist_Last #[v, sv t] M fun r M' => Up M M' ∧ LastR M' r (lastF t (cms ps)) := by
  refine R.cps fun Q hQ => ?_
  apply T_hist_Last
  unfold S_hist_Last
  rw [LK.len h.1, OP_some]
  show OP (binI .sub (.int .i64 (ps.length : Int)) (.int .i64 1)) _
  rw [e_sub, w64 (by omega) (by omega)]
  exact Last_loop h hl hb (fun r M' hu hr => hQ _ _ ⟨hu, hr⟩) ps.length (Nat.le_refl _) (by rw [List.take_length])
theorem RLast_ok {M : Store} {v : Value} {ps : List CP} (t : List UInt8) (h : CL M v ps) (hl : ps.length ≤ 2 ^ 20) : R F.fettleref10_Last #[v, sv t] M fun r M' => Up M M' ∧ LastR M' r (lastF t (cms ps)) := by
  refine R.cps fun Q hQ => ?_
  apply T_fettleref10_Last
  unfold S_fettleref10_Last
  rw [LK.len h.1, OP_some]
  show OP (binI .sub (.int .i64 (ps.length : Int)) (.int .i64 1)) _
  rw [e_sub, w64 (by omega) (by omega)]
  exact RLast_loop h hl (fun r M' hu hr => hQ _ _ ⟨hu, hr⟩) ps.length (Nat.le_refl _) (by rw [List.take_length])

/-! ## whether what is told is a commit -/
theorem opn_view {M0 M : Store} {r : Value} {o : Option (List UInt8 × List UInt8)} (h : Opn M0 M r o) : ∃ u v, r = .tuple #[u, v, .bool o.isSome] ∧ B M u (o.getD ([], [])).1 ∧ B M v (o.getD ([], [])).2 := by
  obtain ⟨u, v, M1, e, _, h2, h3, _⟩ := h; exact ⟨u, v, e, h2.by, h3.by⟩
theorem openF_len {l : List UInt8} {p : List UInt8 × List UInt8} (h : openF l = some p) : p.1.length ≤ 4000 ∧ p.2.length ≤ 256 := by
  unfold openF at h
  obtain ⟨x, _, h⟩ := Option.bind_eq_some_iff.1 h
  obtain ⟨⟨a, b⟩, h1, h⟩ := Option.bind_eq_some_iff.1 h
  obtain ⟨⟨c, d⟩, h2, h⟩ := Option.bind_eq_some_iff.1 h
  simp only at h2 h
  split at h
  · injection h with h; subst h
    exact ⟨(rdBytes_some h1).2, (rdBytes_some h2).2⟩
  · cases h
theorem tells_ok {M : Store} {q : DQ} {p : CP} (hq : B M (slT q.2) q.1.2.2.2) (hp : B M (slT p.2) p.1.2.2.1) (hb : p.1.2.2.1.length ≤ 2 ^ 22) : R F.hist_tells #[.agg (qcs q).toArray, .agg (ccs p).toArray] M fun r M' => Up M M' ∧ r = tv (tellsF q.1 p.1) := by
  refine R.cps fun Q hQ => ?_
  apply T_hist_tells
  unfold S_hist_tells
  rw [qcs_box, OP_some]
  refine s_new fun M1 u1 o1 _ => ?_
  rw [ccs_box, OP_some]
  refine s_new fun M2 u2 o2 _ => ?_
  obtain ⟨⟨t, w, inc, pr⟩, qa⟩ := q
  obtain ⟨⟨who, tg, by_, dr⟩, pa⟩ := p
  have o1' : Ob M2 M.n [sv t, iv w, iv inc, slT qa] Ty.api_Done := o1.up u2
  have o2' : Ob M2 M1.n [iv who, sv tg, slT pa, tv dr] Ty.api_Commit := o2
  simp only at hq hp hb
  simp only [fad0, o2'.l4]
  refine (Open_ok (Sl.up hp (u1.trans u2)) (by omega)).mono fun r M3 ⟨u3, h3⟩ => ?_
  obtain ⟨u, v, e, hu, hv⟩ := opn_view h3
  subst e
  have o1'' := o1'.up u3
  have o2'' := o2'.up u3
  have u03 : Up M M3 := (u1.trans u2).trans u3
  rw [(tp3b _ _ _).1, (tp3b _ _ _).2.1, (tp3b _ _ _).2.2, BR_bool]
  have no : tellsF (t, w, inc, pr) (who, tg, by_, dr) = false → ∀ M', Up M M' → NTs [(.bool false)] ∧ Q (.bool false) M' := fun e M' hu' => ⟨rfl, hQ _ _ ⟨hu', by simp only; rw [e]⟩⟩
  split
  · rename_i hs
    cases ho : openF by_ with
    | none => rw [ho] at hs; cases hs
    | some pp =>
      rw [ho] at hu
      have htf : tellsF (t, w, inc, pr) (who, tg, by_, dr) = (!dr && (decide (t = tg) && (decide (w = who) && decide (pr = pp.1)))) := by unfold tellsF; simp only; rw [ho]
      simp only [o2''.l4, o1''.l4]
      show OP (aun .not (.bool dr)) _
      rw [e_not, BR_bool]
      split
      · rename_i hd
        have hd : dr = false := by simpa using hd
        subst hd
        rw [sv_eq, BR_dec]
        split
        · rename_i ht
          show OP (binI .eql (.int .i64 w) (.int .i64 who)) _
          rw [e_eql, BR_dec]
          split
          · rename_i hw
            refine (bEqual_ok (Sl.up hq u03) hu).mono fun r4 M4 ⟨e4, e5⟩ => ?_
            subst e4; subst e5
            refine ⟨rfl, hQ _ _ ⟨u03, ?_⟩⟩
            simp only; rw [htf, decide_eq_true ht, decide_eq_true hw]; simp
          · rename_i hw
            exact no (by rw [htf, decide_eq_false hw]; simp) M3 u03
        · rename_i ht
          exact no (by rw [htf, decide_eq_false ht]; simp) M3 u03
      · rename_i hd
        exact no (by have : dr = true := by simpa using hd
                     rw [htf, this]; rfl) M3 u03
  · rename_i hs
    cases ho : openF by_ with
    | none => exact no (by unfold tellsF; simp only; rw [ho]) M3 u03
    | some pp => rw [ho] at hs; exact absurd rfl hs

/-! ## a part of the commits -/
section
variable {M0 : Store} {x7 : Value} {ps : List CP} {o : Bool} {Q : Value → Store → Prop}
theorem With_loop (h : CL M0 x7 ps) (hl : ps.length ≤ 2 ^ 20) (hb : ∀ p ∈ ps, p.1.2.2.1.length ≤ 2 ^ 22) (hQ : ∀ M, Up M0 M → Q (tv o) M) : ∀ (k i : Nat) (x0 : Value) (ds : List DQ) (M : Store), k + i = ps.length → Up M0 M → QL M x0 ds → ds.length ≤ 2 ^ 20 → withF (dms ds) (cms (ps.drop i)) = o → P_hist_Within_1 x0 x7 (iv (ps.length : Int)) (iv (i : Int)) M Q := by
  intro k
  induction k with
  | zero =>
    intro i x0 ds M hi hu hd hdl ho
    apply T_hist_Within_1
    unfold S_hist_Within_1
    rw [lss_n, BR_dec, if_neg (by omega)]
    apply T_hist_Within_3
    unfold S_hist_Within_3
    rw [LK.len hd.1, OP_some]
    show OP (binI .eql (iv (ds.length : Int)) (.int .i64 0)) _
    rw [eql_l 0 0 rfl]
    refine ⟨rfl, ?_⟩
    rw [List.drop_of_length_le (by omega)] at ho
    have : o = decide (ds.length = 0) := by
      rw [← ho]
      cases ds with
      | nil => rfl
      | cons _ _ => rfl
    rw [← this]
    exact hQ M hu
  | succ k ih =>
    intro i x0 ds M hi hu hd hdl ho
    have hil : i < ps.length := by omega
    apply T_hist_Within_1
    unfold S_hist_Within_1
    rw [lss_n, BR_dec, if_pos hil]
    apply T_hist_Within_2
    unfold S_hist_Within_2
    rw [c_ld (Sl.up h.1 hu) hil]
    have hm := List.getElem_mem hil
    have hbl := hb _ hm
    have hpB := Sl.up (h.2 _ hm) hu
    rw [cms_drop hil] at ho
    generalize ps[i] = p at *
    refine s_new fun M1 u1 o1 _ => ?_
    refine s_st (vs := ccs p) o1 rfl rfl (ccs_one _) fun M2 c2 o2 _ => ?_
    have u02 : Up M M2 := u1.ch c2 (by simp)
    have hd2 := hd.up u02
    rw [LK.len hd2.1, OP_some]
    show OP (binI .gtr (iv (ds.length : Int)) (.int .i64 0)) _
    rw [gtr_l 0 0 rfl, BR_dec]
    split
    · rename_i hpos
      cases ds with
      | nil => simp at hpos
      | cons q ds =>
        have h0 := q_ld hd2.1 (i := 0) (by simp)
        have h0 : ∀ K : Value → Prop, (OP (ixA 4 x0 (.int .i64 0)) fun p => OP (ld 4 true p M2) K) = K (.agg (qcs q).toArray) := h0
        rw [h0, o2.ldA (s := 4) rfl, OP_some]
        refine (tells_ok (q := q) (p := p) (hd2.2 q (by simp)) (Sl.up hpB u02) hbl).mono fun r3 M3 ⟨u3, e3⟩ => ⟨u3.tdx _ _ _, ?_⟩
        subst e3
        have ho : (if tellsF q.1 p.1 = true then withF (dms ds) (cms (ps.drop (i + 1))) else withF (q.1 :: dms ds) (cms (ps.drop (i + 1)))) = o := ho
        have u03 := u02.trans u3
        rw [BR_bool]
        split
        · rename_i ht
          rw [if_pos ht] at ho
          have hd3 := hd2.up u3
          obtain ⟨v', e, hL⟩ := LK.cut qcs_len hd3.1 (lo := some (iv ((1 : Nat) : Int))) (hi := none) (a := 1) (r := (q :: ds).length) rfl (ab_some (by simp) .i64) (Nat.le_refl _) (by simp)
          have e : slV 4 Ty.api_Done x0 (some (.int .i64 1)) none M3 = some v' := e
          rw [e, OP_some, add1_n _ (by omega)]
          rw [List.take_length, List.drop_succ_cons, List.drop_zero] at hL
          exact ih (i + 1) v' ds M3 (by omega) (hu.trans u03) ⟨hL, fun x hx => hd3.2 x (by simp [hx])⟩ (by simp at hdl; omega) ho
        · rename_i ht
          rw [if_neg ht] at ho
          rw [add1_n _ (by omega)]
          exact ih (i + 1) x0 (q :: ds) M3 (by omega) (hu.trans u03) (hd2.up u3) hdl ho
    · rename_i hpos
      cases ds with
      | cons q ds => simp at hpos
      | nil =>
        rw [add1_n _ (by omega)]
        refine ih (i + 1) x0 [] M2 (by omega) (hu.trans u02) hd2 hdl ?_
        rw [← ho]
        show withF [] _ = withF [] _
        rw [withF_nil, withF_nil]
theorem Within_ok {M : Store} {x0 x1 : Value} {ds : List DQ} {ps : List CP} (hd : QL M x0 ds) (h : CL M x1 ps) (hdl : ds.length ≤ 2 ^ 20) (hl : ps.length ≤ 2 ^ 20) (hb : ∀ p ∈ ps, p.1.2.2.1.length ≤ 2 ^ 22) : R F.hist_Within #[x0, x1] M fun r M' => Up M M' ∧ r = tv (withF (dms ds) (cms ps)) := by
  refine R.cps fun Q hQ => ?_
  apply T_hist_Within
  unfold S_hist_Within
  rw [LK.len h.1, OP_some]
  exact With_loop (M0 := M) h hl hb (fun M' hu => hQ _ _ ⟨hu, rfl⟩) ps.length 0 x0 ds M rfl (Ch.refl _ _) hd hdl (by rw [List.drop_zero])
theorem opr_view {M : Store} {r : Value} {o : Option (List UInt8 × List UInt8)} (h : Opr M r o) : ∃ u v, r = .tuple #[u, v, .bool o.isSome] ∧ B M u (o.getD ([], [])).1 ∧ B M v (o.getD ([], [])).2 := h
theorem RWith_loop {x0 : Value} {ds : List DQ} (hd : QL M0 x0 ds) (hdl : ds.length ≤ 2 ^ 20) (h : CL M0 x7 ps) (hl : ps.length ≤ 2 ^ 20) (hb : ∀ p ∈ ps, p.1.2.2.1.length ≤ 2 ^ 22) (hQ : ∀ M, Up M0 M → Q (tv o) M) :
    ∀ (n k : Nat), n + k = ps.length → ∀ (i : Nat) (M : Store), Up M0 M → i ≤ ds.length → withF (dms (ds.drop i)) (cms (ps.drop k)) = o → P_fettleref10_Within_1 x0 x7 (iv (k : Int)) (iv (i : Int)) M Q ∧ (i < ds.length → P_fettleref10_Within_2 x0 x7 (iv (k : Int)) (iv (i : Int)) M Q) := by
  have one : ∀ (k i : Nat) (M : Store), k ≤ ps.length → Up M0 M → i ≤ ds.length → withF (dms (ds.drop i)) (cms (ps.drop k)) = o → (i < ds.length → P_fettleref10_Within_2 x0 x7 (iv (k : Int)) (iv (i : Int)) M Q) → P_fettleref10_Within_1 x0 x7 (iv (k : Int)) (iv (i : Int)) M Q := by
    intro k i M hk hu hi ho h2
    apply T_fettleref10_Within_1
    unfold S_fettleref10_Within_1
    rw [LK.len (Sl.up hd.1 hu), OP_some]
    show OP (binI .lss (iv (i : Int)) (iv (ds.length : Int))) _
    rw [lss_n, BR_dec]
    split
    · rename_i hil; exact h2 hil
    · rename_i hil
      rw [List.drop_of_length_le (by omega)] at ho
      have : o = true := by rw [← ho]; exact withF_nil _
      apply T_fettleref10_Within_3
      unfold S_fettleref10_Within_3
      refine ⟨rfl, ?_⟩
      have hq := hQ M hu
      rw [this] at hq; exact hq
  intro n
  induction n with
  | zero =>
    intro k hk i M hu hi ho
    have h2 : i < ds.length → P_fettleref10_Within_2 x0 x7 (iv (k : Int)) (iv (i : Int)) M Q := by
      intro hil
      apply T_fettleref10_Within_2
      unfold S_fettleref10_Within_2
      rw [LK.len (Sl.up h.1 hu), OP_some]
      show OP (binI .lss (iv (k : Int)) (iv (ps.length : Int))) _
      rw [lss_n, BR_dec, if_neg (by omega)]
      apply T_fettleref10_Within_5
      unfold S_fettleref10_Within_5
      rw [LK.len (Sl.up h.1 hu), OP_some]
      show OP (binI .eql (iv (k : Int)) (iv (ps.length : Int))) _
      rw [eql_n, BR_dec, if_pos (by omega)]
      refine ⟨rfl, ?_⟩
      rw [List.drop_of_length_le (show ps.length ≤ k by omega), dms_drop hil] at ho
      have : o = false := by rw [← ho]; rfl
      have hq := hQ M hu
      rw [this] at hq; exact hq
    exact ⟨one k i M (by omega) hu hi ho h2, h2⟩
  | succ n ih =>
    intro k hk i M hu hi ho
    have hkl : k < ps.length := by omega
    have h2 : i < ds.length → P_fettleref10_Within_2 x0 x7 (iv (k : Int)) (iv (i : Int)) M Q := by
      intro hil
      apply T_fettleref10_Within_2
      unfold S_fettleref10_Within_2
      rw [LK.len (Sl.up h.1 hu), OP_some]
      show OP (binI .lss (iv (k : Int)) (iv (ps.length : Int))) _
      rw [lss_n, BR_dec, if_pos hkl]
      apply T_fettleref10_Within_4
      unfold S_fettleref10_Within_4
      have hm := List.getElem_mem hkl
      have hbl := hb _ hm
      rw [c_fld (Sl.up h.1 hu) hkl (f := 2) (w := slT ps[k].2) rfl]
      refine (ROpen_ok (Sl.up (h.2 _ hm) hu) (by omega)).mono fun r M1 ⟨u1, h1⟩ => ?_
      obtain ⟨u, v, e, hu1, hv1⟩ := opr_view h1
      subst e
      have hu' := hu.trans u1
      have hc1 := Sl.up h.1 hu'
      have hd1 := Sl.up hd.1 hu'
      have hq1 := Sl.up (hd.2 _ (List.getElem_mem hil)) hu'
      rw [(tp3b _ _ _).1, (tp3b _ _ _).2.1, (tp3b _ _ _).2.2, BR_bool]
      rw [dms_drop hil, cms_drop hkl] at ho
      have ho : (if tellsF ds[i].1 ps[k].1 = true then withF (dms (ds.drop (i + 1))) (cms (ps.drop (k + 1))) else withF (ds[i].1 :: dms (ds.drop (i + 1))) (cms (ps.drop (k + 1)))) = o := ho
      have no : tellsF ds[i].1 ps[k].1 = false → OP (binI .add (iv (k : Int)) (.int .i64 1)) fun t => P_fettleref10_Within_2 x0 x7 t (iv (i : Int)) M1 Q := by
        intro hf
        rw [if_neg (by rw [hf]; decide)] at ho
        show OP (binI .add (iv (k : Int)) (iv 1)) _
        rw [add1_n _ (by omega)]
        exact (ih (k + 1) (by omega) i M1 hu' hi (by rw [dms_drop hil]; exact ho)).2 hil
      have yes : tellsF ds[i].1 ps[k].1 = true → P_fettleref10_Within_5 x0 x7 (iv (k : Int)) (iv (i : Int)) M1 Q := by
        intro ht
        rw [if_pos ht] at ho
        apply T_fettleref10_Within_5
        unfold S_fettleref10_Within_5
        rw [LK.len hc1, OP_some]
        show OP (binI .eql (iv (k : Int)) (iv (ps.length : Int))) _
        rw [eql_n, BR_dec, if_neg (by omega), add1_n _ (by omega)]
        apply T_fettleref10_Within_6
        unfold S_fettleref10_Within_6
        rw [add1_n _ (by omega)]
        exact (ih (k + 1) (by omega) (i + 1) M1 hu' (by omega) ho).1
      have htf : tellsF ds[i].1 ps[k].1 = match openF ps[k].1.2.2.1 with
        | none => false
        | some p => !ps[k].1.2.2.2 && (decide (ds[i].1.1 = ps[k].1.2.1) && (decide (ds[i].1.2.1 = ps[k].1.1) && decide (ds[i].1.2.2.2 = p.1))) := rfl
      split
      · rename_i hs
        cases hop : openF ps[k].1.2.2.1 with
        | none => rw [hop] at hs; cases hs
        | some pp =>
          rw [hop] at htf hu1
          simp only at htf
          have hu1 : B M1 u pp.1 := hu1
          rw [c_fld hc1 hkl (f := 3) (w := tv ps[k].1.2.2.2) rfl]
          show OP (aun .not (.bool ps[k].1.2.2.2)) _
          rw [e_not, BR_bool]
          split
          · rename_i hdr
            rw [c_fld hc1 hkl (f := 1) (w := sv ps[k].1.2.1) rfl, q_fld hd1 hil (f := 0) (w := sv ds[i].1.1) rfl, sv_eq, BR_dec]
            split
            · rename_i ht
              rw [c_fld hc1 hkl (f := 0) (w := iv ps[k].1.1) rfl, q_fld hd1 hil (f := 1) (w := iv ds[i].1.2.1) rfl]
              show OP (binI .eql (.int .i64 ps[k].1.1) (.int .i64 ds[i].1.2.1)) _
              rw [e_eql, BR_dec]
              split
              · rename_i hw
                rw [cvBS_ok hu1, OP_some, q_fld hd1 hil (f := 3) (w := slT ds[i].2) rfl, cvBS_ok hq1, OP_some]
                show OP (binS .eql (sv pp.1) (sv ds[i].1.2.2.2)) _
                rw [sv_eq, BR_dec]
                split
                · rename_i hp
                  refine yes ?_
                  rw [htf, hdr, decide_eq_true ht.symm, decide_eq_true hw.symm, decide_eq_true hp.symm]; rfl
                · rename_i hp
                  refine no ?_
                  rw [htf, decide_eq_false (show ¬ ds[i].1.2.2.2 = pp.1 from fun e => hp e.symm)]; simp
              · rename_i hw
                refine no ?_
                rw [htf, decide_eq_false (show ¬ ds[i].1.2.1 = ps[k].1.1 from fun e => hw e.symm)]; simp
            · rename_i ht
              refine no ?_
              rw [htf, decide_eq_false (show ¬ ds[i].1.1 = ps[k].1.2.1 from fun e => ht e.symm)]; simp
          · rename_i hdr
            refine no ?_
            have : ps[k].1.2.2.2 = true := by simpa using hdr
            rw [htf, this]; rfl
      · rename_i hs
        refine no ?_
        cases hop : openF ps[k].1.2.2.1 with
        | none => rw [htf, hop]
        | some pp => rw [hop] at hs; exact absurd rfl hs
    exact ⟨one k i M (by omega) hu hi ho h2, h2⟩
theorem RWithin_ok {M : Store} {x0 x1 : Value} {ds : List DQ} {ps : List CP} (hd : QL M x0 ds) (h : CL M x1 ps) (hdl : ds.length ≤ 2 ^ 20) (hl : ps.length ≤ 2 ^ 20) (hb : ∀ p ∈ ps, p.1.2.2.1.length ≤ 2 ^ 22) : R F.fettleref10_Within #[x0, x1] M fun r M' => Up M M' ∧ r = tv (withF (dms ds) (cms ps)) := by
  refine R.cps fun Q hQ => ?_
  apply T_fettleref10_Within
  unfold S_fettleref10_Within
  exact (RWith_loop (M0 := M) hd hdl h hl hb (fun M' hu => hQ _ _ ⟨hu, rfl⟩) ps.length 0 rfl 0 M (Ch.refl _ _) (Nat.zero_le _) (by rw [List.drop_zero, List.drop_zero])).1
end
end Go.G
