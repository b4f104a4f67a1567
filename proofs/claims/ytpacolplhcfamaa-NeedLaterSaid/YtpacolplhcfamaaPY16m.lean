/- NeedLater as a whole. -/
import Derived.Test.YtpacolplhcfamaaPY16l
namespace Go.G
open Go.Ab Go.Proofs Go.RowKit
set_option linter.unusedVariables false
set_option linter.unusedSimpArgs false
set_option maxRecDepth 100000

theorem printF_le {l : List Dw} {ins : List (List UInt8)} (h : okA l = true) (h8 : ins.length ≤ 8) (hi : ∀ x ∈ ins, x.length ≤ 256) : (printF l ins).length ≤ 2 ^ 20 := by
  have h1 := actB_ok h
  have h2 := insB_len 256 ins hi
  have h3 : ins.length * (6 + 256) ≤ 8 * (6 + 256) := Nat.mul_le_mul_right _ h8
  unfold printF
  simp only [List.length_append, be_length]; omega
theorem prtA_at {c : List UInt8} : ∀ i, i < 2 → (prtA ruA [c] 2)[i]? = some (printF (ruA.getD i []) [c]) := fun i hi => by
  have : i = 0 ∨ i = 1 := by omega
  rcases this with rfl | rfl <;> rfl
theorem prtA_len {c : List UInt8} (hc : c.length ≤ 256) : ∀ x ∈ prtA ruA [c] 2, x.length ≤ 2 ^ 20 := fun x hx => by
  have : x = printF [dAll] [c] ∨ x = printF [dAll, dUp] [c] := by
    have hx : x ∈ [printF [dAll] [c], printF [dAll, dUp] [c]] := hx
    simpa using hx
  rcases this with rfl | rfl
  · exact printF_le (by decide) (by simp) (fun x hx => by simp at hx; subst hx; exact hc)
  · exact printF_le (by decide) (by simp) (fun x hx => by simp at hx; subst hx; exact hc)
/-- The rule's box. -/
def RuB (M : Store) (t : Nat) : Prop := ∃ cs, Sl 1 Ty.api_Rule M (.slice (some ⟨t, 0, none⟩) 5 5) 5 cs ∧ RuC M cs
theorem okR : okT Ty.api_Rule := ⟨by decide, by decide, by decide, by decide, by decide, by decide⟩
theorem RuB.keeps {M M' : Store} {t : Nat} (h : RuB M t) (k : KeepsL M M') : RuB M' t := by
  obtain ⟨cs, h1, h2⟩ := h
  exact ⟨cs, k _ _ _ _ _ okR h1, h2.keeps k⟩
theorem RuB.acts {M : Store} {t : Nat} (h : RuB M t) : ∃ ac, ld 1 false (.pointer (some ⟨t, 3, none⟩)) M = some ac ∧ Ls DS Ty.sl_api_Do M ac ruA := by
  obtain ⟨cs, h1, b1, b2, b3, rfl, h2, h3, h4⟩ := h
  obtain ⟨p, e1, e2⟩ := h1.at (i := 3) (by decide) .i64
  have e1' : ixA 1 (.slice (some ⟨t, 0, none⟩) 5 5) (.int .i64 ((3 : Nat) : Int)) = some (.pointer (some ⟨t, 3, none⟩)) := rfl
  rw [e1'] at e1; injection e1 with e1; subst e1
  exact ⟨_, (e2 false).trans rfl, h4⟩
section
variable {M0 : Store} {x0 x1 : Value} {bf r ba t : Nat} {n : Int} {a b : List UInt8} {Q : Value → Store → Prop}
theorem later_cmp (hQ : ∀ M, Q (tv true) M) {c : List UInt8} (hc : c.length ≤ 256) {Mb : Store} {x12 x84 : Value} (hr : RuB Mb t) (h12 : B Mb x12 c) (h84 : BB Mb x84 (prtA ruA [c] 2)) : ∀ (k i : Nat) (M : Store), k + i = 2 → Up Mb M → P_fettlelaw16_NeedLater_3 (pB t) x12 x84 (nv 2) (nv i) M Q := by
  intro k
  induction k with
  | zero =>
    intro i M hi hu
    apply T_fettlelaw16_NeedLater_3
    unfold S_fettlelaw16_NeedLater_3
    rw [lss_n, BR_dec, if_neg (by omega)]
    apply T_fettlelaw16_NeedLater_5
    unfold S_fettlelaw16_NeedLater_5
    exact awake16_ok ⟨rfl, hQ _⟩
  | succ k ih =>
    intro i M hi hu
    have hi2 : i < 2 := by omega
    apply T_fettlelaw16_NeedLater_3
    unfold S_fettlelaw16_NeedLater_3
    rw [lss_n, BR_dec, if_pos hi2]
    apply T_fettlelaw16_NeedLater_4
    unfold S_fettlelaw16_NeedLater_4
    have hpl : i < (prtA ruA [c] 2).length := hi2
    obtain ⟨p, w, e1, e2, hw⟩ := (Ls.up By.up' h84 hu).at hpl .i64
    have hwe : (prtA ruA [c] 2)[i] = printF (ruA.getD i []) [c] := by
      have := prtA_at (c := c) i hi2
      rw [List.getElem?_eq_getElem hpl] at this
      injection this
    rw [hwe] at hw
    rw [e1, OP_some, e2, OP_some, cvBS_ok hw, OP_some, fad0]
    have hr1 := hr.keeps (Up.keepsL hu)
    obtain ⟨ac, e3, hac⟩ := hr1.acts
    rw [e3, OP_some]
    have hal : i < ruA.length := hi2
    obtain ⟨q, d, e4, e5, hd⟩ := hac.at hal .i64
    rw [e4, OP_some, e5, OP_some]
    have h12' := Sl.up h12 hu
    obtain ⟨xa, xc, rfl⟩ := h12'.slice
    rw [bl_sl1]
    refine s_lit (s := 1) (n := 1) rfl fun M1 u1 hN1 o1 n1 => ?_
    have hBL : BB M1 (.slice (some ⟨M.n, 0, none⟩) 1 1) [c] := ⟨_, Nw.sl hN1, Sl.up h12' u1, trivial⟩
    have hdl : ruA[i].length ≤ 2 ^ 10 ∧ ∀ d ∈ ruA[i], d.2.2.length ≤ 2 ^ 10 := by
      have h : ∀ l ∈ ruA, l.length ≤ 2 ^ 10 ∧ ∀ d ∈ l, d.2.2.length ≤ 2 ^ 10 := by decide
      exact h _ (List.getElem_mem hal)
    refine (RPrint_ok (Sl.up hd u1) hdl.1 hdl.2 hBL (by simp) (fun x hx => by simp at hx; subst hx; omega)).mono fun v M2 ⟨u2, hN2⟩ => ⟨u2.tdj _ _, ?_⟩
    rw [cvBS_ok hN2.by, OP_some]
    have ee : ruA[i] = ruA.getD i [] := by rw [List.getD_eq_getElem?_getD, List.getElem?_eq_getElem hal]; rfl
    rw [ee]
    show OP (binS .neq (sv (printF (ruA.getD i []) [c])) (sv (printF (ruA.getD i []) [c]))) _
    rw [sv_ne, BR_dec, if_neg (fun h => h rfl), add1_n _ (by omega)]
    exact ih (i + 1) M2 (by omega) ((hu.trans u1).trans u2)
theorem later_end (hQ : ∀ M, Q (tv true) M) (ha : a.length ≤ 200) (hb : b.length ≤ 200) {M : Store} {c : List UInt8} (hc : c = a ∨ c = b) (hB : AskB M0 M ba ruO (prtA ruA [c] 2) [c] [true, true] true 2) (hr : RuB M t) (h0 : B M x0 a) (h1 : B M x1 b) : P_fettlelaw16_NeedLater_2 x0 x1 (pB t) (pB ba) (nv 2) M Q := by
  have hcl : c.length ≤ 200 := by rcases hc with rfl | rfl <;> assumption
  have hpl := prtA_len (c := c) (by omega)
  have hvl : ∀ x ∈ [c], x.length ≤ 2 ^ 20 := fun x hx => by simp at hx; subst hx; omega
  apply T_fettlelaw16_NeedLater_2
  unfold S_fettlelaw16_NeedLater_2
  rw [neq_l 2 2 rfl, BR_dec, if_neg (fun h => h rfl)]
  refine (Prints_ok hB (.inr rfl) (by simp [prtA]) hpl).mono fun v1 M1 ⟨u1, hN1⟩ => ?_
  rw [hN1.ls.lenV, OP_some, neq_l (a := (prtA ruA [c] 2).length) 2 2 rfl, BR_dec, if_neg (fun h => h rfl)]
  have hB1 := hB.up u1
  refine (AValues_ok hB1 (.inr rfl) (by simp) hvl).mono fun v2 M2 ⟨u2, hN2⟩ => ?_
  rw [hN2.ls.lenV, OP_some, neq_l (a := [c].length) 1 1 rfl, BR_dec, if_neg (fun h => h rfl)]
  have hB2 := hB1.up u2
  refine (AValues_ok hB2 (.inr rfl) (by simp) hvl).mono fun v3 M3 ⟨u3, hN3⟩ => ?_
  obtain ⟨p, w, e1, e2, hw⟩ := hN3.ls.at (i := 0) (by simp) .i64
  have e1 : ixA 1 v3 (.int .i64 0) = some p := e1
  have hwB : B M3 w c := Nw.sl hw
  have u03 := (u1.trans u2).trans u3
  rw [e1, OP_some, e2, OP_some, cvBS_ok hwB, OP_some, cvBS_ok (Sl.up h0 u03), OP_some]
  have hB3 := hB2.up u3
  have fin : ∀ M4 v, Up M3 M4 → NLs (NN M3) Ty.sl_uint8 M3 M4 v (prtA ruA [c] 2) → (OP (lenV v) fun t85 => P_fettlelaw16_NeedLater_3 (pB t) w v t85 (nv 0) M4 Q) := fun M4 v u4 hN4 => by
    rw [hN4.ls.lenV, OP_some]
    have hB4 : BB M4 v (prtA ruA [c] 2) := by
      obtain ⟨vs, q1, q2⟩ := hN4
      exact ⟨vs, q1.sl, q2.mono fun v x h => Nw.sl h⟩
    exact later_cmp hQ (by omega) (hr.keeps (Up.keepsL (u03.trans u4))) (Sl.up hwB u4) hB4 2 0 M4 rfl (Ch.refl _ _)
  show OP (binS .neq (sv c) (sv a)) _
  rw [sv_ne, BR_dec]
  split
  · rename_i hca
    rw [OP_some, cvBS_ok (Sl.up h1 u03), OP_some]
    show OP (binS .neq (sv c) (sv b)) _
    have hcb : c = b := by rcases hc with h | h; exact absurd h hca; exact h
    rw [sv_ne, BR_dec, if_neg (fun h => h hcb)]
    exact (Prints_ok hB3 (.inr rfl) (by simp [prtA]) hpl).mono fun v4 M4 ⟨u4, hN4⟩ => fin M4 v4 u4 hN4
  · exact (Prints_ok hB3 (.inr rfl) (by simp [prtA]) hpl).mono fun v4 M4 ⟨u4, hN4⟩ => fin M4 v4 u4 hN4
theorem PhL.pos {M : Store} {fl : Fl} {last f : Nat} (h : PhL M0 M ba fl last a b f) : 0 < f := by
  rcases h with ⟨h, _⟩ | ⟨_, _, _, _, ⟨_, h⟩ | ⟨_, h⟩, _⟩ | ⟨h, _⟩ | ⟨h, _⟩ <;> omega
theorem later_loop (hQ : ∀ M, Q (tv true) M) (ha : a.length ≤ 200) (hb : b.length ≤ 200) (h0 : B M0 x0 a) (h1 : B M0 x1 b) : ∀ (d i : Nat) (M : Store) (fl : Fl) (Us last f : Nat), d + i = 50 → f + (if i ≤ andN n 7 then 2 else 0) ≤ d → last ≤ 1 + (if i ≤ andN n 7 then 0 else 1) → Us ≤ 200 * last → Up M0 M → FSR M0 M bf r 1048576 Us last fl → OnlyS fl last a b → PhL M0 M ba fl last a b f → RuB M t →
      P_fettlelaw16_NeedLater_1 x0 x1 (iv n) (pB bf) (pB t) (pB ba) (nv 0) (nv i) M Q := by
  intro d
  induction d with
  | zero => intro i M fl Us last f hi hf0 _ _ _ _ _ hp; have := hp.pos; omega
  | succ d ih =>
    intro i M fl Us last f hi hfd hlast hU hu hf ho hp hr
    obtain ⟨f', rfl⟩ : ∃ f', f = f' + 1 := ⟨f - 1, by have := hp.pos; omega⟩
    have hq := andN_le n 7 (by decide)
    apply T_fettlelaw16_NeedLater_1
    unfold S_fettlelaw16_NeedLater_1
    rw [lss_l 50 50 rfl, BR_dec, if_pos (by omega), show (.int .i64 0 : Value) = nv 0 from rfl, eql_n, BR_dec, if_pos rfl]
    show OP (binI .and (.int .i64 n) (.int .i64 ((7 : Nat) : Int))) _
    rw [e_andN _ 7 (by decide), OP_some]
    have after : ∀ (M1 : Store) (fl1 : Fl) (U1 last1 g : Nat), g + (if i + 1 ≤ andN n 7 then 2 else 0) ≤ d → last1 ≤ 1 + (if i + 1 ≤ andN n 7 then 0 else 1) → U1 ≤ 200 * last1 → Up M0 M1 → FSR M0 M1 bf r 1048576 U1 last1 fl1 → OnlyS fl1 last1 a b → PhL M0 M1 ba fl1 last1 a b (g + 1) → RuB M1 t →
        (R F.need_Ask_Step #[pB ba, pB bf] M1 fun t52 M2 => OP (binI .add (nv i) (.int .i64 1)) fun t42 => P_fettlelaw16_NeedLater_1 x0 x1 (iv n) (pB bf) (pB t) (pB ba) t52 t42 M2 Q) := by
      intro M1 fl1 U1 last1 g g1 g2 g3 g4 g5 g6 g7 g8
      refine later_step ha hb g4 g5 g6 g7 fun k M2 k1 k2 k3 k4 => ?_
      rw [add1_n _ (by omega)]
      rcases k4 with ⟨rfl, hp2⟩ | ⟨rfl, c, hc, hB⟩
      · exact ih (i + 1) M2 fl1 U1 last1 g (by omega) g1 g2 g3 k1 k2 g6 hp2 (g8.keeps k3)
      · apply T_fettlelaw16_NeedLater_1
        unfold S_fettlelaw16_NeedLater_1
        have fin := later_end (x0 := x0) (x1 := x1) hQ ha hb hc hB (g8.keeps k3) (Sl.up h0 k1) (Sl.up h1 k1)
        rw [lss_l 50 50 rfl, BR_dec]
        split
        · rw [eql_l 0 0 rfl, BR_dec, if_neg (by decide)]
          exact fin
        · exact fin
    have hQL := hq
    rw [show (.int .i64 (andN n 7 : Int) : Value) = nv (andN n 7) from rfl, eql_n, BR_dec]
    split
    · rename_i hiq
      rw [if_pos (by omega)] at hfd hlast
      refine (Put_ok hu hf name_s (Sl.up h1 hu) (by omega) (by omega) (by decide) (by omega)).mono fun v M1 ⟨u1, ⟨M2, u2, c⟩, _, hf1⟩ => ?_
      have hf2 := hf.up u2
      have hK : KeepsL M M1 := (Up.keepsL u2).trans (hf2.keepsL c)
      exact after M1 _ _ _ (f' + 2) (by rw [if_neg (by omega)]; omega) (by rw [if_neg (by omega)]; omega) (by omega) u1 hf1 ho.put (hp.put u2 c fun e he => hf2.away he) (hr.keeps hK)
    · rename_i hiq
      refine after M fl Us last f' ?_ ?_ hU hu hf ho hp hr
      · by_cases h : i ≤ andN n 7
        · rw [if_pos h] at hfd; rw [if_pos (by omega)]; omega
        · rw [if_neg h] at hfd; rw [if_neg (by omega)]; omega
      · by_cases h : i ≤ andN n 7
        · rw [if_pos h] at hlast; rw [if_pos (by omega)]; omega
        · rw [if_neg h] at hlast; rw [if_neg (by omega)]; omega
end
theorem NeedLater_ok {M : Store} {x0 x1 : Value} {a b : List UInt8} {n : Int} (h0 : B M x0 a) (h1 : B M x1 b) : R F.fettlelaw16_NeedLater #[x0, x1, iv n] M fun v M' => v = tv true := by
  refine R.cps fun Q hQ => ?_
  have hQ : ∀ M, Q (tv true) M := fun M => hQ _ _ rfl
  apply T_fettlelaw16_NeedLater
  unfold S_fettlelaw16_NeedLater
  rw [by_len h0, gtr_l 200 200 rfl, BR_dec]
  split
  · exact awake16_ok ⟨rfl, hQ _⟩
  rename_i ha
  rw [by_len h1, gtr_l 200 200 rfl, BR_dec]
  split
  · exact awake16_ok ⟨rfl, hQ _⟩
  rename_i hb
  refine (New_ok (room := 1048576) (by decide)).mono fun v M1 ⟨u1, bf, r, e, hf1⟩ => ?_
  subst e
  refine Rule_ok.mono fun v M2 ⟨u2, cs, e, hC2⟩ => ?_
  subst e
  refine s_new fun M3 u3 o3 n3 => ?_
  have hcs : cs.length = 5 := by obtain ⟨b1, b2, b3, e, _⟩ := hC2; rw [e]; rfl
  have hcone : cs.all (·.oneCell') = true := by obtain ⟨b1, b2, b3, e, _⟩ := hC2; rw [e]; exact ru_cells _ _ _ _ _ _ _ _ _ _ _ _ _
  refine s_st (vs := cs) o3 rfl hcs hcone fun M4 c4 o4 _ => ?_
  rw [abin_ptr U.p_simf_FS, BR_bool, if_neg (by decide)]
  have u04 : Up M M4 := ((u1.trans u2).trans u3).ch c4 fun b hb => by simp at hb; subst hb; exact (u1.trans u2).n
  have hf4 := ((hf1.up u2).up u3).keep (by decide) (by decide) (c4.keepT o3)
  have kk4 := c4.keepT o3
  have hC4 : RuC M4 cs := by
    obtain ⟨b1, b2, b3, e, g1, g2, vs, g3, g4⟩ := hC2
    exact ⟨b1, b2, b3, e, Sl.keep (Sl.up g1 u3) (by decide) kk4, Sl.keep (Sl.up g2 u3) (by decide) kk4, vs, Sl.keep (Sl.up g3 u3) (by decide) kk4, g4.mono fun v x hx => Sl.keep (Sl.up hx u3) (by decide) kk4⟩
  have hRB4 : RuB M4 M2.n := ⟨cs, (o4.nw (M0 := M2) (s := 1) (n := 5) (Nat.le_refl _) (by rw [hcs])).sl, hC4⟩
  refine (Put_ok u04 hf4 name_s (Sl.up h0 u04) (by omega) (by omega) (by decide) (by decide)).mono fun v M5 ⟨u5, ⟨M6, u6, c6⟩, _, hf5⟩ => ?_
  have hf6 := hf4.up u6
  have hK45 : KeepsL M4 M5 := (Up.keepsL u6).trans (hf6.keepsL c6)
  have o5 := Ob.away (o4.up u6) (hf6.away (by decide)) c6
  have hRB5 := hRB4.keeps hK45
  rw [o5.ldA (s := 5) hcs, OP_some]
  refine (NewA_ok (hC4.keeps hK45).val (by decide) (by decide) (by decide) (by decide) F.fettlelaw16_made).mono fun v M7 ⟨u7, ba, br, e, hA⟩ => ?_
  subst e
  rw [abin_ptr U.p_need_Ask, BR_bool, if_neg (by decide)]
  have hA7 := hA [] M7 (fun b hb => by cases hb) (Ch.refl _ _)
  have hA7' : AskA M M7 ba ruO ruA false 0 br mvN (RSt.new ruI) [br] := ⟨Nat.le_trans u5.n hA7.b0, hA7.is, hA7.rd.base u5.n⟩
  have hq := Nat.zero_le (andN n 7)
  exact later_loop (n := n) hQ (by omega) (by omega) h0 h1 50 0 M7 _ _ 1 4 rfl (by rw [if_pos hq]; omega) (by rw [if_pos hq]; decide) (by omega) (u5.trans u7) (hf5.up u7)
    ⟨by unfold putF; rw [if_neg (by decide)], by unfold putF; rw [if_neg (by decide)], a, 1, .inl rfl, Nat.le_refl _, by unfold putF; rw [if_pos rfl]⟩ (.inl ⟨by decide, br, [br], hA7'⟩) (hRB5.keeps (Up.keepsL u7))
end Go.G
