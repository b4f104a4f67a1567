/- Layer 16: an output is looked at; any step of an asker. -/
import Derived.Test.YtpacolplhcfamaaPY16d
namespace Go.G
open Go.Ab Go.Proofs Go.RowKit
set_option linter.unusedVariables false
set_option linter.unusedSimpArgs false
set_option maxRecDepth 100000

section
variable {Mf M0 : Store} {bf r room U last : Nat} {fl : Fl} {ba : Nat} {outs prints values : List (List UInt8)} {old : List Bool} {Q : Value → Store → Prop}
/-- What looking at an output comes to. -/
def OutR (Mf M0 M : Store) (bf r room U last : Nat) (fl : Fl) (ba : Nat) (outs prints values : List (List UInt8)) (old : List Bool) (v : Value) (M' : Store) : Prop :=
  Up M0 M' ∧ FSR Mf M' bf r room U last fl ∧ KeepsL M M' ∧ v = nv (settleN outs old) ∧ AskB M0 M' ba outs prints values old (decide (settleN outs old ≠ 0)) (settleN outs old)
theorem out_tail {M Mk : Store} {ou i_ o_ ac ph sp pr va ol : Value} (hb0 : M0.n ≤ ba) (hu : Up M0 M) (hf : FSR Mf M bf r room U last fl) (hK : KeepsL Mk M) (o : Ob M ba [ou, i_, o_, ac, ph, sp, tv true, pr, va, ol, tv false, nv 0] Ty.need_Ask) (h1 : LV sv Ty.string M ou outs) (h2 : BB M pr prints) (h3 : BB M va values) (h4 : NV tv Ty.bool M0 M ol old) (h5 : ∃ an : Nat, an ≠ 0 ∧ Go.Ab.lenV ac = some (nv an)) (hz : old.length ≤ 2 ^ 20) (b : Bool)
    (hQ : ∀ v M', OutR Mf M0 Mk bf r room U last fl ba outs prints values (old ++ [b]) v M' → Q v M') (bs : List Nat) (N1 : Store → List Nat) (N2 : Store → Store → List Nat) (hN1 : ∀ M3, (N1 M3).getD 0 0 = M.n) (hN2 : ∀ M3 M4, (N2 M3 M4).getD 0 0 = M.n) (i j : Nat) :
    (Go.Ab.LT (.slice (some ⟨M.n, 0, none⟩) 1 1) (M.push (some (.inl ([tv b], Ty.bool, true)))) fun t60 M3 => OP2 (appV 1 Ty.bool ol t60 M3) fun t61 M4 => TDx bs (N1 M3) i M3 M4 ∧ OP (nilc (pB ba)) fun t62 => OP (fad 9 t62) fun t63 => OP (st 1 t63 t61 M4) fun M5 => TDx bs (N2 M3 M4) j M4 M5 ∧ R F.need_Ask_settled #[pB ba] M5 fun t65 M6 => NTs [t65] ∧ Q t65 M6) := by
  rw [LT_eq]
  have hxx : Sl 1 Ty.bool (M.push (some (.inl ([tv b], Ty.bool, true)))) (.slice (some ⟨M.n, 0, none⟩) 1 1) 1 [tv b] := (Nw.lit (M0 := M) (n := 1) (Nat.le_refl _) rfl).sl
  have h4' := Nw.up h4 (Up.push M (some (.inl ([tv b], Ty.bool, true))))
  have hkl : ∀ c ∈ kl ol, c < M.n ∧ ∃ cells, (M.push (some (.inl ([tv b], Ty.bool, true)))).get c = some (.inl (cells, Ty.bool, true)) := fun c hc => ⟨(Nw.bx_in h4 (mem_kl.1 hc)).2, h4'.kl_inl hc⟩
  obtain ⟨w', M4, e4, hu4, hN4, hn4, hf4', hc4⟩ := Nw.appV2 (hu.trans (Up.push _ _)) (Nat.le_refl _) (by have := hu.n; simp; omega) h4' hxx (by omega)
  rw [e4, OP2_some]
  have hk4 : Keep Ty.bool M M4 := (Up.push M (some (.inl ([tv b], Ty.bool, true)))).keep.trans (h4'.keeps hn4 hf4')
  refine ⟨hc4.tdxO fun c hc => ?_, ?_⟩
  · obtain ⟨g1, cells, g2⟩ := hkl c hc
    exact ⟨by rw [g2]; rfl, by rw [hN1]; exact g1⟩
  have hN4' : NV tv Ty.bool M0 M4 w' (old ++ [b]) := by simpa [NV] using hN4
  obtain ⟨wa, wc, rfl⟩ : ∃ a c, w' = .slice a (old ++ [b]).length c := hN4'.sl.slice
  have o4 := o.keep (show Ty.need_Ask ≠ Ty.bool by decide) hk4
  rw [nilc_p, fad0]
  refine s_st1 (i := 9) (w := .slice wa (old ++ [b]).length wc) o4 (by simp) (cells_sl _ _ _) (oc_sl _ _ _) fun M5 c5 o5 _ => ⟨c5.tdx o4 (by rw [hN2]; exact o.lt), ?_⟩
  have kk := c5.keepT o4
  have hB : AskB M0 M5 ba outs prints values (old ++ [b]) false 0 := ⟨hb0, ou, i_, o_, ac, ph, sp, pr, va, _, o5, Sl.keep (Sl.keep h1 (by decide) hk4) (by decide) kk, Ls.keep (By.keep' (by decide)) (Ls.keep (By.keep' (by decide)) h2 (by decide) hk4) (by decide) kk, Ls.keep (By.keep' (by decide)) (Ls.keep (By.keep' (by decide)) h3 (by decide) hk4) (by decide) kk, Nw.keep hN4' (by decide) kk, h5⟩
  refine (settled_ok hB (by simp; omega)).mono fun v M6 ⟨e, c6, kk6, h'⟩ => ?_
  subst e
  refine ⟨rfl, hQ _ _ ⟨(hu4.ch c5 (by simpa using hb0)).ch c6 (by simpa using hb0), ((hf.keep (by decide) (by decide) hk4).keep (by decide) (by decide) kk).keep (by decide) (by decide) kk6, ((hK.trans (hk4.keepsL fun e he => he.2.2.2.2.1)).trans (kk.keepsL (needT rfl))).trans (kk6.keepsL (needT rfl)), rfl, h'⟩⟩
/-- Is an output old? -/
def oldF (fl : Fl) (s pr : List UInt8) : Bool := match fl s with
  | none => true
  | some q => match openF q.1 with
    | none => true
    | some x => !decide (x.1 = pr)
theorem bl_tv (b : Bool) (K : List Value → Prop) : OP (bldL (.bool false) 1 1 [(0, tv b)]) K = K [tv b] := by cases b <;> kernel_rfl
theorem output_ok {M : Store} (hu : Up M0 M) (hf : FSR Mf M bf r room U last fl) (h : AskB M0 M ba outs prints values old false 0) (hlt : old.length < outs.length) (hpl : prints.length = outs.length) (hoz : outs.length ≤ 2 ^ 10) (hn : ∀ s ∈ outs, nameOk s) :
    R F.need_Ask_output #[pB ba, pB bf] M fun v M' => OutR Mf M0 M bf r room U last fl ba outs prints values (old ++ [oldF fl (outs.getD old.length []) (prints.getD old.length [])]) v M' := by
  refine R.cps fun Q hQ => ?_
  obtain ⟨hb0, ou, i_, o_, ac, ph, sp, pr, va, ol, o, h1, h2, h3, h4, h5⟩ := h
  apply T_need_Ask_output
  unfold S_need_Ask_output
  simp only [nilc_p, fad0, (rd12 o).2.2.2.2.2.2.1, (rd12 o).1]
  have hol : LV tv Ty.bool M ol old := NV.lv h4
  obtain ⟨p1, e1, e2⟩ := h1.at hlt .i64
  rw [hol.len, OP_some, e1, OP_some, e2, OP_some]
  have g1 : outs.getD old.length [] = outs[old.length] := by simp [hlt]
  have g2 : prints.getD old.length [] = prints[old.length]'(by omega) := by simp [show old.length < prints.length by omega]
  rw [g1, g2] at hQ
  unfold oldF at hQ
  refine (Read_f hf (hn _ (List.getElem_mem hlt))).mono fun v1 M1 ⟨u1, hr⟩ => ?_
  have hu1 := hu.trans u1
  cases hfs : fl outs[old.length] with
  | none =>
    rw [hfs] at hr hQ
    have hr : v1 = .tuple #[.slice none 0 0, iv 0, iv 4] := hr
    subst hr
    simp only [(tp3 _ _ _).1, (tp3 _ _ _).2.1, (tp3 _ _ _).2.2]
    refine (Open_ok (l := []) (Sl.nil _ _ _) (by simp)).mono fun rv M2 ⟨u2, x, y, M5, e5, _⟩ => ?_
    subst e5
    have u02 := u1.trans u2
    simp only [(tp3 _ _ _).1, (tp3 _ _ _).2.1, (tp3 _ _ _).2.2, nilc_p, fad0, (rd12 (o.up u02)).2.2.2.2.2.2.1]
    rw [e_neq, BR_dec, if_pos (by decide), bl_tv]
    exact out_tail (Mk := M) hb0 (hu.trans u02) (hf.up u02) (Up.keepsL u02) (o.up u02) (h1.up u02) (Ls.up By.up' h2 u02) (Ls.up By.up' h3 u02) (Nw.up h4 u02) h5 (by omega) true hQ _ _ _ (fun _ => rfl) (fun _ _ => rfl) _ _
  | some q =>
    rw [hfs] at hr hQ
    obtain ⟨w, e, hN⟩ := hr
    subst e
    have hql := hf.sz _ q hfs
    simp only [(tp3 _ _ _).1, (tp3 _ _ _).2.1, (tp3 _ _ _).2.2]
    refine (Open_ok hN.by (by omega)).mono fun rv M2 ⟨u2, x, y, M5, e5, _, hNb, _⟩ => ?_
    subst e5
    have u02 := u1.trans u2
    have o2 := o.up u02
    simp only [(tp3 _ _ _).1, (tp3 _ _ _).2.1, (tp3 _ _ _).2.2, nilc_p, fad0, (rd12 o2).2.2.2.2.2.2.1]
    rw [e_neq, BR_dec, if_neg (by decide), e_not, BR_bool]
    simp only at hQ
    cases hof : openF q.1 with
    | none =>
      rw [hof] at hQ
      rw [if_pos (show (!(none : Option (List UInt8 × List UInt8)).isSome) = true from rfl), bl_tv]
      exact out_tail (Mk := M) hb0 (hu.trans u02) (hf.up u02) (Up.keepsL u02) o2 (h1.up u02) (Ls.up By.up' h2 u02) (Ls.up By.up' h3 u02) (Nw.up h4 u02) h5 (by omega) true hQ _ _ _ (fun _ => rfl) (fun _ _ => rfl) _ _
    | some qq =>
      rw [hof] at hQ hNb
      have hNb : N M M2 x qq.1 ∨ B M2 x qq.1 := .inr hNb.by
      have hxB : B M2 x qq.1 := by rcases hNb with h | h; exact h.by; exact h
      rw [if_neg (show ¬ (!(some qq).isSome) = true by simp)]
      simp only [nilc_p, fad0, (rd12 o2).2.2.2.2.1]
      obtain ⟨p3, w3, e3, e4, hw3⟩ := (Ls.up By.up' h2 u02).at (show old.length < prints.length by omega) .i64
      rw [e3, OP_some, e4, OP_some]
      refine (bEqual_ok hxB hw3).mono fun v M11 ⟨g3, g4⟩ => ⟨Up.tdj (show Up M2 M11 from by rw [g3]; exact Ch.refl _ _) _ _, ?_⟩
      subst g3; subst g4
      rw [e_not, bl_tv]
      exact out_tail (Mk := M) hb0 (hu.trans u02) (hf.up u02) (Up.keepsL u02) o2 (h1.up u02) (Ls.up By.up' h2 u02) (Ls.up By.up' h3 u02) (Nw.up h4 u02) h5 (by omega) _ hQ _ _ _ (fun _ => rfl) (fun _ _ => rfl) _ _
/-- A step of an asker that knows its inputs. -/
theorem AStepB_ok {M : Store} (hu : Up M0 M) (hf : FSR Mf M bf r room U last fl) (h : AskB M0 M ba outs prints values old false 0) (hlt : old.length < outs.length) (hpl : prints.length = outs.length) (hoz : outs.length ≤ 2 ^ 10) (hn : ∀ s ∈ outs, nameOk s) :
    R F.need_Ask_Step #[pB ba, pB bf] M fun v M' => OutR Mf M0 M bf r room U last fl ba outs prints values (old ++ [oldF fl (outs.getD old.length []) (prints.getD old.length [])]) v M' := by
  refine R.cps fun Q hQ => ?_
  have h0 := h
  obtain ⟨hb0, ou, i_, o_, ac, ph, sp, pr, va, ol, o, h1, h2, h3, h4, an, ha, hal⟩ := h
  apply T_need_Ask_Step
  unfold S_need_Ask_Step
  simp only [nilc_p, fad0, (rd12 o).2.2.2.2.2.2.2.1, (rd12 o).2.1, (rd12 o).2.2.2.1]
  rw [BR_bool, if_neg (by decide), hal, OP_some, eql_l 0 0 rfl, BR_dec, if_neg ha, e_not, BR_bool, if_neg (by decide)]
  refine (output_ok hu hf h0 hlt hpl hoz hn).mono fun v M' h' => ?_
  have e := h'.2.2.2.1
  subst e
  exact ⟨rfl, hQ _ _ h'⟩
/-- A step of one that does not. -/
theorem AStepA_ok {br : Nat} {mv : Value} {st : RSt} {O : List Nat} {p : List UInt8 → Bool} {acts : List (List Dw)} {M : Store} (hane : acts ≠ []) (hu : Up M0 M) (hf : FSR Mf M bf r room U last fl) (h : AskA M0 M ba outs acts false 0 br mv st O) (ho : st.over = false) (hl : st.L.length ≤ 2 ^ 8) (hm : MadeOk mv p st.L) (hn : ∀ s ∈ st.L, nameOk s) (hoz : outs.length ≤ 2 ^ 10) (hal : ∀ l ∈ acts, l.length ≤ 2 ^ 10 ∧ ∀ d ∈ l, d.2.2.length ≤ 2 ^ 10)
    (hvl : ∀ x ∈ (stepS fl p st).1.vs, x.length ≤ 2 ^ 12) : R F.need_Ask_Step #[pB ba, pB bf] M fun v M' => InR Mf M0 M bf r room U last fl ba outs acts br mv (stepS fl p st).1 (stepS fl p st).2 v M' := by
  refine R.cps fun Q hQ => ?_
  have h0 := h
  obtain ⟨hb0, ⟨ou, i_, o_, ac, ph, o, hou, hac⟩, hr⟩ := h
  apply T_need_Ask_Step
  unfold S_need_Ask_Step
  simp only [nilc_p, fad0, (rd12 o).2.2.2.2.2.2.2.1, (rd12 o).2.1, (rd12 o).2.2.2.1]
  rw [BR_bool, if_neg (by decide), hac.lenV, OP_some, eql_l 0 0 rfl, BR_dec, if_neg (fun e => hane (List.length_eq_zero_iff.1 e)), e_not, BR_bool, if_pos (show (!false) = true from rfl)]
  refine (inputs_ok hane hu hf h0 ho hl hm hn hoz hal hvl).mono fun v M' h' => ?_
  have hnt : NTs [v] := by
    rcases h'.2.2.2 with ⟨_, e, _⟩ | ⟨_, e, _⟩ | ⟨_, e, _⟩ | ⟨_, e, _⟩ <;> rw [e] <;> rfl
  exact ⟨hnt, hQ _ _ h'⟩
end
end Go.G
