/- Layer 16: a step of an asker: its inputs; an output. -/
import Derived.Test.YtpacolplhcfamaaPY16c
namespace Go.G
open Go.Ab Go.Proofs Go.RowKit
set_option linter.unusedVariables false
set_option linter.unusedSimpArgs false
set_option maxRecDepth 100000

theorem Sl.frP {s e M M' v n cs} (h : Sl s e M v n cs) {S : List Nat} (k : Ch S M M') (hS : 0 < n → ∀ b, bx v = some b → b ∉ S) : Sl s e M' v n cs := by
  obtain ⟨h1, a, c, rfl, h3, h4⟩ := h
  refine ⟨h1, a, c, rfl, h3, fun hn => ?_⟩
  obtain ⟨b, o, cells, e', own, rfl, h6, h7⟩ := h4 hn
  exact ⟨b, o, cells, e', own, rfl, k.at h6 (hS hn _ rfl), h7⟩
theorem Sl.bxP {s e M v n cs} (h : Sl s e M v n cs) (hn : 0 < n) : ∀ b, bx v = some b → b < M.n := by
  obtain ⟨h1, a, c, rfl, h3, h4⟩ := h
  obtain ⟨b, o, cells, e', own, rfl, h6, h7⟩ := h4 hn
  intro b' hb'
  simp only [bx, Option.some.injEq] at hb'
  subst hb'
  exact M.lt_of_get h6
theorem stepS_one {fl : Fl} {p : List UInt8 → Bool} {st : RSt} (ho : st.over = false) (h : (stepS fl p st).2 = 1) : (stepS fl p st).1.over = true ∧ (stepS fl p st).1.told = 1 := by
  unfold stepS at h ⊢
  rw [if_neg (by rw [ho]; decide)] at h ⊢
  split
  · exact ⟨rfl, rfl⟩
  · rename_i hL
    rw [if_neg hL] at h
    split
    · rename_i hlk
      rw [if_pos hlk] at h
      unfold lookS at h ⊢
      split
      · rename_i hh; rw [if_pos hh] at h; cases h
      · rename_i hh
        rw [if_neg hh] at h
        split
        · exact ⟨rfl, rfl⟩
        · rename_i hh2; rw [if_neg hh2] at h; cases h
    · rename_i hlk
      rw [if_neg hlk] at h
      unfold readS at h
      exfalso
      split at h
      · cases h
      · split at h
        · cases h
        · split at h <;> cases h
theorem stepS_code {fl : Fl} {p : List UInt8 → Bool} {st : RSt} (ho : st.over = false) : (stepS fl p st).2 = 0 ∨ (stepS fl p st).2 = 1 ∨ (stepS fl p st).2 = 2 ∨ (stepS fl p st).2 = 3 := by
  unfold stepS
  rw [if_neg (by rw [ho]; decide)]
  split
  · exact .inr (.inl rfl)
  · split
    · unfold lookS
      split
      · exact .inl rfl
      · split
        · exact .inr (.inl rfl)
        · exact .inl rfl
    · unfold readS
      split
      · exact .inr (.inr (.inl rfl))
      · split
        · exact .inr (.inr (.inr rfl))
        · split
          · exact .inr (.inr (.inr rfl))
          · exact .inl rfl
/-- An asker at its end. -/
def AskE (M : Store) (ba k : Nat) : Prop := ∃ c0 c1 c2 c3 c4 c5 c6 c7 c8 c9, Ob M ba [c0, c1, c2, c3, c4, c5, c6, c7, c8, c9, tv true, nv k] Ty.need_Ask
def prtA (acts : List (List Dw)) (values : List (List UInt8)) (n : Nat) : List (List UInt8) := (List.range n).map fun i => printF (acts.getD i []) values
theorem prtA_succ (acts : List (List Dw)) (values : List (List UInt8)) (n : Nat) : prtA acts values (n + 1) = prtA acts values n ++ [printF (acts.getD n []) values] := by
  unfold prtA; rw [List.range_succ, List.map_append]; rfl
section
variable {Mf M0 : Store} {bf r room U last : Nat} {fl : Fl} {ba br : Nat} {mv : Value} {st : RSt} {O : List Nat} {p : List UInt8 → Bool} {outs values : List (List UInt8)} {acts : List (List Dw)} {Q : Value → Store → Prop}
theorem in_loop {Mk Mb : Store} {ou i_ o_ ac ph va : Value} (hane : acts ≠ []) (h0b : M0.n ≤ Mb.n) (hb0 : M0.n ≤ ba) (hbb : ba < Mb.n) (hoz : outs.length ≤ 2 ^ 10) (hal : ∀ l ∈ acts, l.length ≤ 2 ^ 10 ∧ ∀ d ∈ l, d.2.2.length ≤ 2 ^ 10) (hvz : values.length ≤ 2 ^ 8) (hvl : ∀ x ∈ values, x.length ≤ 2 ^ 12) (hvb : 0 < values.length → ∀ b, bx va = some b → b < Mb.n)
    (hQ : ∀ v M', Up M0 M' → FSR Mf M' bf r room U last fl → KeepsL Mk M' → v = nv (settleN outs []) → AskB M0 M' ba outs (prtA acts values outs.length) values [] (decide (settleN outs [] ≠ 0)) (settleN outs []) → Q v M') :
    ∀ (k i : Nat) (M : Store) (pr : Value), k + i = outs.length → Up M0 M → Mb.n ≤ M.n → FSR Mf M bf r room U last fl → KeepsL Mk M → Ob M ba [ou, i_, o_, ac, ph, pB br, tv true, pr, va, .slice none 0 0, tv false, nv 0] Ty.need_Ask → LV sv Ty.string M ou outs → Ls DS Ty.sl_api_Do M ac acts → BB M va values → NLs B Ty.sl_uint8 Mb M pr (prtA acts values i) →
      P_need_Ask_inputs_1 (pB ba) (nv outs.length) (nv i) M Q := by
  intro k
  induction k with
  | zero =>
    intro i M pr hi hu hbM hf hK o hou hac hva hpr
    apply T_need_Ask_inputs_1
    unfold S_need_Ask_inputs_1
    rw [lss_n, BR_dec, if_neg (by omega)]
    apply T_need_Ask_inputs_3
    unfold S_need_Ask_inputs_3
    have : i = outs.length := by omega
    subst this
    have hB : AskB M0 M ba outs (prtA acts values outs.length) values [] false 0 := ⟨hb0, ou, i_, o_, ac, ph, pB br, pr, va, .slice none 0 0, o, hou, hpr.ls, hva, Nw.nil _ _ _ _, acts.length, fun e => hane (List.length_eq_zero_iff.1 e), hac.lenV⟩
    refine (settled_ok hB (by simp)).mono fun v M' ⟨e, c, kk, h'⟩ => ?_
    subst e
    exact ⟨rfl, hQ _ _ (hu.ch c (by simpa using hb0)) (hf.keep (by decide) (by decide) kk) (hK.trans (kk.keepsL (needT rfl))) rfl h'⟩
  | succ k ih =>
    intro i M pr hi hu hbM hf hK o hou hac hva hpr
    have hil : i < outs.length := by omega
    apply T_need_Ask_inputs_1
    unfold S_need_Ask_inputs_1
    rw [lss_n, BR_dec, if_pos hil]
    have main : ∀ w : Value, DS M w (acts.getD i []) → P_need_Ask_inputs_4 (pB ba) w (nv outs.length) (nv i) M Q := by
      intro w hw
      have hgl : (acts.getD i []).length ≤ 2 ^ 10 ∧ ∀ d ∈ acts.getD i [], d.2.2.length ≤ 2 ^ 10 := by
        by_cases hia : i < acts.length
        · rw [show acts.getD i [] = acts[i] by simp [hia]]; exact hal _ (List.getElem_mem hia)
        · rw [show acts.getD i [] = [] by simp [List.getD_eq_getElem?_getD, List.getElem?_eq_none (Nat.le_of_not_lt hia)]]; exact ⟨by simp, fun d hd => by cases hd⟩
      apply T_need_Ask_inputs_4
      unfold S_need_Ask_inputs_4
      simp only [nilc_p, fad0, (rd12 o).2.2.2.2.1, (rd12 o).2.2.2.2.2.1]
      refine (PPrint_ok hw hgl.1 hgl.2 hva hvz hvl).mono fun x M1 ⟨u1, hx⟩ => ⟨u1.tdj _ _, ?_⟩
      obtain ⟨xa, xc, rfl⟩ := hx.sl.slice
      rw [bl_sl1, LT_eq]
      have hpr1 := NLs.up By.up' hpr u1
      have hbm1 : Mb.n ≤ M1.n := Nat.le_trans hbM u1.n
      obtain ⟨v', M3, e3, hu3, hN3, hk3, hc3, hb3, hkl3⟩ := NLs.appC (M0 := M0) (By.keep' (by decide)) (hu.trans u1) h0b hbm1 hpr1 hx.by (by simp [prtA]; omega)
      rw [e3, OP2_some]
      have hlt : ∀ c ∈ kl pr, c < M.n := fun c hc => by obtain ⟨vs, g, _⟩ := hpr; exact (g.bx_in (mem_kl.1 hc)).2
      refine ⟨hc3.tdxO fun c hc => ?_, ?_⟩
      · obtain ⟨_, _, cells, g2⟩ := hkl3 c hc
        exact ⟨by rw [g2]; rfl, hlt c hc⟩
      obtain ⟨a', c', rfl⟩ : ∃ a c, v' = .slice a (prtA acts values i ++ [printF (acts.getD i []) values]).length c := by obtain ⟨vs, g, _⟩ := hN3; exact g.sl.slice
      have o3 := (o.up u1).keep (show Ty.need_Ask ≠ Ty.sl_uint8 by decide) hk3
      have hva1 : BB M1 va values := Ls.up By.up' hva u1
      have hva3 : BB M3 va values := by
        obtain ⟨vs, g1, g2⟩ := hva1
        refine ⟨vs, Sl.frP (Sl.up g1 (Up.push _ _)) hc3 (fun hn b hb hm => ?_), g2.mono fun w y hy => Sl.keep hy (by decide) hk3⟩
        have := hvb hn b hb
        have := (hkl3 b hm).2.1
        omega
      refine s_st1 (i := 7) (w := .slice a' (prtA acts values i ++ [printF (acts.getD i []) values]).length c') o3 (by simp) (cells_sl _ _ _) (oc_sl _ _ _) fun M4 c4 o4 _ => ⟨c4.tdx o3 (by simpa using o.lt), ?_⟩
      have kk := c4.keepT o3
      apply T_need_Ask_inputs_5
      unfold S_need_Ask_inputs_5
      rw [add1_n _ (by omega)]
      rw [← prtA_succ] at o4 hN3
      have hK3 : KeepsL M M3 := (u1.keepsL).trans (hk3.keepsL fun e he => he.2.2.1)
      exact ih (i + 1) M4 _ (by omega) (hu3.ch c4 (by simpa using hb0)) (Nat.le_trans hbm1 (Nat.le_trans hk3.1 c4.n)) (((hf.up u1).keep (by decide) (by decide) hk3).keep (by decide) (by decide) kk) (hK.trans (hK3.trans (kk.keepsL (needT rfl)))) o4
        (Sl.keep (Sl.keep (hou.up u1) (by decide) hk3) (by decide) kk) (Ls.keep (E := DS) (fun M M' v x h k => Sl.keep h (by decide) k) (Ls.keep (E := DS) (fun M M' v x h k => Sl.keep h (by decide) k) (Ls.up DS_upN hac u1) (by decide) hk3) (by decide) kk) (Ls.keep (By.keep' (by decide)) hva3 (by decide) kk) (NLs.keep (By.keep' (by decide)) hN3 (by decide) kk)
    apply T_need_Ask_inputs_2
    unfold S_need_Ask_inputs_2
    simp only [nilc_p, fad0, (rd12 o).2.1]
    rw [hac.lenV, OP_some, lss_n, BR_dec]
    split
    · rename_i hia
      obtain ⟨q, w, e1, e2, hw⟩ := hac.at hia .i64
      rw [e1, OP_some, e2, OP_some]
      refine main w ?_
      rw [show acts.getD i [] = acts[i] by simp [hia]]; exact hw
    · rename_i hia
      refine main _ ?_
      rw [show acts.getD i [] = [] by simp [List.getD_eq_getElem?_getD, List.getElem?_eq_none (Nat.le_of_not_lt hia)]]
      exact LK.nil
/-- What reading one input comes to. -/
def InR (Mf M0 M : Store) (bf r room U last : Nat) (fl : Fl) (ba : Nat) (outs : List (List UInt8)) (acts : List (List Dw)) (br : Nat) (mv : Value) (st' : RSt) (k : Nat) (v : Value) (M' : Store) : Prop :=
  Up M0 M' ∧ FSR Mf M' bf r room U last fl ∧ KeepsL M M' ∧ ((k = 0 ∧ v = nv 0 ∧ ∃ O', AskA M0 M' ba outs acts false 0 br mv st' O') ∨ (k = 2 ∧ v = nv 3 ∧ AskE M' ba 3) ∨ (k = 3 ∧ v = nv 4 ∧ AskE M' ba 4) ∨
    (k = 1 ∧ v = nv (settleN outs []) ∧ AskB M0 M' ba outs (prtA acts st'.vs outs.length) st'.vs [] (decide (settleN outs [] ≠ 0)) (settleN outs [])))
theorem inputs_ok {M : Store} (hane : acts ≠ []) (hu : Up M0 M) (hf : FSR Mf M bf r room U last fl) (h : AskA M0 M ba outs acts false 0 br mv st O) (ho : st.over = false) (hl : st.L.length ≤ 2 ^ 8) (hm : MadeOk mv p st.L) (hn : ∀ s ∈ st.L, nameOk s) (hoz : outs.length ≤ 2 ^ 10) (hal : ∀ l ∈ acts, l.length ≤ 2 ^ 10 ∧ ∀ d ∈ l, d.2.2.length ≤ 2 ^ 10)
    (hvl : ∀ x ∈ (stepS fl p st).1.vs, x.length ≤ 2 ^ 12) : R F.need_Ask_inputs #[pB ba, pB bf] M fun v M' => InR Mf M0 M bf r room U last fl ba outs acts br mv (stepS fl p st).1 (stepS fl p st).2 v M' := by
  refine R.cps fun Q hQ => ?_
  obtain ⟨hb0, ⟨ou, i_, o_, ac, ph, o, hou, hac⟩, hr⟩ := h
  apply T_need_Ask_inputs
  unfold S_need_Ask_inputs
  simp only [nilc_p, fad0, (rd12 o).2.2.1]
  refine (Step_ok hu hf hr (by omega) hm hn).mono fun v M1 ⟨e, hu1, hf1, c1, O1, hr1, hO1⟩ => ?_
  subst e
  have hK1 : KeepsL M M1 := hr.keepsL c1
  have o1 := Ob.away o (hr.awayT (by decide) (by decide) (by decide)) c1
  have hou1 : LV sv Ty.string M1 ou outs := hK1 _ _ _ _ _ ⟨by decide, by decide, by decide, by decide, by decide, by decide⟩ hou
  have hac1 : Ls DS Ty.sl_api_Do M1 ac acts := by
    obtain ⟨vs, g1, g2⟩ := hac
    exact ⟨vs, hK1 _ _ _ _ _ ⟨by decide, by decide, by decide, by decide, by decide, by decide⟩ g1, g2.mono fun v x hx => hK1 _ _ _ _ _ ⟨by decide, by decide, by decide, by decide, by decide, by decide⟩ hx⟩
  rw [eql_l 0 0 rfl, BR_dec]
  split
  · rename_i hk
    exact ⟨rfl, hQ _ _ ⟨hu1, hf1, hK1, .inl ⟨hk, rfl, O1, hb0, ⟨ou, i_, o_, ac, ph, o1, hou1, hac1⟩, hr1⟩⟩⟩
  rename_i hk0
  rw [eql_l 2 2 rfl, BR_dec]
  split
  · rename_i hk
    refine (aend_ok o1 3).mono fun v M2 ⟨e, c2, kk, o2⟩ => ?_
    subst e
    exact ⟨rfl, hQ _ _ ⟨hu1.ch c2 (by simpa using hb0), hf1.keep (by decide) (by decide) kk, hK1.trans (kk.keepsL (needT rfl)), .inr (.inl ⟨hk, rfl, _, _, _, _, _, _, _, _, _, _, o2⟩)⟩⟩
  rename_i hk2
  rw [eql_l 3 3 rfl, BR_dec]
  split
  · rename_i hk
    refine (aend_ok o1 4).mono fun v M2 ⟨e, c2, kk, o2⟩ => ?_
    subst e
    exact ⟨rfl, hQ _ _ ⟨hu1.ch c2 (by simpa using hb0), hf1.keep (by decide) (by decide) kk, hK1.trans (kk.keepsL (needT rfl)), .inr (.inr (.inl ⟨hk, rfl, _, _, _, _, _, _, _, _, _, _, o2⟩))⟩⟩
  rename_i hk3
  have hk1 : (stepS fl p st).2 = 1 := by
    rcases stepS_code (fl := fl) (p := p) ho with h | h | h | h
    · exact absurd h hk0
    · exact h
    · exact absurd h hk2
    · exact absurd h hk3
  have hone := stepS_one ho hk1
  simp only [nilc_p, fad0, (rd12 o1).2.2.1]
  have hvz : (stepS fl p st).1.vs.length ≤ 2 ^ 8 := by have := hr1.2.1.v; have := hr1.2.1.le; rw [stepS_L] at this; omega
  refine (Values_ok hr1 (by rw [stepS_L]; omega) (fun x hx => by have := hvl x hx; omega) hone).mono fun v M4 ⟨w, e, u4, hN4⟩ => ?_
  subst e
  rw [(tp2 _ _).1, (tp2 _ _).2]
  obtain ⟨wa, wc, rfl⟩ : ∃ a c, w = .slice a (stepS fl p st).1.vs.length c := by obtain ⟨vs, g, _⟩ := hN4; exact g.sl.slice
  have hB4 : BB M4 (.slice wa (stepS fl p st).1.vs.length wc) (stepS fl p st).1.vs := by
    obtain ⟨vs, q1, q2⟩ := hN4
    exact ⟨vs, q1.sl, q2.mono fun v x h => Nw.sl h⟩
  have hbx : 0 < (stepS fl p st).1.vs.length → ∀ b, bx (.slice wa (stepS fl p st).1.vs.length wc) = some b → b < M4.n := by
    obtain ⟨vs, q1, _⟩ := hB4
    exact Sl.bxP q1
  have o4 := o1.up u4
  refine s_st1 (i := 8) (w := .slice wa (stepS fl p st).1.vs.length wc) o4 (by simp) (cells_sl _ _ _) (oc_sl _ _ _) fun M5 c5 o5 _ => ?_
  refine s_st1 (i := 6) (w := tv true) o5 (by simp) (cells_tv _) (oc_tv _) fun M6 c6 o6 _ => ?_
  have kk := (c5.keepT o4).trans (c6.keepT o5)
  have cc := c5.trans c6
  have o6 : Ob M6 ba [ou, i_, o_, ac, ph, pB br, tv true, .slice none 0 0, .slice wa (stepS fl p st).1.vs.length wc, .slice none 0 0, tv false, nv 0] Ty.need_Ask := o6
  simp only [(rd12 o6).1]
  have hou6 : LV sv Ty.string M6 ou outs := Sl.keep (hou1.up u4) (by decide) kk
  rw [hou6.len, OP_some]
  have hu6 : Up M0 M6 := (hu1.trans u4).ch cc (by simpa using hb0)
  exact in_loop (Mk := M) (Mb := M4) (values := (stepS fl p st).1.vs) hane (hu1.trans u4).n hb0 o4.lt hoz hal hvz hvl hbx
    (fun v M' g1 g2 g3 g4 g5 => by subst g4; exact hQ _ _ ⟨g1, g2, g3, .inr (.inr (.inr ⟨hk1, rfl, g5⟩))⟩) outs.length 0 M6 _ rfl hu6 cc.n ((hf1.up u4).keep (by decide) (by decide) kk) ((hK1.trans u4.keepsL).trans (kk.keepsL (needT rfl))) o6 hou6
    (Ls.keep (E := DS) (fun M M' v x h k => Sl.keep h (by decide) k) (Ls.up DS_upN hac1 u4) (by decide) kk) (Ls.keep (By.keep' (by decide)) hB4 (by decide) kk) NLs.nil
end
end Go.G
