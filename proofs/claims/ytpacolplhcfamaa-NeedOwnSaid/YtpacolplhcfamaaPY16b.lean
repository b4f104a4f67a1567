/- Layer 16: a rule is copied; an asker is made. -/
import Derived.Test.YtpacolplhcfamaaPY16a
import Derived.Test.YtpacolplhcfamaaPY25x
namespace Go.G
open Go.Ab Go.Proofs Go.RowKit
set_option linter.unusedVariables false
set_option linter.unusedSimpArgs false
set_option maxRecDepth 100000

theorem CloneD_ok {M : Store} {v : Value} {l : List Dw} (h : DS M v l) (hl : l.length ≤ 2 ^ 24) : R F.slices_Clone_sl_api_Do_api_Do #[v] M fun v' M' => Up M M' ∧ NK 3 dcs Ty.api_Do M M' v' l := by
  refine R.cps fun Q hQ => ?_
  apply T_slices_Clone_sl_api_Do_api_Do
  unfold S_slices_Clone_sl_api_Do_api_Do
  obtain ⟨a, c, rfl⟩ := h.slice
  rw [abin_nil U.sl_api_Do]
  cases a with
  | none =>
    obtain ⟨h1, a, c', h2, h3, h4⟩ := h
    injection h2 with h2 h5 h6
    subst h2; subst h6
    have : l.length = 0 := by
      rcases Nat.eq_zero_or_pos l.length with h | h
      · exact h
      · obtain ⟨b, o, cells, e', own, h7, _⟩ := h4 h; cases h7
    have hl : l = [] := List.length_eq_zero_iff.1 this
    subst hl
    exact ⟨rfl, hQ _ _ ⟨Ch.refl _ _, Nw.nil _ _ _ _⟩⟩
  | some a =>
    have e0 : ∀ K : List Value → Prop, OP (bldL (.agg #[(.int .i64 0), (.int .i64 0), (.string ⟨#[]⟩)]) 3 0 []) K = K [] := fun K => by kernel_rfl
    rw [Option.isNone_some, BR_bool, if_neg (by decide), e0, LT_eq]
    have hup := Up.push M (some (.inl (([] : List Value), Ty.api_Do, true)))
    have hn : NK 3 dcs Ty.api_Do M (M.push (some (.inl (([] : List Value), Ty.api_Do, true)))) (.slice (some ⟨M.n, 0, none⟩) 0 0) ([] : List Dw) := Nw.lit (n := 0) (cs := []) (Nat.le_refl _) (by simp)
    refine NK.apps hup (Nat.le_refl _) hup.n hn (Sl.up h hup) (by simp; omega) fun v' M' hu' hN' _ _ => ?_
    rw [List.nil_append] at hN'
    exact ⟨nts_of (Nw.sl hN'), hQ _ _ ⟨hu', hN'⟩⟩
/-- A list of things done that is one's own. -/
def ND (Mb : Store) (M : Store) (v : Value) (l : List Dw) : Prop := NK 3 dcs Ty.api_Do Mb M v l
theorem ND.up (Mb M M' : Store) (v : Value) (x : List Dw) (h : ND Mb M v x) (k : Up M M') : ND Mb M' v x := Nw.up h k
theorem ND.keep (Mb : Store) {e : TypeId} (he : Ty.api_Do ≠ e) (M M' : Store) (v : Value) (x : List Dw) (h : ND Mb M v x) (k : Keep e M M') : ND Mb M' v x := Nw.keep h he k
theorem DS_upN (M M' : Store) (v : Value) (x : List Dw) (h : DS M v x) (k : Up M M') : DS M' v x := Sl.up h k
/-- A rule as a value. -/
def RuV (M : Store) (v : Value) (outs ins : List (List UInt8)) (acts : List (List Dw)) (ph : Bool) : Prop :=
  ∃ ou i_ o_ ac, v = .agg #[ou, i_, o_, ac, tv ph] ∧ LV sv Ty.string M ou outs ∧ LV sv Ty.string M i_ ins ∧ LV sv Ty.string M o_ [] ∧ Ls DS Ty.sl_api_Do M ac acts
/-- One that is one's own. -/
def RuN (M0 M : Store) (v : Value) (outs ins : List (List UInt8)) (acts : List (List Dw)) (ph : Bool) : Prop :=
  ∃ a1 c1 a2 c2 a3 c3 a4 c4, v = .agg #[.slice a1 outs.length c1, .slice a2 ins.length c2, .slice a3 0 c3, .slice a4 acts.length c4, tv ph] ∧ NV sv Ty.string M0 M (.slice a1 outs.length c1) outs ∧ NV sv Ty.string M0 M (.slice a2 ins.length c2) ins ∧ NLs (ND M0) Ty.sl_api_Do M0 M (.slice a4 acts.length c4) acts
theorem bx_rule (a b c d : Option Addr) (n1 c1 n2 c2 n3 c3 n4 c4 : Nat) (ph : Bool) : boxv (.agg #[.slice a n1 c1, .slice b n2 c2, .slice c n3 c3, .slice d n4 c4, tv ph]) = some [.slice a n1 c1, .slice b n2 c2, .slice c n3 c3, .slice d n4 c4, tv ph] := by kernel_rfl
theorem bs_rule (a b c : Option Addr) (n1 c1 n2 c2 n3 c3 : Nat) (ph : Bool) : bldS #[(.slice none 0 0), (.slice none 0 0), (.slice none 0 0), (.slice none 0 0), (.bool false)] [(0, 1), (1, 1), (2, 1), (3, 1), (4, 1)] [(0, .slice a n1 c1), (1, .slice b n2 c2), (2, .slice c n3 c3), (4, tv ph)] = some (.agg #[.slice a n1 c1, .slice b n2 c2, .slice c n3 c3, .slice none 0 0, tv ph]) := by kernel_rfl
theorem ru_cells (a b c d : Option Addr) (n1 c1 n2 c2 n3 c3 n4 c4 : Nat) (ph : Bool) : ([.slice a n1 c1, .slice b n2 c2, .slice c n3 c3, .slice d n4 c4, tv ph] : List Value).all (·.oneCell') = true := by kernel_rfl
theorem rd5 {M : Store} {b : Nat} {c0 c1 c2 c3 c4 : Value} {T : TypeId} (o : Ob M b [c0, c1, c2, c3, c4] T) :
    (∀ K : Value → Prop, OP (ld 1 false (.pointer (some ⟨b, 0, none⟩)) M) K = K c0) ∧ (∀ K : Value → Prop, OP (ld 1 false (.pointer (some ⟨b, 1, none⟩)) M) K = K c1) ∧ (∀ K : Value → Prop, OP (ld 1 false (.pointer (some ⟨b, 2, none⟩)) M) K = K c2) ∧ (∀ K : Value → Prop, OP (ld 1 false (.pointer (some ⟨b, 3, none⟩)) M) K = K c3) ∧ (∀ K : Value → Prop, OP (ld 1 false (.pointer (some ⟨b, 4, none⟩)) M) K = K c4) :=
  ⟨fun K => by rw [o.ld (v := c0) rfl, OP_some], fun K => by rw [o.ld (v := c1) rfl, OP_some], fun K => by rw [o.ld (v := c2) rfl, OP_some], fun K => by rw [o.ld (v := c3) rfl, OP_some], fun K => by rw [o.ld (v := c4) rfl, OP_some]⟩
section
variable {M0 : Store} {Q : Value → Store → Prop} {outs ins : List (List UInt8)} {acts : List (List Dw)} {ph : Bool} {b2 b3 : Nat}
theorem Still_loop {x19 : Value} (hac : Ls DS Ty.sl_api_Do M0 x19 acts) (hz : acts.length ≤ 2 ^ 20) (hl : ∀ l ∈ acts, l.length ≤ 2 ^ 20) (hb2 : M0.n ≤ b2) (hb3 : M0.n ≤ b3) (hne : b2 ≠ b3)
    (hQ : ∀ v M, Up M0 M → RuN M0 M v outs ins acts ph → Q v M) : ∀ (k i : Nat) (M : Store) (a1 a2 a3 a4 : Option Addr) (c1 c2 c3 n4 c4 : Nat) (z : List Value), k + i = acts.length → Up M0 M → Ob M b2 z Ty.api_Rule → z.length = 5 → Ob M b3 [.slice a1 outs.length c1, .slice a2 ins.length c2, .slice a3 0 c3, .slice a4 n4 c4, tv ph] Ty.api_Rule →
      NV sv Ty.string M0 M (.slice a1 outs.length c1) outs → NV sv Ty.string M0 M (.slice a2 ins.length c2) ins → NLs (ND M0) Ty.sl_api_Do M0 M (.slice a4 n4 c4) (acts.take i) → P_need_Still_1 (pB b2) (pB b3) x19 (nv acts.length) (nv i) M Q := by
  intro k
  induction k with
  | zero =>
    intro i M a1 a2 a3 a4 c1 c2 c3 n4 c4 z hi hu o2 hzl o3 h1 h2 h4
    apply T_need_Still_1
    unfold S_need_Still_1
    rw [lss_n, BR_dec, if_neg (by omega)]
    apply T_need_Still_3
    unfold S_need_Still_3
    rw [List.take_of_length_le (by omega)] at h4
    have hn4 : n4 = acts.length := by obtain ⟨vs, g, _⟩ := h4; obtain ⟨a, c, e⟩ := g.sl.slice; injection e
    subst hn4
    rw [o3.ldA (s := 5) rfl, OP_some]
    refine s_st (vs := [.slice a1 outs.length c1, .slice a2 ins.length c2, .slice a3 0 c3, .slice a4 acts.length c4, tv ph]) o2 hzl rfl (ru_cells _ _ _ _ _ _ _ _ _ _ _ _ _) fun M1 cc o2' _ => ?_
    rw [o2'.ldA (s := 5) rfl, OP_some]
    have kk := cc.keepT o2
    exact ⟨rfl, hQ _ _ (hu.ch cc (by simpa using hb2)) ⟨a1, c1, a2, c2, a3, c3, a4, c4, rfl, Nw.keep h1 (by decide) kk, Nw.keep h2 (by decide) kk, NLs.keep (ND.keep M0 (by decide)) h4 (by decide) kk⟩⟩
  | succ k ih =>
    intro i M a1 a2 a3 a4 c1 c2 c3 n4 c4 z hi hu o2 hzl o3 h1 h2 h4
    have hil : i < acts.length := by omega
    apply T_need_Still_1
    unfold S_need_Still_1
    rw [lss_n, BR_dec, if_pos hil]
    apply T_need_Still_2
    unfold S_need_Still_2
    obtain ⟨p, w, e1, e2, hw⟩ := (Ls.up (E := DS) DS_upN hac hu).at hil .i64
    rw [e1, OP_some, e2, OP_some]
    simp only [fad0, (rd5 o3).2.2.2.1]
    refine (CloneD_ok hw (by have := hl _ (List.getElem_mem hil); omega)).mono fun w' M1 ⟨u1, hw'⟩ => ⟨u1.tdj _ _, ?_⟩
    obtain ⟨xa, xc, rfl⟩ := (Nw.sl hw').slice
    rw [bl_sl1, LT_eq]
    have hx : ND M0 M1 (.slice xa acts[i].length xc) acts[i] := Nw.base hw' hu.n
    obtain ⟨v', M3, e3, hu3, hN3, hk3, hc3, hb3', hkl3⟩ := NLs.appC (M0 := M0) (ND.keep M0 (by decide)) (hu.trans u1) (Nat.le_refl _) (hu.trans u1).n (NLs.up (ND.up M0) h4 u1) hx (by simp; omega)
    rw [e3, OP2_some]
    have hbl : ∀ c ∈ kl (.slice a4 n4 c4), c < M.n := fun c hc => by obtain ⟨vs, g, _⟩ := h4; exact (g.bx_in (mem_kl.1 hc)).2
    refine ⟨hc3.tdxO fun c hc => ?_, ?_⟩
    · obtain ⟨_, _, cells, g2⟩ := hkl3 c hc
      exact ⟨by rw [g2]; rfl, hbl c hc⟩
    obtain ⟨va, vc, rfl⟩ : ∃ a c, v' = .slice a (acts.take i ++ [acts[i]]).length c := by obtain ⟨vs, g, _⟩ := hN3; exact g.sl.slice
    have o31 := (o3.up u1).keep (show Ty.api_Rule ≠ Ty.sl_api_Do by decide) hk3
    have o21 := (o2.up u1).keep (show Ty.api_Rule ≠ Ty.sl_api_Do by decide) hk3
    refine s_st1 (i := 3) (w := .slice va (acts.take i ++ [acts[i]]).length vc) o31 (by simp) (cells_sl _ _ _) (oc_sl _ _ _) fun M4 c4' o4 _ => ⟨c4'.tdx o31 (by simpa using o3.lt), ?_⟩
    rw [add1_n _ (by omega)]
    have kk := c4'.keepT o31
    rw [← List.take_succ_eq_append_getElem hil] at hN3 o4
    refine ih (i + 1) M4 a1 a2 a3 va c1 c2 c3 _ vc z (by omega) (hu3.ch c4' (by simpa using hb3)) (o21.fr c4' (by simpa using hne)) hzl o4 (Nw.keep (Nw.keep (Nw.up h1 u1) (by decide) hk3) (by decide) kk) (Nw.keep (Nw.keep (Nw.up h2 u1) (by decide) hk3) (by decide) kk) (NLs.keep (ND.keep M0 (by decide)) hN3 (by decide) kk)
end
end Go.G
