/- Layer 16: an asker is made; a step of reading its inputs. -/
import Derived.Test.YtpacolplhcfamaaPY16b
namespace Go.G
open Go.Ab Go.Proofs Go.RowKit
set_option linter.unusedVariables false
set_option linter.unusedSimpArgs false
set_option maxRecDepth 100000

theorem Still_ok {M : Store} {v : Value} {outs ins : List (List UInt8)} {acts : List (List Dw)} {ph : Bool} (h : RuV M v outs ins acts ph) (h1 : outs.length ≤ 2 ^ 20) (h2 : ins.length ≤ 2 ^ 20) (h3 : acts.length ≤ 2 ^ 20) (h4 : ∀ l ∈ acts, l.length ≤ 2 ^ 20) :
    R F.need_Still #[v] M fun v' M' => Up M M' ∧ RuN M M' v' outs ins acts ph := by
  refine R.cps fun Q hQ => ?_
  obtain ⟨ou, i_, o_, ac, rfl, hou, hin, hor, hac⟩ := h
  obtain ⟨oa, oc, rfl⟩ := hou.slice
  obtain ⟨ia, ic, rfl⟩ := hin.slice
  obtain ⟨ra, rc, rfl⟩ := hor.slice
  obtain ⟨aa, an, acc, rfl⟩ : ∃ a n c, ac = .slice a n c := by obtain ⟨vs, g, _⟩ := hac; obtain ⟨a, c, e⟩ := g.slice; exact ⟨a, _, c, e⟩
  have han : an = acts.length := by obtain ⟨vs, g, _⟩ := hac; obtain ⟨a, c, e⟩ := g.slice; injection e
  subst han
  apply T_need_Still
  unfold S_need_Still
  rw [bx_rule, OP_some]
  refine s_new fun M1 u1 o1 n1 => ?_
  refine s_new fun M2 u2 o2 n2 => ?_
  have u02 := u1.trans u2
  have o12 := o1.up u2
  simp only [fad0, (rd5 o12).1]
  refine (CloneS_ok (hou.up u02) (by omega)).mono fun w1 M3 ⟨u3, hN1⟩ => ⟨u3.tdj _ _, ?_⟩
  simp only [fad0, (rd5 (o12.up u3)).2.1]
  refine (CloneS_ok ((hin.up u02).up u3) (by omega)).mono fun w2 M4 ⟨u4, hN2⟩ => ⟨u4.tdj _ _, ?_⟩
  simp only [fad0, (rd5 ((o12.up u3).up u4)).2.2.1]
  refine (CloneS_ok (l := []) (((hor.up u02).up u3).up u4) (by simp)).mono fun w3 M5 ⟨u5, hN3⟩ => ⟨u5.tdj _ _, ?_⟩
  have o15 := ((o12.up u3).up u4).up u5
  simp only [fad0, (rd5 o15).2.2.2.2]
  obtain ⟨a1, c1, rfl⟩ := hN1.sl.slice
  obtain ⟨a2, c2, rfl⟩ := hN2.sl.slice
  obtain ⟨a3, c3, rfl⟩ := hN3.sl.slice
  rw [bs_rule, OP_some]
  refine s_new fun M6 u6 o6 n6 => ?_
  have o16 := o15.up u6
  have u25 := (u3.trans u4).trans u5
  have o26 := ((((o2.up u3).up u4).up u5).up u6)
  refine s_st (vs := [.slice a1 outs.length c1, .slice a2 ins.length c2, .slice a3 0 c3, .slice none 0 0, tv ph]) o6 rfl rfl (ru_cells _ _ _ _ _ _ _ _ _ _ _ _ _) fun M7 c7 o7 _ => ⟨Ch.tdxR c7 (by have : M6.get M5.n = some _ := o6; rw [this]; rfl) (accB_of (j := 12) (by decide) (by decide) (by simp) (by simp; omega)), ?_⟩
  have hne1 : M.n ≠ M5.n := by have := u02.n; have := u25.n; have := u1.n; omega
  have hne2 : M1.n ≠ M5.n := by have := u2.n; have := u25.n; omega
  have o17 := o16.fr c7 (by simpa using hne1)
  have o27 := o26.fr c7 (by simpa using hne2)
  simp only [fad0, (rd5 o17).2.2.2.1]
  have u07 : Up M M7 := ((u02.trans u25).trans u6).ch c7 fun b hb => by simp at hb; subst hb; have := u02.n; have := u25.n; omega
  have kk := c7.keepT o6
  rw [show ∀ K : Value → Prop, OP (lenV (.slice aa acts.length acc)) K = K (nv acts.length) from fun K => rfl]
  have hb : ∀ {e s v n cs} {Ma : Store}, M.n ≤ Ma.n → Nw s e Ma M5 v n cs → e ≠ Ty.api_Rule → Nw s e M M7 v n cs := fun hn h he => Nw.keep (Nw.up (Nw.base h hn) u6) he kk
  have hM2 := u02.n
  have hM3 := u3.n
  exact Still_loop (M0 := M) (b2 := M1.n) (b3 := M5.n) (z := [(.slice none 0 0), (.slice none 0 0), (.slice none 0 0), (.slice none 0 0), (.bool false)]) hac h3 h4 u1.n (by have := u25.n; omega) hne2 (fun v M' u h => hQ _ _ ⟨u, h⟩) acts.length 0 M7 a1 a2 a3 none c1 c2 c3 0 0 rfl u07 o27 rfl o7
    (hb hM2 (Nw.up (Nw.up hN1 u4) u5) (by decide)) (hb (Nat.le_trans hM2 hM3) (Nw.up hN2 u5) (by decide)) NLs.nil
theorem bs_ask (a b c d : Option Addr) (n1 c1 n2 c2 n3 c3 n4 c4 br : Nat) (ph : Bool) : bldS #[(.slice none 0 0), (.slice none 0 0), (.slice none 0 0), (.slice none 0 0), (.bool false), (.pointer none), (.bool false), (.slice none 0 0), (.slice none 0 0), (.slice none 0 0), (.bool false), (.int .i64 0)] [(0, 5), (5, 1), (6, 1), (7, 1), (8, 1), (9, 1), (10, 1), (11, 1)] [(0, .agg #[.slice a n1 c1, .slice b n2 c2, .slice c n3 c3, .slice d n4 c4, tv ph]), (1, pB br)] =
    some (.agg #[.slice a n1 c1, .slice b n2 c2, .slice c n3 c3, .slice d n4 c4, tv ph, pB br, tv false, .slice none 0 0, .slice none 0 0, .slice none 0 0, tv false, nv 0]) := by kernel_rfl
theorem bx_ask (a b c d : Option Addr) (n1 c1 n2 c2 n3 c3 n4 c4 br : Nat) (ph : Bool) : boxv (.agg #[.slice a n1 c1, .slice b n2 c2, .slice c n3 c3, .slice d n4 c4, tv ph, pB br, tv false, .slice none 0 0, .slice none 0 0, .slice none 0 0, tv false, nv 0]) = some [.slice a n1 c1, .slice b n2 c2, .slice c n3 c3, .slice d n4 c4, tv ph, pB br, tv false, .slice none 0 0, .slice none 0 0, .slice none 0 0, tv false, nv 0] := by kernel_rfl
theorem NewA_ok {M : Store} {v : Value} {outs ins : List (List UInt8)} {acts : List (List Dw)} {ph : Bool} (h : RuV M v outs ins acts ph) (h1 : outs.length ≤ 2 ^ 20) (h2 : ins.length ≤ 2 ^ 20) (h3 : acts.length ≤ 2 ^ 20) (h4 : ∀ l ∈ acts, l.length ≤ 2 ^ 20) (f : FuncId) :
    R F.need_New #[v, .func (.func f) #[] #[]] M fun v' M' => Up M M' ∧ ∃ ba br, v' = pB ba ∧ ∀ (S : List Nat) (M2 : Store), (∀ b ∈ S, b < M.n) → Ch S M' M2 → AskA M M2 ba outs acts false 0 br (.func (.func f) #[] #[]) (RSt.new ins) [br] := by
  refine R.cps fun Q hQ => ?_
  have h0 := h
  obtain ⟨ou, i_, o_, ac, rfl, hou, hin, hor, hac⟩ := h
  obtain ⟨oa, oc, rfl⟩ := hou.slice
  obtain ⟨ia, ic, rfl⟩ := hin.slice
  obtain ⟨ra, rc, rfl⟩ := hor.slice
  obtain ⟨aa, an, acc, rfl⟩ : ∃ a n c, ac = .slice a n c := by obtain ⟨vs, g, _⟩ := hac; obtain ⟨a, c, e⟩ := g.slice; exact ⟨a, _, c, e⟩
  apply T_need_New
  unfold S_need_New
  rw [bx_rule, OP_some]
  refine s_new fun M1 u1 o1 n1 => ?_
  rw [o1.ldA (s := 5) rfl, OP_some]
  have hV1 : RuV M1 (.agg #[.slice oa outs.length oc, .slice ia ins.length ic, .slice ra 0 rc, .slice aa an acc, tv ph]) outs ins acts ph := ⟨_, _, _, _, rfl, hou.up u1, hin.up u1, hor.up u1, Ls.up DS_upN hac u1⟩
  refine (Still_ok hV1 h1 h2 h3 h4).mono fun w M2 ⟨u2, a1, c1, a2, c2, a3, c3, a4, c4, e, hN1, hN2, hN4⟩ => ⟨u2.tdj _ _, ?_⟩
  subst e
  simp only [fad0, (rd5 (o1.up u2)).2.1]
  refine (NewR_ok ((hin.up u1).up u2) (by omega) f).mono fun rv M3 ⟨u3, br, e, hR⟩ => ⟨u3.tdx _ _ _, ?_⟩
  subst e
  rw [bs_ask, OP_some, bx_ask, OP_some]
  refine s_new fun M4 u4 o4 n4 => ?_
  have u12 := u1.trans u2
  refine ⟨rfl, hQ _ _ ⟨(u12.trans u3).trans u4, M3.n, br, rfl, fun S Mx hS c => ?_⟩⟩
  have hS1 : ∀ b ∈ S, b < M1.n := fun b hb => Nat.lt_of_lt_of_le (hS b hb) u1.n
  refine ⟨by have := u12.n; have := u3.n; omega, ?_, ?_⟩
  · refine ⟨_, _, _, _, _, o4.fr c (fun hm => by have := hS _ hm; have := u12.n; have := u3.n; omega), (Nw.chO (Nw.up (Nw.up hN1 u3) u4) c hS1).sl, ?_⟩
    obtain ⟨vs, g1, g2⟩ := hN4
    exact ⟨vs, (Nw.chO (Nw.up (Nw.up g1 u3) u4) c hS1).sl, g2.mono fun v x hx => Nw.sl (Nw.chO (Nw.up (Nw.up hx u3) u4) c hS1)⟩
  · exact (hR S Mx (fun b hb => Nat.lt_of_lt_of_le (hS b hb) u12.n) (Ch.trans' (Up.any u4) c fun b hb => .inl hb)).base u12.n
end Go.G
