/- Layer 18: what is ready, by the program and by the document. -/
import Derived.Test.YtnonfejhkbaikaaPY18a
import Derived.Test.YtnonfejhkbaikaaPM8h
namespace Go.G
open Go.Ab Go.Proofs Go.RowKit
set_option linter.unusedVariables false
set_option linter.unusedSimpArgs false
set_option maxRecDepth 100000
def tw (rs : List RuT) (S : List Int) (k : Nat) : List Int := ((rs.getD k ru0).ins ++ (rs.getD k ru0).order).flatMap fun s => eV rs S s rs.length
theorem qh {rs : List RuT} {S : List Int} {k : Nat} (hk : k < rs.length) {z : Int} : z ∈ tw rs S k ↔ ∃ j ∈ ndN rs k, z = stF S j := by
 unfold tw eV
 rw [aM hk, List.mem_flatMap]
 constructor
 ·rintro ⟨s, hs, hz⟩
  obtain ⟨j, hj, rfl⟩ := List.mem_map.1 hz
  rw [List.mem_filter, List.mem_range] at hj
  refine ⟨j, (tM hk).2 ⟨hj.1, s, ?_, hs⟩, rfl⟩
  have := of_decide_eq_true hj.2
  rwa [aM hj.1] at this
 ·rintro ⟨j, hj, rfl⟩
  obtain ⟨hjl, s, h1, h2⟩ := (tM hk).1 hj
  refine ⟨s, h2, List.mem_map.2 ⟨j, ?_, rfl⟩⟩
  rw [List.mem_filter, List.mem_range]
  exact ⟨hjl, decide_eq_true (by rw [aM hjl]; exact h1)⟩
theorem Br {rs : List RuT} {S : List Int} {k : Nat} (hs : SmallRs rs) (hk : k < rs.length) : (tw rs S k).length ≤ 8192 := by
 have key : ∀ l : List (List UInt8), (l.flatMap fun s => eV rs S s rs.length).length ≤ l.length * 64 := by
  intro l
  induction l with
  | nil => simp
  | cons s l ih =>
   rw [List.flatMap_cons, List.length_append, List.length_cons]
   have h1 := vl rs S s rs.length
   have h2 := hs.1
   omega
 unfold tw
 rw [aM hk]
 have h1 := key (rs[k].ins ++ rs[k].order)
 have h2 := hs.2 _ (List.getElem_mem hk)
 rw [List.length_append] at h1
 omega
section
variable {rs : List RuT} {S : List Int} {k : Nat} {ds : List (List UInt8)} {Q : Value → Store → Prop}
theorem yQ {M : Store} {v p : Value} (h : MV M v rs ds) (hp : PV M p rs.length S) (hs : SmallRs rs) (hk : k < rs.length) : R F.r #[v, p, iv (k : Int)] M fun w M' => Up M M' ∧ NV iv Ty.b M M' w (tw rs S k) := by
 refine R.cps fun Q hQ => ?_
 obtain ⟨vR, vD, rfl, hR, hD⟩ := h
 obtain ⟨vA, vS, rfl, hA, hS, hSl⟩ := hp
 apply zb
 unfold qt
 rw [cX hR hD, ab]
 refine au fun M1 u1 o1 n1 => ?_
 rw [kD hA hS, ab]
 refine au fun M2 u2 o2 n2 => ?_
 have u12 := u1.trans u2
 have o1 : Mz M2 M.n vR vD := Ob.up o1 u2
 have o2 : Pb M2 M1.n vA vS := o2
 have hR2 := hR.up u12
 have hsk := hs.2 _ (List.getElem_mem hk)
 rw [eA 0 0 rfl, ae, if_neg (by omega), bV o1, hR2.len, ab, gm, ae, if_neg (by omega)]
 obtain ⟨c, hc, hf⟩ := hR2.fld hk
 rw [bV o1, hf 1 c.2.1 rfl, bV o1, hf 2 c.2.2.1 rfl]
 obtain ⟨a1, k1, e1⟩ := Sl.slice hc.i
 obtain ⟨a2, k2, e2⟩ := Sl.slice hc.d
 have hi := hc.i
 have hd := hc.d
 rw [e1] at hi ⊢
 rw [e2] at hd ⊢
 rw [Fo]
 refine qf (s := 1) (n := 2) rfl fun M3 u3 hN3 o3 n3 => ?_
 refine (vF (Nw.sl hN3) (hi.up u3) (hd.up u3) (by omega) (by omega)).mono fun w M4 ⟨u4, hw⟩ => ⟨u4.tdx _ _ _, ?_⟩
 have u34 := u3.trans u4
 have u04 := u12.trans u34
 rw [hw.lv.len, ab]
 refine J2 (M0 := M4) (Ob.up o1 u34) (hR2.up u34) (Sl.up hD u04) hs (Ob.up o2 u34) (Sl.up hA u04) (Sl.up hS u04) hSl hw.lv (by rw [List.length_append]; omega) (fun q M' hu hN => hQ _ _ ⟨u04.trans hu, ?_⟩) _ 0 _ M4 rfl (Ch.refl _ _) NV.nil (by simp)
 unfold tw
 rw [aM hk]
 exact Nw.base hN u04.n
def j6 (rs : List RuT) (S : List Int) (i : Nat) : Bool := decide (stF S i = 1) && (ndN rs i).all fun j => decide (stF S j = 0) || decide (stF S j = 2)
def dG (rs : List RuT) (S : List Int) : List Nat := (List.range rs.length).filter (j6 rs S)
theorem Il {M : Store} {z : Int} : KC (.func (.func F.k) #[] #[]) [iv z] M fun v M' => Up M M' ∧ v = tv (decide (z ≠ 0) && decide (z ≠ 2)) := by
 show R F.k #[iv z] M _
 refine R.cps fun Q hQ => ?_
 apply wy
 unfold mH
 show OP (ad .neq (.int .i64 z) (.int .i64 0)) _
 rw [iC, ae]
 split
 ·rename_i h
  show OP (ad .neq (.int .i64 z) (.int .i64 2)) _
  rw [iC]
  exact ⟨rfl, hQ _ _ ⟨Ch.refl _ _, by rw [decide_eq_true h, Bool.true_and]⟩⟩
 ·rename_i h
  exact ⟨rfl, hQ _ _ ⟨Ch.refl _ _, by rw [decide_eq_false h, Bool.false_and]⟩⟩
theorem Ik {i : Nat} (hi : i < rs.length) : ((tw rs S i).any fun z => decide (z ≠ 0) && decide (z ≠ 2)) = !((ndN rs i).all fun j => decide (stF S j = 0) || decide (stF S j = 2)) := by
 cases h : (ndN rs i).all fun j => decide (stF S j = 0) || decide (stF S j = 2) with
 | true =>
  rw [Bool.not_true, List.any_eq_false]
  intro z hz
  obtain ⟨j, hj, rfl⟩ := (qh hi).1 hz
  have := List.all_eq_true.1 h j hj
  simp only [Bool.or_eq_true, decide_eq_true_eq] at this
  simp only [Bool.and_eq_true, decide_eq_true_eq, ne_eq, not_and, Decidable.not_not]
  intro h0
  rcases this with h1 | h1
  ·exact absurd h1 h0
  ·exact h1
 | false =>
  rw [Bool.not_false, List.any_eq_true]
  rw [List.all_eq_false] at h
  obtain ⟨j, hj, h1⟩ := h
  simp only [Bool.or_eq_true, decide_eq_true_eq, not_or] at h1
  exact ⟨stF S j, (qh hi).2 ⟨j, hj, rfl⟩, by simp [h1.1, h1.2]⟩
theorem El {M0 : Store} {b2 b3 : Nat} {vR vD vA vS : Value} (o2 : Mz M0 b2 vR vD) (hR : RL M0 vR rs) (hD : LV sv Ty.a M0 vD ds) (hs : SmallRs rs) (o3 : Pb M0 b3 vA vS) (hA : LV iv Ty.b M0 vA (aj (List.range rs.length))) (hS : LV iv Ty.b M0 vS S) (hSl : S.length = rs.length)
    (hQ : ∀ w M, Up M0 M → NV iv Ty.b M0 M w (aj (dG rs S)) → Q w M) :
    ∀ (d i : Nat) (x5 : Value) (M : Store), d + i = rs.length → Up M0 M → NV iv Ty.b M0 M x5 (aj ((List.range i).filter (j6 rs S))) → bl (pt b2) (pt b3) x5 vA (iv (rs.length : Int)) (iv (i : Int)) M Q := by
 have hsl := hs.1
 intro d
 induction d with
 | zero =>
  intro i x5 M hi hu hN
  apply ov
  unfold i1
  rw [ai, ae, if_neg (by omega)]
  apply xH
  unfold oh
  have : i = rs.length := by omega
  subst this
  exact ⟨eF hN.lv, hQ _ _ hu hN⟩
 | succ d ih =>
  intro i x5 M hi hu hN
  have hil : i < rs.length := by omega
  have hir : i < (aj (List.range rs.length)).length := by rw [bt]; exact hil
  have hfl : ((List.range i).filter (j6 rs S)).length ≤ i := by
   have := List.length_filter_le (j6 rs S) (List.range i)
   rwa [List.length_range] at this
  have skip : ∀ M', Up M0 M' → NV iv Ty.b M0 M' x5 (aj ((List.range i).filter (j6 rs S))) → j6 rs S i = false → OP (ad .add (iv (i : Int)) (.int .i64 1)) fun t33 => bl (pt b2) (pt b3) x5 vA (iv (rs.length : Int)) t33 M' Q := by
   intro M' hu' hN' hb
   rw [ag _ (by omega)]
   refine ih (i + 1) x5 M' (by omega) hu' ?_
   rw [List.range_succ, List.filter_append, List.filter_cons_of_neg (by rw [hb]; decide), List.filter_nil, List.append_nil]
   exact hN'
  have hPV : ∀ M', Up M0 M' → PV M' (.agg (mcs vA vS).toArray) rs.length S := fun M' u => ⟨vA, vS, rfl, Sl.up hA u, Sl.up hS u, hSl⟩
  apply ov
  unfold i1
  rw [ai, ae, if_pos hil]
  apply xG
  unfold og
  obtain ⟨p, e1, e2⟩ := (LV.up hA hu).at hir .i64
  rw [oL] at e2
  rw [e1, ab, e2, ab, (Ob.up o3 hu).ldA (s := 2) rfl, ab]
  refine (vw (hPV M hu) (by omega) hil).mono fun q M1 ⟨u1, e⟩ => ?_
  subst e
  have hu1 := hu.trans u1
  show OP (ad .eql (.int .i64 (stF S i)) (.int .i64 1)) _
  rw [de, ae]
  split
  ·rename_i h1
   rw [(Ob.up o2 hu1).ldA (s := 2) rfl, ab, (Ob.up o3 hu1).ldA (s := 2) rfl, ab]
   refine (yQ (ds := ds) ⟨vR, vD, rfl, hR.up hu1, Sl.up hD hu1⟩ (hPV M1 hu1) hs hil).mono fun w M2 ⟨u2, hw⟩ => ?_
   have hu2 := hu1.trans u2
   have hll := Br (S := S) hs hil
   refine (eQ hw.lv (by omega) (fun z => decide (z ≠ 0) && decide (z ≠ 2)) (fun M' _ z _ => Il)).mono fun q M3 ⟨u3, e⟩ => ?_
   subst e
   have hu3 := hu2.trans u3
   have hN3 := Nw.up (Nw.up (Nw.up hN u1) u2) u3
   rw [Ik hil, aI, Bool.not_not, aw]
   split
   ·rename_i hb
    rw [kh, aY]
    refine NV.app1 (M0 := M0) (Mb := M0) hu3 (Nat.le_refl _) hu3.n hN3 (i : Int) rfl (by rw [ax]; omega) fun w' M' hu' hN' _ _ => ?_
    rw [ag _ (by omega)]
    refine ih (i + 1) w' M' (by omega) hu' ?_
    rw [List.range_succ, List.filter_append, List.filter_cons_of_pos (by unfold j6; rw [decide_eq_true h1, Bool.true_and]; exact hb), List.filter_nil, fA]
    exact hN'
   ·rename_i hb
    exact skip M3 hu3 hN3 (by unfold j6; rw [decide_eq_true h1, Bool.true_and]; simpa using hb)
  ·rename_i h1
   exact skip M1 hu1 (Nw.up hN u1) (by unfold j6; rw [decide_eq_false h1, Bool.false_and])
theorem EN {M : Store} {v p : Value} (h : MV M v rs ds) (hp : PV M p rs.length S) (hs : SmallRs rs) : R F.F #[v, p] M fun w M' => Up M M' ∧ NV iv Ty.b M M' w (aj (dG rs S)) := by
 refine R.cps fun Q hQ => ?_
 obtain ⟨vR, vD, rfl, hR, hD⟩ := h
 obtain ⟨vA, vS, rfl, hA, hS, hSl⟩ := hp
 apply zX
 unfold rn
 rw [cX hR hD, ab]
 refine au fun M1 u1 o1 n1 => ?_
 rw [kD hA hS, ab]
 refine au fun M2 u2 o2 n2 => ?_
 have u12 := u1.trans u2
 have o2 : Pb M2 M1.n vA vS := o2
 rw [nP o2, LV.len (LV.up hA u12), ab, bt]
 exact El (M0 := M2) (Ob.up o1 u2) (hR.up u12) (Sl.up hD u12) hs o2 (Sl.up hA u12) (Sl.up hS u12) hSl (fun w M' hu hN => hQ _ _ ⟨u12.trans hu, Nw.base hN u12.n⟩) rs.length 0 _ M2 rfl (Ch.refl _ _) NV.nil
theorem Ct {M : Store} {p : Value} {n : Nat} (hp : PV M p n S) (hn : n ≤ 2 ^ 20) : R F.N #[p] M fun r M' => Up M M' ∧ r = tv (!decide ((1 : Int) ∈ S)) := by
 refine R.cps fun Q hQ => ?_
 obtain ⟨vA, vS, rfl, hA, hS, hSl⟩ := hp
 apply BD
 unfold tX
 rw [kD hA hS, ab]
 refine au fun M1 u1 o1 n1 => ?_
 have o1 : Pb M1 M.n vA vS := o1
 rw [mo o1]
 refine zA (LV.up hS u1) (by omega) ?_
 rw [aI]
 exact ⟨rfl, hQ _ _ ⟨u1, rfl⟩⟩
end
end Go.G
