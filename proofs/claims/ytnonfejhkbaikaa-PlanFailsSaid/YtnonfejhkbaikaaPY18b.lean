/- Layer 18: what is ready, by the program and by the document. -/
import Derived.Test.YtnonfejhkbaikaaPY18a
import Derived.Test.YtnonfejhkbaikaaPM8h
namespace Go.G
open Go.Ab Go.Proofs Go.RowKit
set_option linter.unusedVariables false
set_option linter.unusedSimpArgs false
set_option maxRecDepth 100000
def sU (rs : List RuT) (S : List Int) (k : Nat) : List Int := ((rs.getD k ru0).ins ++ (rs.getD k ru0).order).flatMap fun s => eY rs S s rs.length
theorem pU {rs : List RuT} {S : List Int} {k : Nat} (hk : k < rs.length) {z : Int} : z ∈ sU rs S k ↔ ∃ j ∈ ndN rs k, z = stF S j := by
 unfold sU eY
 rw [aK hk, List.mem_flatMap]
 constructor
 ·rintro ⟨s, hs, hz⟩
  obtain ⟨j, hj, rfl⟩ := List.mem_map.1 hz
  rw [List.mem_filter, List.mem_range] at hj
  refine ⟨j, (tf hk).2 ⟨hj.1, s, ?_, hs⟩, rfl⟩
  have := of_decide_eq_true hj.2
  rwa [aK hj.1] at this
 ·rintro ⟨j, hj, rfl⟩
  obtain ⟨hjl, s, h1, h2⟩ := (tf hk).1 hj
  refine ⟨s, h2, List.mem_map.2 ⟨j, ?_, rfl⟩⟩
  rw [List.mem_filter, List.mem_range]
  exact ⟨hjl, decide_eq_true (by rw [aK hjl]; exact h1)⟩
theorem A6 {rs : List RuT} {S : List Int} {k : Nat} (hs : SmallRs rs) (hk : k < rs.length) : (sU rs S k).length ≤ 8192 := by
 have key : ∀ l : List (List UInt8), (l.flatMap fun s => eY rs S s rs.length).length ≤ l.length * 64 := by
  intro l
  induction l with
  | nil => simp
  | cons s l ih =>
   rw [List.flatMap_cons, List.length_append, List.length_cons]
   have h1 := uJ rs S s rs.length
   have h2 := hs.1
   omega
 unfold sU
 rw [aK hk]
 have h1 := key (rs[k].ins ++ rs[k].order)
 have h2 := hs.2 _ (List.getElem_mem hk)
 rw [List.length_append] at h1
 omega
section
variable {rs : List RuT} {S : List Int} {k : Nat} {ds : List (List UInt8)} {Q : Value → Store → Prop}
theorem yu {M : Store} {v p : Value} (h : MV M v rs ds) (hp : PV M p rs.length S) (hs : SmallRs rs) (hk : k < rs.length) : R F.s #[v, p, iv (k : Int)] M fun w M' => Up M M' ∧ NV iv Ty.b M M' w (sU rs S k) := by
 refine R.cps fun Q hQ => ?_
 obtain ⟨vR, vD, rfl, hR, hD⟩ := h
 obtain ⟨vA, vS, rfl, hA, hS, hSl⟩ := hp
 apply yO
 unfold qb
 rw [da hR hD, ab]
 refine aq fun M1 u1 o1 n1 => ?_
 rw [oO hA hS, ab]
 refine aq fun M2 u2 o2 n2 => ?_
 have u12 := u1.trans u2
 have o1 : Mz M2 M.n vR vD := Ob.up o1 u2
 have o2 : Pb M2 M1.n vA vS := o2
 have hR2 := hR.up u12
 have hsk := hs.2 _ (List.getElem_mem hk)
 rw [eD 0 0 rfl, ae, if_neg (by omega), bw o1, hR2.len, ab, gD, ae, if_neg (by omega)]
 obtain ⟨c, hc, hf⟩ := hR2.fld hk
 rw [bw o1, hf 1 c.2.1 rfl, bw o1, hf 2 c.2.2.1 rfl]
 obtain ⟨a1, k1, e1⟩ := Sl.slice hc.i
 obtain ⟨a2, k2, e2⟩ := Sl.slice hc.d
 have hi := hc.i
 have hd := hc.d
 rw [e1] at hi ⊢
 rw [e2] at hd ⊢
 rw [EU]
 refine pS (s := 1) (n := 2) rfl fun M3 u3 hN3 o3 n3 => ?_
 refine (uZ (Nw.sl hN3) (hi.up u3) (hd.up u3) (by omega) (by omega)).mono fun w M4 ⟨u4, hw⟩ => ⟨u4.tdx _ _ _, ?_⟩
 have u34 := u3.trans u4
 have u04 := u12.trans u34
 rw [hw.lv.len, ab]
 refine JF (M0 := M4) (Ob.up o1 u34) (hR2.up u34) (Sl.up hD u04) hs (Ob.up o2 u34) (Sl.up hA u04) (Sl.up hS u04) hSl hw.lv (by rw [List.length_append]; omega) (fun q M' hu hN => hQ _ _ ⟨u04.trans hu, ?_⟩) _ 0 _ M4 rfl (Ch.refl _ _) NV.nil (by simp)
 unfold sU
 rw [aK hk]
 exact Nw.base hN u04.n
def je (rs : List RuT) (S : List Int) (i : Nat) : Bool := decide (stF S i = 1) && (ndN rs i).all fun j => decide (stF S j = 0) || decide (stF S j = 2)
def iJ (rs : List RuT) (S : List Int) : List Nat := (List.range rs.length).filter (je rs S)
theorem HW {M : Store} {z : Int} : KC (.func (.func F.k) #[] #[]) [iv z] M fun v M' => Up M M' ∧ v = tv (decide (z ≠ 0) && decide (z ≠ 2)) := by
 show R F.k #[iv z] M _
 refine R.cps fun Q hQ => ?_
 apply vU
 unfold mL
 show OP (ad .neq (.int .i64 z) (.int .i64 0)) _
 rw [pz, ae]
 split
 ·rename_i h
  show OP (ad .neq (.int .i64 z) (.int .i64 2)) _
  rw [pz]
  exact ⟨rfl, hQ _ _ ⟨Ch.refl _ _, by rw [decide_eq_true h, Bool.true_and]⟩⟩
 ·rename_i h
  exact ⟨rfl, hQ _ _ ⟨Ch.refl _ _, by rw [decide_eq_false h, Bool.false_and]⟩⟩
theorem HV {i : Nat} (hi : i < rs.length) : ((sU rs S i).any fun z => decide (z ≠ 0) && decide (z ≠ 2)) = !((ndN rs i).all fun j => decide (stF S j = 0) || decide (stF S j = 2)) := by
 cases h : (ndN rs i).all fun j => decide (stF S j = 0) || decide (stF S j = 2) with
 | true =>
  rw [Bool.not_true, List.any_eq_false]
  intro z hz
  obtain ⟨j, hj, rfl⟩ := (pU hi).1 hz
  have := List.all_eq_true.1 h j hj
  simp only [Bool.or_eq_true, decide_eq_true_eq] at this
  simp only [Bool.and_eq_true, decide_eq_true_eq, ne_eq, not_and, Decidable.not_not]
  intro h0
  rcases this with h1 | h1
  ·exact absurd h1 h0
  ·exact h1
 | false =>
  rw [Bool.not_false, List.any_eq_true]
  rw [List.all_eq_false] at h
  obtain ⟨j, hj, h1⟩ := h
  simp only [Bool.or_eq_true, decide_eq_true_eq, not_or] at h1
  exact ⟨stF S j, (pU hi).2 ⟨j, hj, rfl⟩, by simp [h1.1, h1.2]⟩
theorem DT {M0 : Store} {b2 b3 : Nat} {vR vD vA vS : Value} (o2 : Mz M0 b2 vR vD) (hR : RL M0 vR rs) (hD : LV sv Ty.a M0 vD ds) (hs : SmallRs rs) (o3 : Pb M0 b3 vA vS) (hA : LV iv Ty.b M0 vA (aj (List.range rs.length))) (hS : LV iv Ty.b M0 vS S) (hSl : S.length = rs.length)
    (hQ : ∀ w M, Up M0 M → NV iv Ty.b M0 M w (aj (iJ rs S)) → Q w M) :
    ∀ (d i : Nat) (x5 : Value) (M : Store), d + i = rs.length → Up M0 M → NV iv Ty.b M0 M x5 (aj ((List.range i).filter (je rs S))) → bi (pt b2) (pt b3) x5 vA (iv (rs.length : Int)) (iv (i : Int)) M Q := by
 have hsl := hs.1
 intro d
 induction d with
 | zero =>
  intro i x5 M hi hu hN
  apply oD
  unfold i4
  rw [ag, ae, if_neg (by omega)]
  apply xh
  unfold om
  have : i = rs.length := by omega
  subst this
  exact ⟨eI hN.lv, hQ _ _ hu hN⟩
 | succ d ih =>
  intro i x5 M hi hu hN
  have hil : i < rs.length := by omega
  have hir : i < (aj (List.range rs.length)).length := by rw [bI]; exact hil
  have hfl : ((List.range i).filter (je rs S)).length ≤ i := by
   have := List.length_filter_le (je rs S) (List.range i)
   rwa [List.length_range] at this
  have skip : ∀ M', Up M0 M' → NV iv Ty.b M0 M' x5 (aj ((List.range i).filter (je rs S))) → je rs S i = false → OP (ad .add (iv (i : Int)) (.int .i64 1)) fun t33 => bi (pt b2) (pt b3) x5 vA (iv (rs.length : Int)) t33 M' Q := by
   intro M' hu' hN' hb
   rw [ah _ (by omega)]
   refine ih (i + 1) x5 M' (by omega) hu' ?_
   rw [List.range_succ, List.filter_append, List.filter_cons_of_neg (by rw [hb]; decide), List.filter_nil, List.append_nil]
   exact hN'
  have hPV : ∀ M', Up M0 M' → PV M' (.agg (mcs vA vS).toArray) rs.length S := fun M' u => ⟨vA, vS, rfl, Sl.up hA u, Sl.up hS u, hSl⟩
  apply oD
  unfold i4
  rw [ag, ae, if_pos hil]
  apply xg
  unfold ol
  obtain ⟨p, e1, e2⟩ := (LV.up hA hu).at hir .i64
  rw [oQ] at e2
  rw [e1, ab, e2, ab, (Ob.up o3 hu).ldA (s := 2) rfl, ab]
  refine (uS (hPV M hu) (by omega) hil).mono fun q M1 ⟨u1, e⟩ => ?_
  subst e
  have hu1 := hu.trans u1
  show OP (ad .eql (.int .i64 (stF S i)) (.int .i64 1)) _
  rw [dN, ae]
  split
  ·rename_i h1
   rw [(Ob.up o2 hu1).ldA (s := 2) rfl, ab, (Ob.up o3 hu1).ldA (s := 2) rfl, ab]
   refine (yu (ds := ds) ⟨vR, vD, rfl, hR.up hu1, Sl.up hD hu1⟩ (hPV M1 hu1) hs hil).mono fun w M2 ⟨u2, hw⟩ => ?_
   have hu2 := hu1.trans u2
   have hll := A6 (S := S) hs hil
   refine (eT hw.lv (by omega) (fun z => decide (z ≠ 0) && decide (z ≠ 2)) (fun M' _ z _ => HW)).mono fun q M3 ⟨u3, e⟩ => ?_
   subst e
   have hu3 := hu2.trans u3
   have hN3 := Nw.up (Nw.up (Nw.up hN u1) u2) u3
   rw [HV hil, aM, Bool.not_not, au]
   split
   ·rename_i hb
    rw [kD, aY]
    refine NV.app1 (M0 := M0) (Mb := M0) hu3 (Nat.le_refl _) hu3.n hN3 (i : Int) rfl (by rw [av]; omega) fun w' M' hu' hN' _ _ => ?_
    rw [ah _ (by omega)]
    refine ih (i + 1) w' M' (by omega) hu' ?_
    rw [List.range_succ, List.filter_append, List.filter_cons_of_pos (by unfold je; rw [decide_eq_true h1, Bool.true_and]; exact hb), List.filter_nil, fG]
    exact hN'
   ·rename_i hb
    exact skip M3 hu3 hN3 (by unfold je; rw [decide_eq_true h1, Bool.true_and]; simpa using hb)
  ·rename_i h1
   exact skip M1 hu1 (Nw.up hN u1) (by unfold je; rw [decide_eq_false h1, Bool.false_and])
theorem Eg {M : Store} {v p : Value} (h : MV M v rs ds) (hp : PV M p rs.length S) (hs : SmallRs rs) : R F.F #[v, p] M fun w M' => Up M M' ∧ NV iv Ty.b M M' w (aj (iJ rs S)) := by
 refine R.cps fun Q hQ => ?_
 obtain ⟨vR, vD, rfl, hR, hD⟩ := h
 obtain ⟨vA, vS, rfl, hA, hS, hSl⟩ := hp
 apply zA
 unfold qN
 rw [da hR hD, ab]
 refine aq fun M1 u1 o1 n1 => ?_
 rw [oO hA hS, ab]
 refine aq fun M2 u2 o2 n2 => ?_
 have u12 := u1.trans u2
 have o2 : Pb M2 M1.n vA vS := o2
 rw [pM o2, LV.len (LV.up hA u12), ab, bI]
 exact DT (M0 := M2) (Ob.up o1 u2) (hR.up u12) (Sl.up hD u12) hs o2 (Sl.up hA u12) (Sl.up hS u12) hSl (fun w M' hu hN => hQ _ _ ⟨u12.trans hu, Nw.base hN u12.n⟩) rs.length 0 _ M2 rfl (Ch.refl _ _) NV.nil
end
end Go.G
