/- Layer 18: what is skipped behind a failure. -/
import Derived.Test.YtnonfejhkbaikaaPY18c
namespace Go.G
open Go.Ab Go.Proofs Go.RowKit
set_option linter.unusedVariables false
set_option linter.unusedSimpArgs false
set_option maxRecDepth 100000
def skB (rs : List RuT) (S : List Int) (i : Nat) : Bool := decide (stF S i = 1) && (ndN rs i).any fun j => decide (stF S j = 3) || decide (stF S j = 4)
def skS (rs : List RuT) (S : List Int) : Nat → List Int × Bool
 | 0 => (S, false)
 | i + 1 => if skB rs (skS rs S i).1 i = true then ((skS rs S i).1.set i 4, true) else skS rs S i
theorem jf (rs : List RuT) (S : List Int) : ∀ i, (skS rs S i).1.length = S.length
 | 0 => rfl
 | i + 1 => by
  unfold skS
  split
  ·rw [List.length_set]; exact jf rs S i
  ·exact jf rs S i
theorem I7 {M : Store} {z : Int} : KC (.func (.func F.l) #[] #[]) [iv z] M fun v M' => Up M M' ∧ v = tv (decide (z = 3) || decide (z = 4)) := by
 show R F.l #[iv z] M _
 refine R.cps fun Q hQ => ?_
 apply vV
 unfold mM
 show OP (ad .eql (.int .i64 z) (.int .i64 3)) _
 rw [dN, ae]
 split
 ·rename_i h
  exact ⟨rfl, hQ _ _ ⟨Ch.refl _ _, by rw [decide_eq_true h, Bool.true_or]⟩⟩
 ·rename_i h
  show OP (ad .eql (.int .i64 z) (.int .i64 4)) _
  rw [dN]
  exact ⟨rfl, hQ _ _ ⟨Ch.refl _ _, by rw [decide_eq_false h, Bool.false_or]⟩⟩
theorem I6 {rs : List RuT} {S : List Int} {i : Nat} (hi : i < rs.length) : ((sU rs S i).any fun z => decide (z = 3) || decide (z = 4)) = (ndN rs i).any fun j => decide (stF S j = 3) || decide (stF S j = 4) := by
 rw [Bool.eq_iff_iff, List.any_eq_true, List.any_eq_true]
 constructor
 ·rintro ⟨z, hz, h⟩
  obtain ⟨j, hj, rfl⟩ := (pU hi).1 hz
  exact ⟨j, hj, h⟩
 ·rintro ⟨j, hj, h⟩
  exact ⟨stF S j, (pU hi).2 ⟨j, hj, rfl⟩, h⟩
section
variable {rs : List RuT} {ds : List (List UInt8)} {Q : Value → Store → Prop}
structure SkI (F : Store → Prop) (M0 Mb M : Store) (b2 b3 : Nat) (vR vD vA vS : Value) (rs : List RuT) (ds : List (List UInt8)) (S : List Int) : Prop where
 u : Up M0 M
 n : Mb.n ≤ M.n
 o2 : Mz M b2 vR vD
 hR : RL M vR rs
 hD : LV sv Ty.a M vD ds
 o3 : Pb M b3 vA vS
 hA : NV iv Ty.b M0 M vA (aj (List.range rs.length))
 hS : NV iv Ty.b Mb M vS S
 hl : S.length = rs.length
 f : F M
 hF : ∀ M M', F M → Keep Ty.b M M' → F M'
theorem SkI.up {F : Store → Prop} {M0 Mb M M' : Store} {b2 b3 : Nat} {vR vD vA vS : Value} {S : List Int} (h : SkI F M0 Mb M b2 b3 vR vD vA vS rs ds S) (k : Up M M') : SkI F M0 Mb M' b2 b3 vR vD vA vS rs ds S :=
 ⟨h.u.trans k, Nat.le_trans h.n k.n, Ob.up h.o2 k, h.hR.up k, Sl.up h.hD k, Ob.up h.o3 k, Nw.up h.hA k, Nw.up h.hS k, h.hl, h.hF _ _ h.f k.keep, h.hF⟩
theorem SkI.st {F : Store → Prop} {M0 Mb M : Store} {b2 b3 : Nat} {vR vD vA vS : Value} {S : List Int} (h : SkI F M0 Mb M b2 b3 vR vD vA vS rs ds S) (h0 : M0.n ≤ Mb.n) (hne : ∀ q, bx vS = some q → bx vA ≠ some q) {i : Nat} (hi : i < rs.length) (z : Int) {K : Store → Prop}
    (hK : ∀ M', SkI F M0 Mb M' b2 b3 vR vD vA vS rs ds (S.set i z) → Keep Ty.b M M' → K M') : OP (ixA 1 vS (iv (i : Int))) fun p => OP (Go.Ab.st 1 p (iv z) M) K := by
 have h' : Nw 1 Ty.b Mb M vS rs.length (S.map iv) := by
  have := h.hS
  unfold NV at this
  rwa [h.hl] at this
 obtain ⟨p, M', q, e1, _, e3, e4, e5, e6, e7, c⟩ := h'.put1 hi .i64 (pr z) (y7 z)
 obtain ⟨p2, M2, g1, g2, _, kk, _⟩ := Nw.put1K h' hi .i64 (pr z) (y7 z)
 rw [e1] at g1; injection g1 with g1; subst g1
 rw [e3] at g2; injection g2 with g2; subst g2
 show OP (ixA 1 vS (.int .i64 (i : Int))) _
 rw [e1, ab, e3, ab]
 refine hK M' ⟨h.u.ch c (by simp; omega), Nat.le_trans h.n c.n, Ob.keep h.o2 (by decide) kk, h.hR.keep (by decide) (by decide) (by decide) (by decide) kk, Sl.keep h.hD (by decide) kk, Ob.keep h.o3 (by decide) kk, Nw.fr h.hA c (fun q' hq' hm => ?_), ?_, by rw [List.length_set]; exact h.hl, h.hF _ _ h.f kk, h.hF⟩ kk
 ·have : q' = q := by simpa using hm
  subst this
  exact hne _ e5 hq'
 ·show Nw 1 Ty.b Mb M' vS (S.set i z).length ((S.set i z).map iv)
  rw [List.length_set, h.hl, List.map_set]
  exact e4
theorem DY {F : Store → Prop} {M0 Mb : Store} {b2 b3 : Nat} {vR vD vA vS : Value} {S : List Int} (hs : SmallRs rs) (h0 : M0.n ≤ Mb.n) (hne : ∀ q, bx vS = some q → bx vA ≠ some q)
    (hQ : ∀ M, SkI F M0 Mb M b2 b3 vR vD vA vS rs ds (skS rs S rs.length).1 → Q (tv (skS rs S rs.length).2) M) :
    ∀ (d i : Nat) (M : Store), d + i = rs.length → SkI F M0 Mb M b2 b3 vR vD vA vS rs ds (skS rs S i).1 → bj (pt b2) (pt b3) (tv (skS rs S i).2) vA (iv (rs.length : Int)) (iv (i : Int)) M Q := by
 have hsl := hs.1
 intro d
 induction d with
 | zero =>
  intro i M hi h
  apply oE
  unfold i5
  rw [ag, ae, if_neg (by omega)]
  apply xj
  unfold oq
  have : i = rs.length := by omega
  subst this
  exact ⟨rfl, hQ M h⟩
 | succ d ih =>
  intro i M hi h
  have hil : i < rs.length := by omega
  have hir : i < (aj (List.range rs.length)).length := by rw [bI]; exact hil
  have hsk : skS rs S (i + 1) = if skB rs (skS rs S i).1 i = true then ((skS rs S i).1.set i 4, true) else skS rs S i := rfl
  generalize hT : skS rs S i = T at *
  obtain ⟨T, bo⟩ := T
  simp only at h hsk ⊢
  have skip : ∀ M', SkI F M0 Mb M' b2 b3 vR vD vA vS rs ds T → skB rs T i = false → OP (ad .add (iv (i : Int)) (.int .i64 1)) fun t33 => bj (pt b2) (pt b3) (tv bo) vA (iv (rs.length : Int)) t33 M' Q := by
   intro M' h' hb
   rw [ah _ (by omega)]
   rw [if_neg (by rw [hb]; decide)] at hsk
   have := ih (i + 1) M' (by omega)
   rw [hsk] at this
   exact this h'
  have hPV : ∀ M', SkI F M0 Mb M' b2 b3 vR vD vA vS rs ds T → PV M' (.agg (mcs vA vS).toArray) rs.length T := fun M' h' => ⟨vA, vS, rfl, NV.lv h'.hA, h'.hS.lv, h'.hl⟩
  apply oE
  unfold i5
  rw [ag, ae, if_pos hil]
  apply xi
  unfold oo
  obtain ⟨p, e1, e2⟩ := (NV.lv h.hA).at hir .i64
  rw [oQ] at e2
  rw [e1, ab, e2, ab, h.o3.ldA (s := 2) rfl, ab]
  refine (uS (hPV M h) (by omega) hil).mono fun q M1 ⟨u1, e⟩ => ?_
  subst e
  have h1 := h.up u1
  show OP (ad .eql (.int .i64 (stF T i)) (.int .i64 1)) _
  rw [dN, ae]
  split
  ·rename_i hw
   rw [h1.o2.ldA (s := 2) rfl, ab, h1.o3.ldA (s := 2) rfl, ab]
   refine (yu (ds := ds) ⟨vR, vD, rfl, h1.hR, h1.hD⟩ (hPV M1 h1) hs hil).mono fun w M2 ⟨u2, hw2⟩ => ?_
   have hll := A6 (S := T) hs hil
   refine (eT hw2.lv (by omega) (fun z => decide (z = 3) || decide (z = 4)) (fun M' _ z _ => I7)).mono fun q M3 ⟨u3, e⟩ => ?_
   subst e
   have h3 := (h1.up u2).up u3
   have hkb : skB rs T i = (ndN rs i).any fun j => decide (stF T j = 3) || decide (stF T j = 4) := by unfold skB; rw [decide_eq_true hw, Bool.true_and]
   rw [I6 hil, ← hkb, au]
   split
   ·rename_i hb
    rw [pN h3.o3]
    refine h3.st h0 hne hil 4 fun M4 h4 _ => ?_
    rw [ah _ (by omega)]
    rw [if_pos hb] at hsk
    have := ih (i + 1) M4 (by omega)
    rw [hsk] at this
    exact this h4
   ·rename_i hb
    exact skip M3 h3 (by simpa using hb)
  ·rename_i hw
   exact skip M1 h1 (by unfold skB; rw [decide_eq_false hw, Bool.false_and])
theorem GK {F : Store → Prop} {M0 Mb M : Store} {vR vD vA vS : Value} {S : List Int} (hs : SmallRs rs) (h0 : M0.n ≤ Mb.n) (hne : ∀ q, bx vS = some q → bx vA ≠ some q) (hu : Up M0 M) (hn : Mb.n ≤ M.n) (hR : RL M vR rs) (hD : LV sv Ty.a M vD ds) (hA : NV iv Ty.b M0 M vA (aj (List.range rs.length))) (hS : NV iv Ty.b Mb M vS S) (hl : S.length = rs.length) (hf : F M) (hF : ∀ M M', F M → Keep Ty.b M M' → F M')
    (hQ : ∀ M', Up M0 M' → Mb.n ≤ M'.n → RL M' vR rs → LV sv Ty.a M' vD ds → NV iv Ty.b M0 M' vA (aj (List.range rs.length)) → NV iv Ty.b Mb M' vS (skS rs S rs.length).1 → F M' → Q (tv (skS rs S rs.length).2) M') :
    R _root_.Go.G.F.Z #[.agg (mcs vR vD).toArray, .agg (mcs vA vS).toArray] M Q := by
 apply zB
 unfold qO
 rw [da hR hD, ab]
 refine aq fun M1 u1 o1 n1 => ?_
 rw [oO hA.lv hS.lv, ab]
 refine aq fun M2 u2 o2 n2 => ?_
 have u12 := u1.trans u2
 have o2 : Pb M2 M1.n vA vS := o2
 rw [pM o2, LV.len (LV.up hA.lv u12), ab, bI]
 exact DY (F := F) hs h0 hne (fun M' h => hQ M' h.u h.n h.hR h.hD h.hA h.hS h.f) rs.length 0 M2 rfl ⟨hu.trans u12, Nat.le_trans hn u12.n, Ob.up o1 u2, hR.up u12, Sl.up hD u12, o2, Nw.up hA u12, Nw.up hS u12, hl, hF _ _ hf (show Up M M2 from u12).keep, hF⟩
end
end Go.G
