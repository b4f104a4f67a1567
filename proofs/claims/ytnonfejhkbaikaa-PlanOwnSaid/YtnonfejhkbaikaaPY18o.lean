/- PlanOwn: a plan that comes of another is its own. -/
import Derived.Test.YtnonfejhkbaikaaPGQo
import Derived.Test.YtnonfejhkbaikaaPM8i
import Derived.Test.YtnonfejhkbaikaaPY18f
namespace Go.G
open Go.Ab Go.Proofs Go.RowKit
set_option linter.unusedVariables false
set_option linter.unusedSimpArgs false
set_option maxRecDepth 100000
theorem Ff (M : Store) : R F.t #[] M fun v M' => M' = M ∧ v = tv true := ⟨1, tv true, M, by kernel_rfl, rfl, rfl⟩
section
variable {M0 : Store} {b7 b9 b10 b11 : Nat} {vR vD : Value} {rs : List RuT} {S : List Int} {Q : Value → Store → Prop}
structure OwI (M0 : Store) (b7 b9 b10 : Nat) (vR vD pA pS wA wS : Value) (rs : List RuT) : Prop where
 i : ManI rs
 o7 : Mz M0 b7 vR vD
 hR : RL M0 vR rs
 hD : LV sv Ty.a M0 vD []
 o9 : Pb M0 b9 pA pS
 o10 : Pb M0 b10 wA wS
 pA : LV iv Ty.b M0 pA (aj (List.range rs.length))
 pS : LV iv Ty.b M0 pS (cD rs.length)
 wA : LV iv Ty.b M0 wA (aj (List.range rs.length))
 wS : LV iv Ty.b M0 wS (cD rs.length)
variable {pA pS wA wS : Value}
theorem OwI.P {M : Store} (h : OwI M0 b7 b9 b10 vR vD pA pS wA wS rs) (u : Up M0 M) : PV M (.agg (mcs pA pS).toArray) rs.length (cD rs.length) := ⟨_, _, rfl, LV.up h.pA u, LV.up h.pS u, by unfold cD; rw [List.length_replicate]⟩
theorem OwI.W {M : Store} (h : OwI M0 b7 b9 b10 vR vD pA pS wA wS rs) (u : Up M0 M) : PV M (.agg (mcs wA wS).toArray) rs.length (cD rs.length) := ⟨_, _, rfl, LV.up h.wA u, LV.up h.wS u, by unfold cD; rw [List.length_replicate]⟩
theorem OwI.V {M : Store} (h : OwI M0 b7 b9 b10 vR vD pA pS wA wS rs) (u : Up M0 M) : MV M (.agg (mcs vR vD).toArray) rs [] := ⟨_, _, rfl, h.hR.up u, LV.up h.hD u⟩
theorem Eb (rs : List RuT) (S : List Int) : (Cv rs S).length ≤ rs.length := by
 have := List.length_filter_le (ja rs S) (List.range rs.length)
 rwa [List.length_range] at this
theorem Lp (h : OwI M0 b7 b9 b10 vR vD pA pS wA wS rs) (hQ : ∀ M, Q (tv true) M) {M : Store} (u : Up M0 M) : fq (pt b7) (pt b9) (pt b10) M Q := by
 have hsl := h.i.sm.1
 apply xq
 unfold nB
 rw [(Ob.up h.o9 u).ldA (s := 2) rfl, ab, (Ob.up h.o10 u).ldA (s := 2) rfl, ab]
 refine (CM (h.P u) (h.W u) (by omega)).mono fun r M1 ⟨u1, e⟩ => ⟨u1.tdx _ _ _, ?_⟩
 subst e
 have v1 := u.trans u1
 rw [aR, (Ob.up h.o7 v1).ldA (s := 2) rfl, ab, (Ob.up h.o9 v1).ldA (s := 2) rfl, ab]
 refine (zf (h.V v1) (h.P v1) h.i.sm).mono fun w1 M2 ⟨u2, hw1⟩ => ⟨u2.tdj _ _, ?_⟩
 have v2 := v1.trans u2
 rw [(Ob.up h.o7 v2).ldA (s := 2) rfl, ab, (Ob.up h.o10 v2).ldA (s := 2) rfl, ab]
 refine (F4 (h.V v2) (h.W v2) h.i.sm).mono fun w2 M3 ⟨u3, hw2⟩ => ⟨u3.tdx _ _ _, ?_⟩
 have hrl := Eb rs (cD rs.length)
 refine (oP (hw1.lv.up u3) hw2.lv (by rw [ar]; omega)).mono fun r M4 ⟨e1, e2⟩ => ?_
 subst e1; subst e2
 refine ⟨(show Up M4 M4 from Ch.refl _ _).tdx _ _ _, ?_⟩
 rw [decide_eq_true rfl, aR]
 refine (Ff M4).mono fun r M5 ⟨e1, e2⟩ => ?_
 subst e1; subst e2
 exact ⟨(show Up _ _ from Ch.refl _ _).tdx _ _ _, rfl, hQ _⟩
theorem za {M : Store} {v : Value} {xs : List Int} (u : Up M0 M) {Mb : Store} (h0 : M0.n ≤ Mb.n) (hN : NV iv Ty.b Mb M v xs) {i : Nat} (hi : i < xs.length) (z : Int) {K : Store → Prop}
    (hK : ∀ M', Up M0 M' → NV iv Ty.b Mb M' v (xs.set i z) → Keep Ty.b M M' → (∃ q, bx v = some q ∧ Ch [q] M M') → K M') : OP (ixA 1 v (iv (i : Int))) fun p => OP (Go.Ab.st 1 p (iv z) M) K := by
 have h' : Nw 1 Ty.b Mb M v xs.length (xs.map iv) := hN
 obtain ⟨p, M', q, g1, _, g3, g4, g5, g6, g7, c⟩ := h'.put1 hi .i64 (jL z) (uD z)
 obtain ⟨p2, M2, k1, k2, _, kk, _⟩ := Nw.put1K h' hi .i64 (jL z) (uD z)
 rw [g1] at k1; injection k1 with k1; subst k1
 rw [g3] at k2; injection k2 with k2; subst k2
 show OP (ixA 1 v (.int .i64 (i : Int))) _
 rw [g1, ab, g3, ab]
 refine hK M' (u.ch c (by simp; omega)) ?_ kk ⟨q, g5, c⟩
 show Nw 1 Ty.b Mb M' v (xs.set i z).length ((xs.set i z).map iv)
 rw [List.length_set, List.map_set]
 exact g4
theorem Lo (h : OwI M0 b7 b9 b10 vR vD pA pS wA wS rs) (hQ : ∀ M, Q (tv true) M) {x14 : Value} {n : Nat} (hn : n ≤ 2 ^ 20) :
    ∀ (d i : Nat) (xs : List Int) (M : Store), d + i = n → xs.length = n → Up M0 M → NV iv Ty.b M0 M x14 xs → cJ (pt b7) (pt b9) (pt b10) x14 (iv (n : Int)) (iv (i : Int)) M Q := by
 intro d
 induction d with
 | zero =>
  intro i xs M hi hx u hN
  apply nQ
  unfold iN
  rw [ah, ae, if_neg (by omega)]
  exact Lp h hQ u
 | succ d ih =>
  intro i xs M hi hx u hN
  apply nQ
  unfold iN
  rw [ah, ae, if_pos (by omega)]
  refine za u (Nat.le_refl _) hN (by omega) 77 fun M' u' hN' _ _ => ?_
  rw [ai _ (by omega)]
  exact ih (i + 1) (xs.set i 77) M' (by omega) (by rw [List.length_set]; exact hx) u' hN'
theorem Ln (h : OwI M0 b7 b9 b10 vR vD pA pS wA wS rs) (hQ : ∀ M, Q (tv true) M) {M : Store} (u : Up M0 M) : fp (pt b7) (pt b9) (pt b10) M Q := by
 have hsl := h.i.sm.1
 apply xp
 unfold nA
 rw [(Ob.up h.o7 u).ldA (s := 2) rfl, ab, (Ob.up h.o9 u).ldA (s := 2) rfl, ab]
 refine (zf (h.V u) (h.P u) h.i.sm).mono fun w M1 ⟨u1, hw⟩ => ?_
 have hrl := Eb rs (cD rs.length)
 rw [hw.lv.len, ab]
 exact Lo h hQ (n := (aj (Cv rs (cD rs.length))).length) (by rw [ar]; omega) _ 0 _ M1 rfl rfl (u.trans u1) (Nw.base hw u.n)
theorem Lm (h : OwI M0 b7 b9 b10 vR vD pA pS wA wS rs) (hQ : ∀ M, Q (tv true) M) {qA qS : Value} {n : Nat} (hn : n ≤ 2 ^ 20) :
    ∀ (d i : Nat) (xs : List Int) (M : Store), d + i = n → xs.length = n → Up M0 M → Pb M b11 qA qS → NV iv Ty.b M0 M qS xs → cI (pt b7) (pt b9) (pt b10) (pt b11) (iv (n : Int)) (iv (i : Int)) M Q := by
 intro d
 induction d with
 | zero =>
  intro i xs M hi hx u o hN
  apply nP
  unfold iM
  rw [ah, ae, if_neg (by omega)]
  exact Ln h hQ u
 | succ d ih =>
  intro i xs M hi hx u o hN
  apply nP
  unfold iM
  rw [ah, ae, if_pos (by omega), gY o]
  refine za u (Nat.le_refl _) hN (by omega) 77 fun M' u' hN' kk _ => ?_
  rw [ai _ (by omega)]
  exact ih (i + 1) (xs.set i 77) M' (by omega) (by rw [List.length_set]; exact hx) u' (Ob.keep o (by decide) kk) hN'
theorem Ll (h : OwI M0 b7 b9 b10 vR vD pA pS wA wS rs) (hQ : ∀ M, Q (tv true) M) {qA qS : Value} {n : Nat} (hn : n ≤ 2 ^ 20) (hne : 0 < n → ∀ q, bx qS = some q → bx qA ≠ some q) :
    ∀ (d i : Nat) (xs ys : List Int) (M : Store), d + i = n → xs.length = n → ys.length = n → Up M0 M → Pb M b11 qA qS → NV iv Ty.b M0 M qA xs → NV iv Ty.b M0 M qS ys → cH (pt b7) (pt b9) (pt b10) (pt b11) (iv (n : Int)) (iv (i : Int)) M Q := by
 intro d
 induction d with
 | zero =>
  intro i xs ys M hi hx hy u o hA hS
  apply nO
  unfold iL
  rw [ah, ae, if_neg (by omega)]
  apply xo
  unfold nz
  rw [gY o, hS.lv.len, ab]
  exact Lm h hQ (n := ys.length) (by omega) ys.length 0 ys M rfl rfl u o hS
 | succ d ih =>
  intro i xs ys M hi hx hy u o hA hS
  apply nO
  unfold iL
  rw [ah, ae, if_pos (by omega), dR o]
  refine za u (Nat.le_refl _) hA (by omega) 77 fun M' u' hA' kk ⟨q, hq, c⟩ => ?_
  rw [ai _ (by omega)]
  refine ih (i + 1) (xs.set i 77) ys M' (by omega) (by rw [List.length_set]; exact hx) hy u' (Ob.keep o (by decide) kk) hA' (Nw.fr hS c fun q' hq' hm => ?_)
  have : q' = q := by simpa using hm
  subst this
  exact hne (by omega) _ hq' hq
theorem Ch.tdxJ {M M' : Store} {b : Nat} {cells : List Value} {T : TypeId} (h : Ch [b] M M') (o : Ob M b cells T) {bs Ns : List Nat} {i j : Nat} (hj : j < i) (ht : (bs.getD i 0).testBit j = true) (h1 : Ns.getD j 0 ≤ b) (h2 : b < Ns.getD (j + 1) 0) : TDx bs Ns i M M' :=
 ⟨h.n, fun c hc => by
  rcases h.tdiff c hc with hc | hc
  ·exact .inl hc
  ·have : c = b := by simpa using hc
   subst this
   refine .inr ⟨by rw [show M.get c = _ from o]; rfl, ?_⟩
   unfold gp
   rw [Bool.or_eq_true]
   refine .inr (List.any_eq_true.2 ⟨j, List.mem_range.2 hj, ?_⟩)
   rw [ht, decide_eq_true h1, decide_eq_true h2]; rfl⟩
theorem Es {M : Store} {x0 : Value} {ts : List Int} {r s : Int} (h0 : LV iv Ty.b M x0 ts) : R F.S #[x0, iv r, iv s] M fun v _ => v = tv true := by
 refine R.cps fun Q hQ => ?_
 have hQ : ∀ M, Q (tv true) M := fun M => hQ _ _ rfl
 apply Ae
 unfold qZ
 refine Hu h0 fun v M2 u2 hv => ?_
 rw [(tp2 _ _).1, (tp2 _ _).2]
 refine Jr hv fun vR vD M6 u6 o hR hD => ?_
 show OP (ad .neq (iv ((0 : Nat) : Int)) (.int .i64 0)) _
 rw [qE 0 0 rfl, ae, if_neg (by simp), o.ldA (s := 2) rfl, ab]
 have hi := GW ts
 generalize qC ts = rs at *
 have hsl := hi.sm.1
 refine (J3 ⟨vR, vD, rfl, hR, hD⟩ hi.ok hi.sm hi.bk).mono fun p M7 ⟨u7, hp⟩ => ⟨u7.tdj _ _, ?_⟩
 rw [(Ob.up o u7).ldA (s := 2) rfl, ab]
 refine (Hv ⟨vR, vD, rfl, hR.up u7, Sl.up hD u7⟩ hi.ok hi.sm hi.bk).mono fun w M8 ⟨u8, hw⟩ => ⟨u8.tdx _ _ _, ?_⟩
 have u68 := u7.trans u8
 obtain ⟨pA, pS, rfl, hpA, hpS, _⟩ := hp
 obtain ⟨wA, wS, rfl, hwA, hwS, _⟩ := hw
 refine aq fun M9 u9 o9 n9 => ?_
 refine aq fun M10 u10 o10 n10 => ?_
 have e1 : ∃ a c, pA = .slice a (aj (List.range rs.length)).length c := Sl.slice hpA
 have e2 : ∃ a c, pS = .slice a (cD rs.length).length c := Sl.slice hpS
 have e3 : ∃ a c, wA = .slice a (aj (List.range rs.length)).length c := Sl.slice hwA
 have e4 : ∃ a c, wS = .slice a (cD rs.length).length c := Sl.slice hwS
 obtain ⟨a1, c1, rfl⟩ := e1
 obtain ⟨a2, c2, rfl⟩ := e2
 obtain ⟨a3, c3, rfl⟩ := e3
 obtain ⟨a4, c4, rfl⟩ := e4
 have m6 := u6.n
 have m68 := u68.n
 have o9' := o9.up u10
 have hlt := o9'.lt
 refine a9 (vs := mcs (.slice a1 (aj (List.range rs.length)).length c1) (.slice a2 (cD rs.length).length c2)) o9' rfl rfl (ig _ _ _ _ _ _) fun M11 ch11 o911 _ => ⟨Ch.tdxJ ch11 o9' (j := 4) (by decide) (by decide) (Nat.le_refl M8.n) (by show M8.n < M9.n; omega), ?_⟩
 have m11 := ch11.n
 have o10' : Ob M11 M9.n [.slice none 0 0, .slice none 0 0] Ty.e := o10.fr ch11 (by simp; omega)
 refine a9 (vs := mcs (.slice a3 (aj (List.range rs.length)).length c3) (.slice a4 (cD rs.length).length c4)) o10' rfl rfl (ig _ _ _ _ _ _) fun M12 ch12 o1012 _ => ⟨Ch.tdxJ ch12 o10' (j := 5) (by decide) (by decide) (Nat.le_refl M9.n) (by show M9.n < M10.n; omega), ?_⟩
 have o912 : Pb M12 M8.n _ _ := o911.fr ch12 (by simp; omega)
 have u1012 : Up M8 M12 := ((u9.trans u10).ch ch11 (by simp)).ch ch12 (by simp; omega)
 have u612 := u68.trans u1012
 have u712 := u8.trans u1012
 rw [(Ob.up o u612).ldA (s := 2) rfl, ab, o912.ldA (s := 2) rfl, ab]
 show OP (ad .and (.int .i64 r) (.int .i64 ((7 : Nat) : Int))) _
 rw [xX r 7 (by decide), ab]
 show OP (ad .and (.int .i64 s) (.int .i64 ((3 : Nat) : Int))) _
 rw [xX s 3 (by decide), ab]
 have hq3 := pM s 3 (by decide)
 show OP (ad .add (iv (bg s 3 : Int)) (iv 1)) _
 rw [ai _ (by omega)]
 have hO : OwI M12 M2.n M8.n M9.n vR vD _ _ _ _ rs := ⟨hi, Ob.up o u612, hR.up u612, Sl.up hD u612, o912, o1012, LV.up hpA u712, LV.up hpS u712, LV.up hwA u1012, LV.up hwS u1012⟩
 have rf : Up M12 M12 := Ch.refl _ _
 refine (J6 (hO.V rf) (hO.P rf) hi.sm).mono fun q M13 ⟨u13, S', hq, _⟩ => ?_
 obtain ⟨qA, qS, rfl, hqA, hqS, hql, hne⟩ := hq
 have f1 : ∃ a c, qA = .slice a (aj (List.range rs.length)).length c := Sl.slice hqA.lv
 have f2 : ∃ a c, qS = .slice a S'.length c := Sl.slice hqS.lv
 obtain ⟨a5, c5, rfl⟩ := f1
 obtain ⟨a6, c6, rfl⟩ := f2
 refine aq fun M14 u14 o14 n14 => ?_
 refine a9 (vs := mcs (.slice a5 (aj (List.range rs.length)).length c5) (.slice a6 S'.length c6)) o14 rfl rfl (ig _ _ _ _ _ _) fun M15 c15 o15 _ => ?_
 have o15 : Pb M15 M13.n (.slice a5 (aj (List.range rs.length)).length c5) (.slice a6 S'.length c6) := o15
 have u15 : Up M13 M15 := u14.ch c15 (by simp)
 rw [dR o15, kf, aB]
 rw [aB] at o15 hne
 refine Ll (b11 := M13.n) hO hQ (by omega) hne rs.length 0 (aj (List.range rs.length)) S' M15 rfl (aB _) hql (u13.trans u15) o15 ?_ (Nw.up hqS u15)
 have := Nw.up hqA u15
 rw [aB] at this
 show Nw 1 Ty.b M12 M15 _ (aj (List.range rs.length)).length _
 rw [aB]
 exact this
end
end Go.G
