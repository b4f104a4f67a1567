/- Layer 18: PlanEnds: any picks of what is ready end a plan. -/
import Derived.Test.YtnonfejhkbaikaaPGQe
import Derived.Test.YtnonfejhkbaikaaPY18p
import Derived.Test.YtnonfejhkbaikaaPM8i
namespace Go.G
open Go.Ab Go.Proofs Go.RowKit
set_option linter.unusedVariables false
set_option linter.unusedSimpArgs false
set_option maxRecDepth 100000
def ti (D : Int → Int) (z : Int) : Option Value := if D z = 0 then none else some (iv (D z))
theorem vr (D : Int → Int) (z : Int) : (ti D z).getD (.int .i64 0) = iv (D z) := by
 unfold ti
 split
 ·rename_i h; rw [h]; rfl
 ·rfl
theorem GS (D : Int → Int) (k to_ : Int) (ht : to_ ≠ 0) : (fun q => if q = k then some (iv to_) else ti D q) = ti fun q => if q = k then to_ else D q := by
 funext q
 unfold ti
 by_cases h : q = k <;> simp [h, ht]
theorem GR : ti (fun _ => 0) = fun _ => none := by funext q; simp [ti]
theorem B7 {M : Store} {Q : Value → Store → Prop} (hQ : Q (tv true) M) : R F.s #[] M Q := IL (g := yg) (by kernel_rfl) rfl hQ
structure EI (M : Store) (b5 b7 m : Nat) (vR vD vA vS x1 : Value) (zs : List Int) (rs : List RuT) (S : List Int) (D : Int → Int) : Prop where
 o5 : Mz M b5 vR vD
 hR : RL M vR rs
 hD : LV sv Ty.a M vD []
 o7 : Pb M b7 vA vS
 hA : LV iv Ty.b M vA (aj (List.range rs.length))
 hS : LV iv Ty.b M vS S
 h1 : LV iv Ty.b M x1 zs
 hm : Mp iv M m (ti D)
 e : PE rs S D
section
variable {b5 b7 m : Nat} {vR vD x1 : Value} {zs : List Int} {rs : List RuT} {Q : Value → Store → Prop}
theorem EI.up {M M' : Store} {vA vS : Value} {S : List Int} {D : Int → Int} (h : EI M b5 b7 m vR vD vA vS x1 zs rs S D) (k : Up M M') : EI M' b5 b7 m vR vD vA vS x1 zs rs S D :=
 ⟨Ob.up h.o5 k, h.hR.up k, Sl.up h.hD k, Ob.up h.o7 k, Sl.up h.hA k, Sl.up h.hS k, Sl.up h.h1 k, h.hm.up k, h.e⟩
theorem EI.V {M : Store} {vA vS : Value} {S : List Int} {D : Int → Int} (h : EI M b5 b7 m vR vD vA vS x1 zs rs S D) : MV M (.agg (mcs vR vD).toArray) rs [] := ⟨vR, vD, rfl, h.hR, h.hD⟩
theorem EI.P {M : Store} {vA vS : Value} {S : List Int} {D : Int → Int} (h : EI M b5 b7 m vR vD vA vS x1 zs rs S D) : PV M (.agg (mcs vA vS).toArray) rs.length S := ⟨vA, vS, rfl, h.hA, h.hS, h.e.l⟩
theorem Jr (hi : ManI rs) (hQ : ∀ M, Q (tv true) M) {M : Store} {vA vS : Value} {S : List Int} {D : Int → Int} (h : EI M b5 b7 m vR vD vA vS x1 zs rs S D) (h1 : (1 : Int) ∉ S) :
    ∀ (d i : Nat), d + i = rs.length → ak (pt b5) (pt b7) (.map (some m)) vA (iv (rs.length : Int)) (iv (i : Int)) M Q := by
 have hsl := hi.sm.1
 intro d
 induction d with
 | zero =>
  intro i hd
  apply lV
  unfold gE
  rw [ai, ae, if_neg (by omega)]
  apply uY
  unfold lu
  rw [nP h.o7, LV.len h.hA, ab, bt, bV h.o5, h.hR.len, ab, zr, ae, if_pos rfl]
  exact B7 ⟨rfl, hQ _⟩
 | succ d ih =>
  intro i hd
  have hil : i < rs.length := by omega
  have hiS : i < S.length := by rw [h.e.l]; exact hil
  apply lV
  unfold gE
  rw [ai, ae, if_pos hil]
  apply uX
  unfold lr
  obtain ⟨p, e1, e2⟩ := h.hA.at (i := i) (by rw [bt]; exact hil) .i64
  rw [oL] at e2
  obtain ⟨p', g1, g2⟩ := h.hS.at hiS .i64
  rw [e1, ab, e2, ab, mo h.o7, LV.len h.hS, ab, gm, ae, if_neg (by omega), h.hm.look1 d8, ab, vr]
  show OP (ad .neq (.int .i64 (D i)) (.int .i64 0)) _
  rw [iC]
  have nxt := ih (i + 1) (by omega)
  by_cases hz : D i = 0
  ·rw [decide_eq_false (by simpa using hz), C8, ab]
   show OP (ad .eql (.int .i64 (D i)) (.int .i64 0)) _
   rw [de, decide_eq_true hz, C9, mo h.o7, g1, ab, g2, ab]
   show OP (ad .neq (.int .i64 S[i]) (.int .i64 4)) _
   rw [iC, tu hiS, h.e.fin h1 hil hz, decide_eq_false (by decide), aE, ag _ (by omega)]
   exact nxt
  ·rw [decide_eq_true hz, C9, ab, mo h.o7, g1, ab, g2, ab]
   show OP (ad .neq (.int .i64 (D i)) (.int .i64 S[i])) _
   rw [iC, tu hiS, (h.e.d i hil hz).1, decide_eq_false (by simp), aE, ab]
   show OP (ad .eql (.int .i64 (D i)) (.int .i64 0)) _
   rw [de, decide_eq_false hz, C8, ag _ (by omega)]
   exact nxt
theorem Kl (hi : ManI rs) {M : Store} {vA vS : Value} {S : List Int} {D : Int → Int} {k : Nat} (hk : k ∈ dG rs S) {to_ : Int} (ht : to_ = 2 ∨ to_ = 3) {n : Nat} (hn : n ≤ 14)
    (h : EI M b5 b7 m vR vD vA vS x1 zs rs S D)
    (hgo : ∀ M' vA' vS', EI M' b5 b7 m vR vD vA' vS' x1 zs rs (fC rs S k to_) (fun q => if q = (k : Int) then to_ else D q) → be x1 (pt b5) (pt b7) (.map (some m)) (iv ((n + 1 : Nat) : Int)) M' Q) :
    eh x1 (pt b5) (pt b7) (.map (some m)) (iv (n : Int)) (iv (k : Int)) (iv to_) M Q := by
 have hkl := (kF.1 hk).1
 apply uZ
 unfold lw
 rw [h.hm.look1 d8, ab, vr]
 show OP (ad .neq (.int .i64 (D k)) (.int .i64 0)) _
 rw [iC, (h.e.at hi.bk hk).1, decide_eq_false (by simp), aE]
 obtain ⟨M1, e5, hm1, c5, k5⟩ := h.hm.put d8 (k : Int) (oI to_)
 rw [GS _ _ _ (by rcases ht with h | h <;> rw [h] <;> decide)] at hm1
 rw [show mup (.int .i64) (.map (some m)) (iv (k : Int)) (iv to_) M = some M1 from e5, ab]
 have o5 : Mz M1 b5 vR vD := k5.2 _ _ h.o5
 have o7 : Pb M1 b7 vA vS := k5.2 _ _ h.o7
 have hR1 := h.hR.keepI k5
 have hD1 := Sl.keepI h.hD k5
 have h11 := Sl.keepI h.h1 k5
 rw [o5.ldA (s := 2) rfl, ab, o7.ldA (s := 2) rfl, ab]
 refine (IN (ds := []) ⟨vR, vD, rfl, hR1, hD1⟩ ⟨vA, vS, rfl, Sl.keepI h.hA k5, Sl.keepI h.hS k5, h.e.l⟩ hi.sm).mono fun r M2 ⟨u2, S', hq, hS'⟩ => ?_
 have hS' := hS' k rfl hkl
 subst hS'
 obtain ⟨qA, qS, rfl, hqA, hqS, hql, _⟩ := hq
 have f1 : ∃ a c, qA = .slice a (aj (List.range rs.length)).length c := Sl.slice hqA.lv
 have f2 : ∃ a c, qS = .slice a (fC rs S k to_).length c := Sl.slice hqS.lv
 obtain ⟨a5, c5', rfl⟩ := f1
 obtain ⟨a6, c6, rfl⟩ := f2
 refine bq (vs := mcs (.slice a5 (aj (List.range rs.length)).length c5') (.slice a6 (fC rs S k to_).length c6)) (Ob.up o7 u2) rfl rfl (kC _ _ _ _ _ _) fun M3 c3 o73 _ => ?_
 have k3 := c3.keepT (Ob.up o7 u2)
 apply tS
 unfold ka
 rw [ag _ (by omega)]
 exact hgo M3 _ _ ⟨Ob.keep (Ob.up o5 u2) (by decide) k3, (hR1.up u2).keep (by decide) (by decide) (by decide) (by decide) k3, Sl.keep (Sl.up hD1 u2) (by decide) k3, o73, Sl.keep hqA.lv (by decide) k3, Sl.keep hqS.lv (by decide) k3, Sl.keep (Sl.up h11 u2) (by decide) k3, (hm1.up u2).keep k3, (h.e.set hk ht).1⟩
theorem Kk (hi : ManI rs) {M : Store} {vA vS : Value} {S : List Int} {D : Int → Int} {k : Nat} (hk : k ∈ dG rs S) {to_ : Int} (ht : to_ = 2 ∨ to_ = 3) {n : Nat} (hn : n ≤ 14)
    (h : EI M b5 b7 m vR vD vA vS x1 zs rs S D)
    (hgo : ∀ M' vA' vS', EI M' b5 b7 m vR vD vA' vS' x1 zs rs (fC rs S k to_) (fun q => if q = (k : Int) then to_ else D q) → be x1 (pt b5) (pt b7) (.map (some m)) (iv ((n + 1 : Nat) : Int)) M' Q) :
    bB x1 (pt b5) (pt b7) (.map (some m)) (iv (n : Int)) (iv (k : Int)) (iv to_) M Q := by
 have hkl := (kF.1 hk).1
 have hsl := hi.sm.1
 have hD2 := (h.e.at hi.bk hk).2
 apply uW
 unfold lq
 rw [h.o5.ldA (s := 2) rfl, ab]
 refine (zC (ds := []) h.V hi.sm.short hkl).mono fun w M1 ⟨u1, hw⟩ => ?_
 have h := h.up u1
 have hwl := hw.lv
 have hnn : (ndN rs k).length ≤ rs.length := by
  have := List.length_filter_le (fun i' => jq (rs.getD i' ru0) (rs.getD k ru0)) (List.range rs.length)
  rwa [List.length_range] at this
 rw [hwl.len, ab]
 have loop : ∀ (d j : Nat), d + j = (ndN rs k).length → bY x1 (pt b5) (pt b7) (.map (some m)) (iv (n : Int)) (iv (k : Int)) (iv to_) w (iv ((aj (ndN rs k)).length : Int)) (iv (j : Int)) M1 Q := by
  intro d
  induction d with
  | zero =>
   intro j hd
   apply lW
   unfold gF
   rw [ai, ax, ae, if_neg (by omega)]
   exact Kl hi hk ht hn h hgo
  | succ d ih =>
   intro j hd
   have hjl : j < (ndN rs k).length := by omega
   have hjn : j < (aj (ndN rs k)).length := by rw [ax]; exact hjl
   apply lW
   unfold gF
   obtain ⟨p, e1, e2⟩ := hwl.at hjn .i64
   have e3 : (aj (ndN rs k))[j] = (((ndN rs k)[j] : Nat) : Int) := by simp [aj]
   rw [e3] at e2
   have hy := hD2 (ndN rs k)[j] (List.getElem_mem hjl)
   rw [ai, ae, if_pos hjn, e1, ab, e2, ab, h.hm.look1 d8, ab, vr, hy]
   show OP (ad .neq (.int .i64 2) (.int .i64 2)) _
   rw [iC, decide_eq_false (by simp), aE, ag _ (by omega)]
   exact ih (j + 1) (by omega)
 exact loop (ndN rs k).length 0 rfl
theorem Kj (hi : ManI rs) (h14 : rs.length ≤ 14) (hQ : ∀ M, Q (tv true) M) :
    ∀ (w n : Nat) (S : List Int) (D : Int → Int) (vA vS : Value) (M : Store), wts S ≤ w → n + wts S ≤ 14 → EI M b5 b7 m vR vD vA vS x1 zs rs S D → be x1 (pt b5) (pt b7) (.map (some m)) (iv (n : Int)) M Q := by
 intro w
 induction w with
 | zero =>
  intro n S D vA vS M hw hn h
  apply lT
  unfold gC
  rw [h.o7.ldA (s := 2) rfl, ab]
  refine (Ct h.P (by omega)).mono fun r M1 ⟨u1, e⟩ => ?_
  subst e
  have h1 : (1 : Int) ∉ S := fun hm => by have := yf hm; omega
  rw [aI, Bool.not_not, decide_eq_false h1, aE]
  have h := h.up u1
  apply lU
  unfold gD
  rw [nP h.o7, LV.len h.hA, ab, bt]
  exact Jr hi hQ h h1 rs.length 0 rfl
 | succ w ih =>
  intro n S D vA vS M hw hn h
  apply lT
  unfold gC
  rw [h.o7.ldA (s := 2) rfl, ab]
  refine (Ct h.P (by omega)).mono fun r M1 ⟨u1, e⟩ => ?_
  subst e
  have h := h.up u1
  rw [aI, Bool.not_not, ae]
  split
  ·rename_i hm1
   have hwp := yf hm1
   apply uV
   unfold lm
   rw [h.o5.ldA (s := 2) rfl, ab, h.o7.ldA (s := 2) rfl, ab]
   refine (EN h.V h.P hi.sm).mono fun l M2 ⟨u2, hl⟩ => ?_
   have h := h.up u2
   have hll := hl.lv
   have hp := h.e.ready hi.bk hm1
   have hpn : 0 < (aj (dG rs S)).length := by rw [ax]; exact hp
   rw [hll.len, ab, bR 0 0 rfl, ae, if_neg (by omega), tJ 40 40 rfl, ae, if_neg (by omega)]
   obtain ⟨p, e1, e2⟩ := hll.at hpn .i64
   have go : ∀ (j : Nat) (hj : j < (aj (dG rs S)).length) (to_ : Int), to_ = 2 ∨ to_ = 3 → bB x1 (pt b5) (pt b7) (.map (some m)) (iv (n : Int)) (iv (aj (dG rs S))[j]) (iv to_) M2 Q := by
    intro j hj to_ ht
    have hjl : j < (dG rs S).length := by rw [ax] at hj; exact hj
    have e3 : (aj (dG rs S))[j] = (((dG rs S)[j] : Nat) : Int) := by simp [aj]
    rw [e3]
    have hk : (dG rs S)[j] ∈ dG rs S := List.getElem_mem hjl
    have hlt := (h.e.set hk ht).2
    exact Kk hi hk ht (by omega) h fun M' vA' vS' h' => ih (n + 1) _ _ vA' vS' M' (by omega) (by omega) h'
   show OP (ixA 1 l (.int .i64 ((0 : Nat) : Int))) _
   rw [e1, ab, e2, ab, (h.h1).len, ab, ai, ae]
   split
   ·rename_i hnz
    obtain ⟨q, g1, g2⟩ := h.h1.at hnz .i64
    rw [g1, ab, g2, ab]
    show OP (ad .and (.int .i64 zs[n]) (.int .i64 ((255 : Nat) : Int))) _
    rw [w9 _ 255 (by decide), ab]
    show OP (ad .rem (iv (a7 zs[n] 255 : Int)) (iv ((aj (dG rs S)).length : Int))) _
    rw [xh _ _ hpn]
    have hj : a7 zs[n] 255 % (aj (dG rs S)).length < (aj (dG rs S)).length := Nat.mod_lt _ hpn
    obtain ⟨q', g3, g4⟩ := hll.at hj .i64
    rw [g3, ab, g4, ab, ab, g2, ab]
    show OP (ad .shr (.int .i64 zs[n]) (.int .u64 ((8 : Nat) : Int))) _
    rw [Fz _ 8 (by omega)]
    show OP (ad .and (.int .i64 (bF zs[n] 8)) (.int .i64 ((7 : Nat) : Int))) _
    rw [w9 _ 7 (by decide), ab, bR 0 0 rfl, ae]
    split
    ·exact go _ hj 3 (.inr rfl)
    ·exact go _ hj 2 (.inl rfl)
   ·exact go 0 hpn 2 (.inl rfl)
  ·rename_i h1
   apply lU
   unfold gD
   rw [nP h.o7, LV.len h.hA, ab, bt]
   exact Jr hi hQ h h1 rs.length 0 rfl
theorem BA {M : Store} {x0 x1 : Value} {ts zs : List Int} (h0 : LV iv Ty.b M x0 ts) (hx : LV iv Ty.b M x1 zs) : R F.M #[x0, x1] M fun v _ => v = tv true := by
 refine R.cps fun Q hQ => ?_
 have hQ : ∀ M, Q (tv true) M := fun M => hQ _ _ rfl
 apply xF
 unfold oe
 refine Gc h0 fun v M2 u2 hv => ?_
 rw [(tp2 _ _).1, (tp2 _ _).2]
 refine H3 hv fun vR vD M6 u6 o hR hD => ?_
 show OP (ad .neq (iv ((0 : Nat) : Int)) (.int .i64 0)) _
 rw [p5 0 0 rfl, ae, if_neg (by simp), o.ldA (s := 2) rfl, ab]
 have hi := FF ts
 have h14 := (CR ts).2.2
 generalize pY ts = rs at *
 refine (IJ ⟨vR, vD, rfl, hR, hD⟩ hi.ok hi.sm hi.bk).mono fun p M7 ⟨u7, hp⟩ => ?_
 obtain ⟨pA, pS, rfl, hpA, hpS, _⟩ := hp
 refine au fun M8 u8 o8 n8 => ?_
 have e1 : ∃ a c, pA = .slice a (aj (List.range rs.length)).length c := Sl.slice hpA
 have e2 : ∃ a c, pS = .slice a (di rs.length).length c := Sl.slice hpS
 obtain ⟨a1, c1, rfl⟩ := e1
 obtain ⟨a2, c2, rfl⟩ := e2
 refine bq (vs := mcs (.slice a1 (aj (List.range rs.length)).length c1) (.slice a2 (di rs.length).length c2)) o8 rfl rfl (kC _ _ _ _ _ _) fun M9 c9 o9 _ => ?_
 rw [aY]
 have u79 : Up M7 M9 := u8.ch c9 (by simp)
 have u10 := Up.push M9 (some (.inr (.inl [])))
 have u7p := u79.trans u10
 have u6p := u7.trans u7p
 have hw : wts (di rs.length) ≤ rs.length := by
  have := tP (di rs.length)
  have e : (di rs.length).length = rs.length := by unfold di; rw [List.length_replicate]
  rwa [e] at this
 refine Kj (D := fun _ => 0) hi h14 hQ (wts (di rs.length)) 0 (di rs.length) _ _ _ (Nat.le_refl _) (by omega) ⟨Ob.up o u6p, hR.up u6p, Sl.up hD u6p, Ob.up o9 u10, Sl.up hpA u7p, Sl.up hpS u7p, (hx.up u2).up (u6.trans u6p), ?_, PE.init hi.bk⟩
 rw [GR]
 exact Mp.new M9
end
end Go.G
