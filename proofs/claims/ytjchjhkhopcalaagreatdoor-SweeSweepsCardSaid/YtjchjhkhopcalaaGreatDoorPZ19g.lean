/- Layer 19: SweeSweeps, from its beginning. -/
import Derived.Test.YtjchjhkhopcalaaGreatDoorPZ19f
namespace Go.G
open Go.Ab Go.Proofs Go.RowKit
set_option linter.unusedVariables false
set_option linter.unusedSimpArgs false
set_option maxRecDepth 100000
theorem nr {t e : TypeId} {cst : Bool} (h : Tryz.prog.underlying t = some (.pointer e)) (a : Addr) (K : Value → Prop) : OP (dv Tryz.prog cst .eql t (.pointer (some a)) (.pointer none)) K = K (.bool false) := by
 simp [dv, aeq, h, OP]
section
variable {bf r : Nat} {Q : Value → Store → Prop}
theorem uX {M : Store} {es : FEs} {last w i : Nat} {x10 x12 : Value} (hT : Tb M) (h : SW M bf r last es) (hok : ∀ x ∈ af es, okZ x) (hn : es.length ≤ 30) (hQ : ∀ M, Q (tv true) M)
    (h10 : LV sv Ty.a M x10 ((lsK (af es) aI).filter fun s => !an (w : Int) (i : Int) s)) (h12 : LV sv Ty.a M x12 (lsK (af es) aI)) :
    b4 (iv (w : Int)) (iv (i : Int)) (pB bf) x10 (iv ((am (af es) (w : Int) (i : Int)).length : Int)) x12 M Q := by
 have hlen : ∀ k ∈ af es, k.length ≤ 1000 := fun k hk => by have := (hok k hk).2; omega
 have hKl : (af es).length ≤ 30 := by simp [af]; exact hn
 apply i9
 unfold eS
 refine (dm h hlen (by omega) (d := []) (by decide)).mono fun v1 M1 ⟨u1, h1⟩ => ?_
 refine (dm (h.up u1) hlen (by omega) (d := fc) (by decide)).mono fun v2 M2 ⟨u2, h2⟩ => ?_
 refine sS fun M3 bs u3 hb o' => ?_
 rw [nr U.a, bl, if_neg (by decide)]
 have u12 := u1.trans u2
 have u13 := u12.trans u3
 rw [LV.len (Sl.up h12 u13), ae]
 have hb3 : 3 ≤ bs := by
  have := u12.n
  have := h.ob.lt
  have := h.b3
  omega
 exact uM (bf := bf) (r := r) (bs := bs) h.nd hok hKl hQ rfl ⟨hT.up u13, ⟨last, h.up u13⟩, hb3, ⟨_, o', Sl.nil _ _ _⟩, fun x hx => hx, by omega, Sl.up h10 u13, Sl.up h1.lv (u2.trans u3), Sl.up h2.lv u3⟩ o'
theorem uo {M : Store} {es : FEs} {last w i : Nat} (hT : Tb M) (h : SW M bf r last es) (hok : ∀ x ∈ af es, okZ x) (hn : es.length ≤ 30) (hQ : ∀ M, Q (tv true) M) :
    bz (iv (w : Int)) (iv (i : Int)) (pB bf) M Q := by
 have hlen : ∀ k ∈ af es, k.length ≤ 1000 := fun k hk => by have := (hok k hk).2; omega
 apply i7
 unfold eQ
 refine (dm h hlen (by omega) (d := aI) (by decide)).mono fun v M2 ⟨u2, hv⟩ => ?_
 have hv := hv.lv
 rw [LV.len hv, ae]
 have h6 := fun (M' : Store) (x10 : Value) (u : Up M2 M') (h10 : LV sv Ty.a M' x10 ((lsK (af es) aI).filter fun s => !an (w : Int) (i : Int) s)) =>
  uX (bf := bf) (r := r) (Q := Q) (w := w) (i := i) ((hT.up u2).up u) ((h.up u2).up u) hok hn hQ h10 (Sl.up hv u)
 unfold am at h6
 have hLl : (lsK (af es) aI).length ≤ 40 := by
  have h1 := (aG (af es)).length_eq
  have h2 := List.length_filter_le (inD aI) (bS (af es))
  unfold lsK
  simp [af] at h1 h2 ⊢
  omega
 have hLs : ∀ s ∈ lsK (af es) aI, s.length ≤ 1000 := fun s hs => hlen s (ls.1 hs).1
 generalize lsK (af es) aI = L at *
 have loop : ∀ (q j : Nat) (x10 : Value) (M' : Store), q + j = L.length → Up M2 M' → NV sv Ty.a M2 M' x10 ((L.take j).filter fun s => !an (w : Int) (i : Int) s) →
     aw (iv (w : Int)) (iv (i : Int)) (pB bf) x10 (iv (((L.take j).filter (an (w : Int) (i : Int))).length : Int)) v v (iv (L.length : Int)) (iv (j : Int)) M' Q := by
  intro q
  induction q with
  | zero =>
   intro j x10 M' hj u hN
   apply eX
   unfold db
   rw [bm, ag, if_neg (by omega)]
   rw [List.take_of_length_le (by omega)] at hN ⊢
   exact h6 M' x10 u hN.lv
  | succ q ih =>
   intro j x10 M' hj u hN
   have hjl : j < L.length := by omega
   have htk := List.take_succ_eq_append_getElem hjl
   have hf1 : ((L.take j).filter fun s => !an (w : Int) (i : Int) s).length ≤ j := by
    have := List.length_filter_le (fun s => !an (w : Int) (i : Int) s) (L.take j)
    rw [List.length_take] at this
    omega
   have hf2 : ((L.take j).filter (an (w : Int) (i : Int))).length ≤ j := by
    have := List.length_filter_le (an (w : Int) (i : Int)) (L.take j)
    rw [List.length_take] at this
    omega
   apply eX
   unfold db
   rw [bm, ag, if_pos hjl]
   apply i8
   unfold eR
   obtain ⟨p, e1, e2⟩ := LV.at (Sl.up hv u) hjl .i64
   have hsl := hLs L[j] (List.getElem_mem hjl)
   rw [e1, ae, e2, ae]
   refine (ul (s := L[j]) (by omega)).mono fun o M3 ⟨u3, eo⟩ => ?_
   subst eo
   rw [← uh]
   have put : an (w : Int) (i : Int) L[j] = false → OP (bd (.string ⟨#[]⟩) 1 1 [(0, sv L[j])]) fun c => LT (.slice (some ⟨M3.n, 0, none⟩) 1 1) (M3.push (some (.inl (c, Ty.a, true)))) fun t112 M4 => OP2 (appV 1 Ty.a x10 t112 M4) fun t113 M5 => OP (ab .add (iv (j : Int)) (.int .i64 1)) fun t114 =>
       aw (iv (w : Int)) (iv (i : Int)) (pB bf) t113 (iv (((L.take j).filter (an (w : Int) (i : Int))).length : Int)) v v (iv (L.length : Int)) t114 M5 Q := by
    intro hb
    rw [nI, jG]
    refine NV.app1 (M0 := M2) (Mb := M2) (u.trans u3) (Nat.le_refl _) (u.trans u3).n (Nw.up hN u3) L[j] rfl (by omega) fun x10' M5 u5 hN5 _ _ => ?_
    rw [aP _ (by omega)]
    have := ih (j + 1) x10' M5 (by omega) u5 (by rw [htk, List.filter_append, List.filter_cons_of_pos (by rw [hb]; rfl), List.filter_nil]; exact hN5)
    rw [htk, List.filter_append, List.filter_cons_of_neg (by rw [hb]; decide), List.filter_nil, List.append_nil] at this
    exact this
   cases hof : ofF L[j] with
   | none =>
    have hm : an (w : Int) (i : Int) L[j] = false := by unfold an; rw [hof]
    unfold ofR
    rw [nf, ae, ng, ae, nh, ae, ib]
    exact put hm
   | some wi =>
    obtain ⟨a, b⟩ := wi
    have hm : an (w : Int) (i : Int) L[j] = (decide (a = (w : Int)) && decide (b < (i : Int))) := by unfold an; rw [hof]
    unfold ofR
    rw [nf, ae, ng, ae, nh, ae, dl]
    show OP (ab .eql (.int .i64 a) (.int .i64 (w : Int))) _
    rw [dG, ag]
    split
    ·rename_i hw
     show OP (ab .lss (.int .i64 b) (.int .i64 (i : Int))) _
     rw [fB, ag]
     split
     ·rename_i hb
      have hb : an (w : Int) (i : Int) L[j] = true := by rw [hm, decide_eq_true hw, decide_eq_true hb]; rfl
      rw [aP _ (by omega), aP _ (by omega)]
      have := ih (j + 1) x10 M3 (by omega) (u.trans u3) (by rw [htk, List.filter_append, List.filter_cons_of_neg (by rw [hb]; decide), List.filter_nil, List.append_nil]; exact Nw.up hN u3)
      rw [htk, List.filter_append, List.filter_cons_of_pos hb, List.filter_nil, List.length_append] at this
      exact this
     ·rename_i hb
      exact put (by rw [hm, decide_eq_false hb, Bool.and_false])
    ·rename_i hw
     exact put (by rw [hm, decide_eq_false hw, Bool.false_and])
 exact loop L.length 0 _ M2 rfl (Ch.refl _ _) NV.nil
theorem uW {x0 : Value} {zs : List Int} {w i : Nat} (hQ : ∀ M, Q (tv true) M) :
    ∀ (q j last : Nat) (es : FEs) (M : Store), q + j = 30 → Tb M → LV iv Ty.f M x0 zs → SW M bf r last es → last ≤ j → es.length ≤ j → (∀ x ∈ af es, okZ x) →
     av x0 (iv (w : Int)) (iv (i : Int)) (pB bf) (iv (j : Int)) M Q := by
 intro q
 induction q with
 | zero =>
  intro j last es M hj hT h0 h hl hn hok
  have h3 := uo (w := w) (i := i) hT h hok (by omega) hQ
  apply eW
  unfold da
  rw [LV.len h0, ae, bm, ag]
  split
  ·rw [lu 30 30 rfl, ag, if_neg (by omega)]; exact h3
  ·exact h3
 | succ q ih =>
  intro j last es M hj hT h0 h hl hn hok
  apply eW
  unfold da
  rw [LV.len h0, ae, bm, ag]
  split
  ·rename_i hjz
   rw [lu 30 30 rfl, ag, if_pos (by omega)]
   apply i6
   unfold eP
   obtain ⟨p, e1, e2⟩ := LV.at h0 hjz .i64
   rw [e1, ae, e2, ae]
   show OP (ab .and (.int .i64 zs[j]) (.int .i64 ((3 : Nat) : Int))) _
   rw [hC _ 3 (by decide), ae, ae, e2, ae]
   show OP (ab .shr (.int .i64 zs[j]) (.int .u64 ((2 : Nat) : Int))) _
   rw [nT _ 2 (by omega)]
   show OP (ab .and (.int .i64 (gU zs[j] 2)) (.int .i64 ((7 : Nat) : Int))) _
   rw [hC _ 7 (by decide), ae, ae, e2, ae]
   show OP (ab .shr (.int .i64 zs[j]) (.int .u64 ((5 : Nat) : Int))) _
   rw [nT _ 5 (by omega)]
   show OP (ab .and (.int .i64 (gU zs[j] 5)) (.int .i64 ((7 : Nat) : Int))) _
   rw [hC _ 7 (by decide), ae]
   have ha := g8 zs[j] 3 (by decide)
   have hb := g8 (gU zs[j] 2) 7 (by decide)
   have hc := g8 (gU zs[j] 5) 7 (by decide)
   have hk := g8 (gU zs[j] 8) 7 (by decide)
   generalize jh zs[j] 3 = a at *
   generalize jh (gU zs[j] 2) 7 = b at *
   generalize jh (gU zs[j] 5) 7 = c at *
   refine (rW (a : Int) (b : Int) (c : Int)).mono fun o M1 ⟨u1, eo⟩ => ⟨u1.tdx _ _ _, ?_⟩
   subst eo
   rw [ut ha hb hc]
   obtain ⟨p', g1, g2⟩ := LV.at (LV.up h0 u1) hjz .i64
   rw [e1] at g1
   injection g1 with g1
   subst g1
   rw [ae, g2, ae]
   show OP (ab .shr (.int .i64 zs[j]) (.int .u64 ((8 : Nat) : Int))) _
   rw [nT _ 8 (by omega)]
   show OP (ab .and (.int .i64 (gU zs[j] 8)) (.int .i64 ((7 : Nat) : Int))) _
   rw [hC _ 7 (by decide), ae]
   generalize jh (gU zs[j] 8) 7 = k at *
   have go : ∀ s : List UInt8, okZ s → OP (bd (.int .u8 0) 1 1 [(0, (.int .u8 1))]) fun c => LT (.slice (some ⟨M1.n, 0, none⟩) 1 1) (M1.push (some (.inl (c, Ty.d, true)))) fun t81 M2 => R F.s #[pB bf, sv s, t81] M2 fun t82 M3 => OP (ab .add (iv (j : Int)) (.int .i64 1)) fun t40 =>
       av x0 (iv (w : Int)) (iv (i : Int)) (pB bf) t40 M3 Q := by
    intro s hs
    show OP (bd (.int .u8 0) 1 1 [(0, bv 1)]) _
    rw [sj, jG]
    have up := Up.push M1 (some (.inl ([bv 1], Ty.d, true)))
    have hx : B (M1.push (some (.inl ([bv 1], Ty.d, true)))) (.slice (some ⟨M1.n, 0, none⟩) 1 1) [1] := (Nw.lit (M0 := M1) (n := 1) (cs := [bv 1]) (Nat.le_refl _) rfl).sl
    have u := u1.trans up
    refine (tG (h.up u) hs.1 (by have := hs.2; omega) hx (by omega) (by omega)).mono fun v M3 ⟨k3, es', h3, hk3⟩ => ?_
    rw [aP _ (by omega)]
    refine ih (j + 1) (last + 1) es' M3 (by omega) (k3.t (hT.up u)) (k3.i _ _ (Sl.up h0 u)) h3 (by omega) ?_ fun x hx => ?_
    ·have h1 : (af es').length ≤ (af es).length + 1 := by
       rw [hk3]; unfold iq; split <;> simp
     simp [af] at h1
     omega
    ·rw [hk3] at hx
     unfold iq at hx
     split at hx
     ·exact hok x hx
     ·rcases List.mem_append.1 hx with hx | hx
      ·exact hok x hx
      ·rw [List.mem_singleton.1 hx]; exact hs
   have hok' : ∀ k, k ≤ 7 → okZ (nmZ a b c k) := fun k hk => ug ha hb hc hk
   have hdr : (bt ++ dH a b c).drop 4 = dH a b c := rfl
   have hlen4 : 4 ≤ (bt ++ dH a b c).length := by rw [List.length_append]; show 4 ≤ 4 + _; omega
   have htl : (dH a b c).length ≤ 30 := by
    have := (hok' 2 (by omega)).2
    exact this
   rw [pX 0 0 rfl, ag]
   split
   ·show OP (slS (sv (bt ++ dH a b c)) (some (iv ((4 : Nat) : Int))) none) _
    rw [fN hlen4, hdr]
    show OP (al .add (sv (pY 0)) (sv (dH a b c))) _
    rw [bT _ _ (by show 5 + _ ≤ _; omega)]
    exact go _ (hok' 0 (by omega))
   ·rw [pX 1 1 rfl, ag]
    split
    ·show OP (slS (sv (bt ++ dH a b c)) (some (iv ((4 : Nat) : Int))) none) _
     rw [fN hlen4, hdr]
     show OP (al .add (sv (pY 1)) (sv (dH a b c))) _
     rw [bT _ _ (by show 6 + _ ≤ _; omega)]
     exact go _ (hok' 1 (by omega))
    ·rw [pX 2 2 rfl, ag]
     split
     ·show OP (slS (sv (bt ++ dH a b c)) (some (iv ((4 : Nat) : Int))) none) _
      rw [fN hlen4, hdr]
      exact go _ (hok' 2 (by omega))
     ·exact go _ (hok' 3 (by omega))
  ·exact uo hT h hok (by omega) hQ
theorem mT {M : Store} (hT : Tb M) (hM : 3 ≤ M.n) {x0 : Value} {zs : List Int} {n1 n2 : Int} (h0 : LV iv Ty.f M x0 zs) : R F.S #[x0, iv n1, iv n2] M fun v _ => v = tv true := by
 refine R.cps fun Q hQ => ?_
 have hQ : ∀ M, Q (tv true) M := fun M => hQ _ _ rfl
 apply kh
 unfold fQ
 refine (tF hM).mono fun v M1 ⟨u1, bf, r, e, h⟩ => ?_
 subst e
 rw [nr U.b, bl, if_neg (by decide)]
 show OP (ab .and (.int .i64 n1) (.int .i64 ((3 : Nat) : Int))) _
 rw [hC _ 3 (by decide), ae]
 show OP (ab .and (.int .i64 n2) (.int .i64 ((7 : Nat) : Int))) _
 rw [hC _ 7 (by decide), ae]
 exact uW hQ 30 0 0 [] M1 rfl (hT.up u1) (Sl.up h0 u1) h (Nat.le_refl _) (Nat.le_refl _) (fun x hx => by cases hx)
end
end Go.G
