/- Layer 18: what is ready, by the document. -/
import Derived.Test.YtnonfejhkbaikaaPY18c
namespace Go.G
open Go.Ab Go.Proofs Go.RowKit
set_option linter.unusedVariables false
set_option linter.unusedSimpArgs false
set_option maxRecDepth 100000
section
variable {rs : List RuT} {S : List Int} {k : Nat} {ds : List (List UInt8)} {Q : Value → Store → Prop}
theorem Hp {M : Store} {v : Value} {n : Nat} (h : PV M v n S) (hn : n ≤ 2 ^ 20) (hk : k < n) : R F.c1 #[v, iv (k : Int)] M fun r M' => Up M M' ∧ r = iv (stF S k) := by
 refine R.cps fun Q hQ => ?_
 obtain ⟨vA, vS, rfl, h1, h2, h3⟩ := h
 apply EO
 unfold wX
 rw [gg h1 h2, ab]
 refine aq fun M1 u1 o1 n1 => ?_
 have o1 : Pb M1 M.n vA vS := o1
 have hA := LV.up h1 u1
 have hS := LV.up h2 u1
 have loop : ∀ (d i : Nat), d + i = k → eo (iv (k : Int)) (pt M.n) (iv (i : Int)) M1 Q := by
  intro d
  induction d with
  | zero =>
   intro i hi
   have : i = k := by omega
   subst this
   apply tx
   unfold mJ
   rw [dR o1, hA.len, ab, aB, ah, ae, if_pos hk, gY o1, hS.len, ab, ah, ae, if_pos (by omega)]
   apply tz
   unfold mK
   obtain ⟨p, e1, e2⟩ := hA.at (i := i) (by rw [aB]; exact hk) .i64
   rw [jb] at e2
   obtain ⟨p', g1, g2⟩ := hS.at (i := i) (by omega) .i64
   rw [dR o1, e1, ab, e2, ab, xZ, ae, if_pos rfl, gY o1, g1, ab, g2, ab, CC]
   exact ⟨rfl, hQ _ _ ⟨u1, rfl⟩⟩
  | succ d ih =>
   intro i hi
   have hin : i < n := by omega
   apply tx
   unfold mJ
   rw [dR o1, hA.len, ab, aB, ah, ae, if_pos hin, gY o1, hS.len, ab, ah, ae, if_pos (by omega)]
   apply tz
   unfold mK
   obtain ⟨p, e1, e2⟩ := hA.at (i := i) (by rw [aB]; exact hin) .i64
   rw [jb] at e2
   rw [dR o1, e1, ab, e2, ab, xZ, ae, if_neg (by omega), ai _ (by omega)]
   exact ih (i + 1) (by omega)
 exact loop k 0 rfl
theorem Lq {M0 : Store} {b2 b3 : Nat} {vA vS x5 x8 : Value} {i : Nat} (hi : i < rs.length) (hsl : rs.length ≤ 64) (hnl : (ndN rs i).length ≤ 2 ^ 20) (o3 : Pb M0 b3 vA vS) (hA : LV iv Ty.b M0 vA (aj (List.range rs.length))) (hS : LV iv Ty.b M0 vS S) (hSl : S.length = rs.length) (h8 : LV iv Ty.b M0 x8 (aj (ndN rs i)))
    {c0 : Bool} (hk : ∀ M, Up M0 M → iC (pt b2) (pt b3) x5 (iv (i : Int)) (tv (c0 && (ndN rs i).all fun j => decide (stF S j = 0) || decide (stF S j = 2))) M Q) :
    ∀ (d a : Nat) (c : Bool) (M : Store), d + a = (ndN rs i).length → Up M0 M → (c && ((ndN rs i).drop a).all fun j => decide (stF S j = 0) || decide (stF S j = 2)) = (c0 && (ndN rs i).all fun j => decide (stF S j = 0) || decide (stF S j = 2)) → bu (pt b2) (pt b3) x5 (iv (i : Int)) (tv c) x8 (iv (a : Int)) M Q := by
 intro d
 induction d with
 | zero =>
  intro a c M ha hu he
  apply ti
  unfold mA
  rw [(LV.up h8 hu).len, ab, ar, ah, ae, if_neg (by omega)]
  rw [List.drop_of_length_le (by omega)] at he
  have := hk M hu
  rw [← he] at this
  simpa using this
 | succ d ih =>
  intro a c M ha hu he
  have hal : a < (ndN rs i).length := by omega
  have han : a < (aj (ndN rs i)).length := by rw [ar]; exact hal
  rw [List.drop_eq_getElem_cons hal, List.all_cons] at he
  have hmem : (ndN rs i)[a] ∈ ndN rs i := List.getElem_mem hal
  have hjl := tZ hmem
  apply ti
  unfold mA
  rw [(LV.up h8 hu).len, ab, ar, ah, ae, if_pos hal]
  apply Bv
  unfold sD
  obtain ⟨p, e1, e2⟩ := (LV.up h8 hu).at han .i64
  have e3 : (aj (ndN rs i))[a] = (((ndN rs i)[a] : Nat) : Int) := by simp [aj]
  rw [e3] at e2
  generalize (ndN rs i)[a] = j at *
  rw [(Ob.up o3 hu).ldA (s := 2) rfl, ab, e1, ab, e2, ab]
  refine (Hp (n := rs.length) ⟨vA, vS, rfl, Sl.up hA hu, Sl.up hS hu, hSl⟩ (by omega) hjl).mono fun q M1 ⟨u1, e⟩ => ⟨u1.tdx _ _ _, ?_⟩
  subst e
  have hu1 := hu.trans u1
  cases c with
  | false =>
   rw [aL, ai _ (by omega)]
   exact ih (a + 1) false M1 (by omega) hu1 (by simpa using he)
  | true =>
   rw [aR]
   show OP (ad .eql (.int .i64 (stF S j)) (.int .i64 0)) _
   rw [db, lr]
   split
   ·rename_i h0
    rw [decide_eq_true h0, Bool.true_or, Bool.true_and, Bool.true_and] at he
    rw [ai _ (by omega)]
    exact ih (a + 1) true M1 (by omega) hu1 (by rw [Bool.true_and]; exact he)
   ·rename_i h0
    rw [decide_eq_false h0, Bool.false_or, Bool.true_and] at he
    show OP (ad .eql (.int .i64 (stF S j)) (.int .i64 2)) _
    rw [db, ai _ (by omega)]
    exact ih (a + 1) _ M1 (by omega) hu1 he
theorem F4 {M : Store} {v p : Value} (h : MV M v rs ds) (hp : PV M p rs.length S) (hs : SmallRs rs) : R F.Y #[v, p] M fun w M' => Up M M' ∧ NV iv Ty.b M M' w (aj (Cv rs S)) := by
 refine R.cps fun Q hQ => ?_
 obtain ⟨vR, vD, rfl, hR, hD⟩ := h
 obtain ⟨vA, vS, rfl, hA, hS, hSl⟩ := hp
 have hsl := hs.1
 apply EA
 unfold wI
 rw [bT hR hD, ab]
 refine aq fun M1 u1 o1 n1 => ?_
 rw [gg hA hS, ab]
 refine aq fun M2 u2 o2 n2 => ?_
 have u12 := u1.trans u2
 have o1 : Mz M2 M.n vR vD := Ob.up o1 u2
 have o2 : Pb M2 M1.n vA vS := o2
 have hA2 := LV.up hA u12
 have hS2 := LV.up hS u12
 have hR2 := hR.up u12
 have hD2 := Sl.up hD u12
 have loop : ∀ (d i : Nat) (x5 : Value) (M3 : Store), d + i = rs.length → Up M2 M3 → NV iv Ty.b M2 M3 x5 (aj ((List.range i).filter (ja rs S))) → d9 (pt M.n) (pt M1.n) x5 (iv (i : Int)) M3 Q := by
  intro d
  induction d with
  | zero =>
   intro i x5 M3 hi hu hN
   apply th
   unfold mz
   rw [dR (Ob.up o2 hu), (LV.up hA2 hu).len, ab, aB, ah, ae, if_neg (by omega)]
   apply Bu
   unfold sC
   have : i = rs.length := by omega
   subst this
   exact ⟨dL hN.lv, hQ _ _ ⟨u12.trans hu, Nw.base hN u12.n⟩⟩
  | succ d ih =>
   intro i x5 M3 hi hu hN
   have hil : i < rs.length := by omega
   have hir : i < (aj (List.range rs.length)).length := by rw [aB]; exact hil
   have hfl : ((List.range i).filter (ja rs S)).length ≤ i := by
    have := List.length_filter_le (ja rs S) (List.range i)
    rwa [List.length_range] at this
   have hnl : (ndN rs i).length ≤ rs.length := by
    have := List.length_filter_le (fun i' => i8 (rs.getD i' ru0) (rs.getD i ru0)) (List.range rs.length)
    rwa [List.length_range] at this
   apply th
   unfold mz
   rw [dR (Ob.up o2 hu), (LV.up hA2 hu).len, ab, aB, ah, ae, if_pos hil]
   apply Bt
   unfold sB
   obtain ⟨p, e1, e2⟩ := (LV.up hS2 hu).at (i := i) (by omega) .i64
   obtain ⟨p', g1, g2⟩ := (LV.up hA2 hu).at hir .i64
   rw [jb] at g2
   rw [gY (Ob.up o2 hu), e1, ab, e2, ab, CC]
   show OP (ad .eql (.int .i64 (stF S i)) (.int .i64 1)) _
   rw [db, (Ob.up o1 hu).ldA (s := 2) rfl, ab, dR (Ob.up o2 hu), g1, ab, g2, ab]
   refine (vP (ds := ds) ⟨vR, vD, rfl, hR2.up hu, Sl.up hD2 hu⟩ hs.short hil).mono fun w M4 ⟨u4, hw⟩ => ⟨u4.tdx _ _ _, ?_⟩
   have hu4 := hu.trans u4
   refine Lq (M0 := M4) (c0 := decide (stF S i = 1)) hil hsl (by omega) (Ob.up o2 hu4) (LV.up hA2 hu4) (LV.up hS2 hu4) hSl hw.lv (fun M5 u5 => ?_) (ndN rs i).length 0 _ M4 rfl (Ch.refl _ _) (by rw [List.drop_zero])
   have hu5 := hu4.trans u5
   have hN5 := Nw.up (Nw.up hN u4) u5
   apply Bw
   unfold sE
   show BR (tv (ja rs S i)) _ _
   rw [av]
   split
   ·rename_i hb
    obtain ⟨p5, k1, k2⟩ := (LV.up hA2 hu5).at hir .i64
    rw [jb] at k2
    rw [dR (Ob.up o2 hu5), k1, ab, k2, ab, i1, aW]
    refine NV.app1 (M0 := M2) (Mb := M2) hu5 (Nat.le_refl _) hu5.n hN5 (i : Int) rfl (by rw [ar]; omega) fun w' M' hu' hN' _ _ => ?_
    apply tj
    unfold mB
    rw [ai _ (by omega)]
    refine ih (i + 1) w' M' (by omega) hu' ?_
    rw [List.range_succ, List.filter_append, List.filter_cons_of_pos hb, List.filter_nil, dK]
    exact hN'
   ·rename_i hb
    apply tj
    unfold mB
    rw [ai _ (by omega)]
    refine ih (i + 1) x5 M5 (by omega) hu5 ?_
    rw [List.range_succ, List.filter_append, List.filter_cons_of_neg hb, List.filter_nil, List.append_nil]
    exact hN5
 exact loop rs.length 0 _ M2 rfl (Ch.refl _ _) NV.nil
end
end Go.G
