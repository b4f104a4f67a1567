/- Layer 19: the steps of a sweep. -/
import Derived.Test.YtjchjhkhopcalaaGreatDoorPZ19c
import Derived.Test.YtjchjhkhopcalaaGreatDoorPGS
import Derived.Test.YtjchjhkhopcalaaGreatDoorPW4b
namespace Go.G
open Go.Ab Go.Proofs Go.RowKit
set_option linter.unusedVariables false
set_option linter.unusedSimpArgs false
set_option maxRecDepth 100000
def aI : List UInt8 := [116, 109, 112]
def an (who inc : Int) (s : List UInt8) : Bool := match ofF s with
 | some (w, i) => decide (w = who) && decide (i < inc)
 | none => false
def am (K : List (List UInt8)) (who inc : Int) : List (List UInt8) := (lsK K aI).filter (an who inc)
def swc (who inc : Int) (b : Bool) (v : Value) : List Value := [iv who, iv inc, tv b, v]
def SP (M : Store) (bs : Nat) (who inc : Int) (b : Bool) (l : List (List UInt8)) : Prop := ∃ v, Ob M bs (swc who inc b v) Ty.b ∧ LV sv Ty.a M v l
structure Kz (M M' : Store) : Prop where
 n : M.n ≤ M'.n
 s : ∀ v (xs : List (List UInt8)), LV sv Ty.a M v xs → LV sv Ty.a M' v xs
 i : ∀ v (xs : List Int), LV iv Ty.f M v xs → LV iv Ty.f M' v xs
 t : Tb M → Tb M'
theorem Ks.kz {M M' : Store} (h : Ks M M') : Kz M M' := ⟨h.n, h.s, h.i, h.t⟩
theorem Kz.trans {M M1 M2 : Store} (h : Kz M M1) (k : Kz M1 M2) : Kz M M2 := ⟨Nat.le_trans h.n k.n, fun v xs a => k.s v xs (h.s v xs a), fun v xs a => k.i v xs (h.i v xs a), fun a => k.t (h.t a)⟩
theorem Kz.sw {M M' : Store} {b : Nat} {cells : List Value} (c : Ch [b] M M') (o : Ob M b cells Ty.b) (hb : 3 ≤ b) : Kz M M' := by
 have k := c.keepT o
 exact ⟨c.n, fun v xs a => Sl.keep a (by decide) k, fun v xs a => Sl.keep a (by decide) k, fun a => a.chS c (by simp; omega)⟩
section
variable {M : Store} {bf r last bs : Nat} {es : FEs} {who inc : Int}
theorem sw4 {b : Nat} {c0 c1 c2 c3 : Value} (o : Ob M b [c0, c1, c2, c3] Ty.b) : (∀ K : Value → Prop, OP (ld 1 false (.pointer (some ⟨b, 0, none⟩)) M) K = K c0) ∧ (∀ K : Value → Prop, OP (ld 1 false (.pointer (some ⟨b, 1, none⟩)) M) K = K c1) ∧ (∀ K : Value → Prop, OP (ld 1 false (.pointer (some ⟨b, 2, none⟩)) M) K = K c2) ∧ (∀ K : Value → Prop, OP (ld 1 false (.pointer (some ⟨b, 3, none⟩)) M) K = K c3) :=
 ⟨fun K => by rw [o.ld (v := c0) rfl, ae], fun K => by rw [o.ld (v := c1) rfl, ae], fun K => by rw [o.ld (v := c2) rfl, ae], fun K => by rw [o.ld (v := c3) rfl, ae]⟩
theorem sS {Q : Value → Store → Prop} (hQ : ∀ M' bs, Up M M' → M.n ≤ bs → Ob M' bs (swc who inc false (.slice none 0 0)) Ty.b → Q (pB bs) M') : R F.Z #[iv who, iv inc] M Q := by
 apply pr
 unfold kM
 have e1 : jo #[(.int .i64 0), (.int .i64 0), (.bool false), (.slice none 0 0)] [(0, 1), (1, 1), (2, 1), (3, 1)] [(0, iv who), (1, iv inc)] = some (.agg #[iv who, iv inc, tv false, .slice none 0 0]) := by kernel_rfl
 have e2 : gQ (.agg #[iv who, iv inc, tv false, .slice none 0 0]) = some [iv who, iv inc, tv false, .slice none 0 0] := by kernel_rfl
 rw [e1, ae, e2, ae]
 refine jN fun M1 u1 o1 n1 => ?_
 exact ⟨rfl, hQ M1 M.n u1 (Nat.le_refl _) o1⟩
theorem om {b : Bool} {l : List (List UInt8)} (h : SP M bs who inc b l) {Q : Value → Store → Prop} (hQ : Q (tv (decide (0 < l.length))) M) : aK (pB bs) M Q := by
 obtain ⟨v, o, hv⟩ := h
 apply iX
 unfold ey
 simp only [bR, dR, (sw4 o).2.2.2]
 rw [LV.len hv, ae]
 show OP (ab .gtr (iv (l.length : Int)) (iv ((0 : Nat) : Int))) _
 rw [lm]
 exact ⟨rfl, hQ⟩
theorem rh (hT : Tb M) (h : SW M bf r last es) (hb3 : 3 ≤ bs) (o : Ob M bs (swc who inc false (.slice none 0 0)) Ty.b) (hlen : ∀ k ∈ af es, k.length ≤ 1000) (hn : es.length ≤ 1000) :
    R F.r #[pB bs, pB bf] M fun v M' => v = tv (decide (0 < (am (af es) who inc).length)) ∧ SW M' bf r last es ∧ SP M' bs who inc true (am (af es) who inc) ∧ Kz M M' := by
 refine R.cps fun Q hQ => ?_
 have o : Ob M bs [iv who, iv inc, tv false, .slice none 0 0] Ty.b := o
 apply fw
 unfold du
 simp only [bR, dR, (sw4 o).2.2.1]
 rw [bE, Bool.not_false, dl]
 refine gF (i := 2) (w := tv true) o (by simp) rfl rfl fun M1 c1 o1 _ => ?_
 have o1 : Ob M1 bs [iv who, iv inc, tv true, .slice none 0 0] Ty.b := o1
 have k1 := c1.keepT o
 have h1 : SW M1 bf r last es := h.kp (by decide) k1
 refine (dm h1 hlen hn (d := aI) (by decide)).mono fun v M2 ⟨u2, hN⟩ => ?_
 have hv := hN.lv
 have hT2 : Tb M2 := (hT.chS c1 (by simp; omega)).up u2
 have o2 : Ob M2 bs [iv who, iv inc, tv true, .slice none 0 0] Ty.b := Ob.up o1 u2
 have h2 := h1.up u2
 have c02 : Ch [bs] M M2 := c1.up u2
 have hLs : ∀ s ∈ lsK (af es) aI, s.length ≤ 1000 := fun s hs => hlen s ((aG _).mem_iff.1 (List.mem_filter.1 hs).1)
 have hLl : (lsK (af es) aI).length ≤ 1000 := by
  have h1 := (aG (af es)).length_eq
  have h2 := List.length_filter_le (inD aI) (bS (af es))
  unfold lsK
  simp [af] at h1 h2 ⊢
  omega
 unfold am at hQ
 generalize lsK (af es) aI = L at *
 rw [LV.len hv, ae]
 have loop : ∀ (q i : Nat) (vl : Value) (M' : Store), q + i = L.length → Ch [bs] M2 M' → Ob M' bs [iv who, iv inc, tv true, vl] Ty.b → NV sv Ty.a M2 M' vl ((L.take i).filter (an who inc)) → ar (pB bs) v (iv (L.length : Int)) (iv (i : Int)) M' Q := by
  intro q
  induction q with
  | zero =>
   intro i vl M' hi hc ho hN
   apply eA
   unfold cX
   rw [bm, ag, if_neg (by omega)]
   rw [List.take_of_length_le (by omega)] at hN
   have k2 := hc.keepT o2
   have hc0 : Ch [bs] M M' := c02.trans hc
   refine om (b := true) (l := L.filter (an who inc)) ⟨vl, ho, hN.lv⟩ (hQ _ _ ⟨rfl, h2.kp (by decide) k2, ⟨vl, ho, hN.lv⟩, Kz.sw hc0 o hb3⟩)
  | succ q ih =>
   intro i vl M' hi hc ho hN
   have hil : i < L.length := by omega
   have htk := List.take_succ_eq_append_getElem hil
   have k2 := hc.keepT o2
   have hfl : ((L.take i).filter (an who inc)).length ≤ i := by
    have := List.length_filter_le (an who inc) (L.take i)
    rw [List.length_take] at this
    omega
   apply eA
   unfold cX
   rw [bm, ag, if_pos hil]
   apply iY
   unfold ez
   obtain ⟨p, e1, e2⟩ := LV.at (Sl.keep hv (by decide) k2) hil .i64
   have hsl := hLs L[i] (List.getElem_mem hil)
   rw [e1, ae, e2, ae]
   refine (uz (hT2.chS hc (by simp; omega)) (s := L[i]) (by omega)).mono fun w M3 ⟨u3, ew⟩ => ?_
   subst ew
   have hc3 : Ch [bs] M2 M3 := hc.up u3
   have ho3 := Ob.up ho u3
   have skip : an who inc L[i] = false → OP (ab .add (iv (i : Int)) (.int .i64 1)) fun t59 => ar (pB bs) v (iv (L.length : Int)) t59 M3 Q := by
    intro hb
    rw [aP _ (by omega)]
    refine ih (i + 1) vl M3 (by omega) hc3 ho3 ?_
    rw [htk, List.filter_append, List.filter_cons_of_neg (by rw [hb]; decide), List.filter_nil, List.append_nil]
    exact Nw.up hN u3
   cases hof : ofF L[i] with
   | none =>
    have hm : an who inc L[i] = false := by unfold an; rw [hof]
    unfold ofR
    rw [nf, ae, ng, ae, nh, ae, ib]
    exact skip hm
   | some wi =>
    obtain ⟨w, j⟩ := wi
    have hm : an who inc L[i] = (decide (w = who) && decide (j < inc)) := by unfold an; rw [hof]
    unfold ofR
    rw [nf, ae, ng, ae, nh, ae, dl]
    simp only [bR, dR, (sw4 ho3).1, (sw4 ho3).2.1, (sw4 ho3).2.2.2]
    show OP (ab .eql (.int .i64 w) (.int .i64 who)) _
    rw [dG, ag]
    split
    ·rename_i hw
     show OP (ab .lss (.int .i64 j) (.int .i64 inc)) _
     rw [fB, ag]
     split
     ·rename_i hj
      have hb : an who inc L[i] = true := by rw [hm, decide_eq_true hw, decide_eq_true hj]; rfl
      rw [nI, jG]
      refine NV.app1 (M0 := Mzz) (Mb := M2) (Up.zero _) (Nat.zero_le _) hc3.n (Nw.up hN u3) L[i] rfl (by omega) fun vl' M4 _ hN4 c4 _ => ?_
      have k4 := Nw.keepE (Nw.up hN u3) c4
      have hc4 : Ch [bs] M2 M4 := hc3.trans' c4 fun b hb => .inr (Nw.bx_in (Nw.up hN u3) (qW.1 hb)).1
      have ho4 := Ob.keep ho3 (by decide) k4
      obtain ⟨a', c', rfl⟩ := hN4.lv.slice
      refine gF (i := 3) (w := .slice a' ((L.take i).filter (an who inc) ++ [L[i]]).length c') ho4 (by simp) (kw _ _ _) (sG _ _ _) fun M5 c5 o5 _ => ?_
      have o5 : Ob M5 bs [iv who, iv inc, tv true, .slice a' ((L.take i).filter (an who inc) ++ [L[i]]).length c'] Ty.b := o5
      have k5 := c5.keepT ho4
      rw [aP _ (by omega)]
      refine ih (i + 1) _ M5 (by omega) (hc4.trans c5) o5 ?_
      rw [htk, List.filter_append, List.filter_cons_of_pos hb, List.filter_nil]
      exact Nw.keep hN4 (by decide) k5
     ·rename_i hj
      exact skip (by rw [hm, decide_eq_false hj, Bool.and_false])
    ·rename_i hw
     exact skip (by rw [hm, decide_eq_false hw, Bool.false_and])
 exact loop L.length 0 _ M2 rfl (Ch.refl _ _) o2 NV.nil
def uE (K : List (List UInt8)) : List (List UInt8) → List (List UInt8)
 | [] => K
 | s :: _ => K.erase s
theorem np (h : SW M bf r last es) (hb3 : 3 ≤ bs) {l : List (List UInt8)} (hs : SP M bs who inc true l) (hl : ∀ s ∈ l, s ∈ af es ∧ eG s = true ∧ s.length ≤ 1000) (hn : es.length ≤ 1000) :
    R F.r #[pB bs, pB bf] M fun v M' => v = tv (decide (1 < l.length)) ∧ Kz M M' ∧ SP M' bs who inc true l.tail ∧ ∃ es', SW M' bf r last es' ∧ af es' = uE (af es) l := by
 refine R.cps fun Q hQ => ?_
 obtain ⟨vl, o, hv⟩ := hs
 have o : Ob M bs [iv who, iv inc, tv true, vl] Ty.b := o
 apply fw
 unfold du
 simp only [bR, dR, (sw4 o).2.2.1, (sw4 o).2.2.2]
 rw [bE, Bool.not_true, ib, LV.len hv, ae]
 show OP (ab .gtr (iv (l.length : Int)) (iv ((0 : Nat) : Int))) _
 rw [lm, ag]
 cases l with
 | nil =>
  rw [if_neg (by simp)]
  exact om (b := true) (l := []) ⟨vl, o, hv⟩ (hQ _ _ ⟨rfl, (Ks.up (Ch.refl [] M)).kz, ⟨vl, o, hv⟩, es, h, rfl⟩)
 | cons s l =>
  rw [if_pos (by simp)]
  obtain ⟨p, e1, e2⟩ := LV.at hv (i := 0) (by simp) .i64
  show OP (ixA 1 vl (.int .i64 ((0 : Nat) : Int))) _
  rw [e1, ae, e2, ae]
  obtain ⟨g1, g2, g3⟩ := hl s (by simp)
  refine (sP h (s := s) g1 g2 (by omega) hn).mono fun w M1 ⟨k1, es', h1, hk⟩ => ?_
  have o1 : Ob M1 bs [iv who, iv inc, tv true, vl] Ty.b := k1.o _ _ o
  have hv1 := k1.s _ _ hv
  simp only [bR, dR, (sw4 o1).2.2.2]
  obtain ⟨v', e3, hv'⟩ := LV.cut hv1 (lo := some (iv ((1 : Nat) : Int))) (hi := none) (a := 1) (r := (s :: l).length) rfl (fI (by simp) .i64) (Nat.le_refl _) (by simp)
  rw [show slV 1 Ty.a vl (some (.int .i64 1)) none M1 = some v' from e3, ae]
  rw [List.take_length] at hv'
  have hv' : LV sv Ty.a M1 v' l := hv'
  obtain ⟨a', c', rfl⟩ := hv'.slice
  refine gF (i := 3) (w := .slice a' l.length c') o1 (by simp) (kw _ _ _) (sG _ _ _) fun M2 c2 o2 _ => ?_
  have o2 : Ob M2 bs [iv who, iv inc, tv true, .slice a' l.length c'] Ty.b := o2
  have k2 := c2.keepT o1
  have hv2 : LV sv Ty.a M2 (.slice a' l.length c') l := Sl.keep hv' (by decide) k2
  refine om (b := true) (l := l) ⟨_, o2, hv2⟩ (hQ _ _ ⟨?_, k1.kz.trans (Kz.sw c2 o1 hb3), ⟨_, o2, hv2⟩, es', h1.kp (by decide) k2, hk⟩)
  simp
end
end Go.G
