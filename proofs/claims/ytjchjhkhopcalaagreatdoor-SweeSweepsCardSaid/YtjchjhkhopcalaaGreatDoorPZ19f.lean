/- Layer 19: SweeSweeps. -/
import Derived.Test.YtjchjhkhopcalaaGreatDoorPZ19e
import Derived.Test.YtjchjhkhopcalaaGreatDoorPW4c
import Derived.Test.YtjchjhkhopcalaaGreatDoorPGSw
namespace Go.G
open Go.Ab Go.Proofs Go.RowKit
set_option linter.unusedVariables false
set_option linter.unusedSimpArgs false
set_option maxRecDepth 100000
section
variable {M : Store} {v w : Value} {xs ys : List (List UInt8)}
theorem oU (hx : LV sv Ty.a M v xs) (hy : LV sv Ty.a M w ys) (hlen : xs.length = ys.length) (hb : xs.length ≤ 2 ^ 40) {Q : Value → Store → Prop} (hQ : Q (tv (decide (xs = ys))) M) :
    ∀ (d i : Nat), d + i = xs.length → xs.take i = ys.take i → bn v w (iv (i : Int)) M Q := by
 intro d
 induction d with
 | zero =>
  intro i hi ht
  apply fX
  unfold dM
  rw [hx.len, ae, bm, ag, if_neg (by omega)]
  apply kj
  unfold fS
  rw [List.take_of_length_le (by omega), List.take_of_length_le (by omega)] at ht
  rw [decide_eq_true ht] at hQ
  exact ⟨rfl, hQ⟩
 | succ d ih =>
  intro i hi ht
  apply fX
  unfold dM
  have hil : i < xs.length := by omega
  rw [hx.len, ae, bm, ag, if_pos hil]
  apply ki
  unfold fR
  obtain ⟨p, e1, e2⟩ := hx.at hil .i64
  obtain ⟨p', g1, g2⟩ := hy.at (i := i) (by omega) .i64
  rw [e1, ae, e2, ae, g1, ae, g2, ae, jP, ag]
  split
  ·rename_i h
   have : ¬ xs = ys := fun e => h (by
    have : xs[i]? = ys[i]? := by rw [e]
    rw [List.getElem?_eq_getElem hil, List.getElem?_eq_getElem (by omega)] at this
    exact Option.some.inj this)
   rw [decide_eq_false this] at hQ
   exact ⟨rfl, hQ⟩
  ·rename_i h
   have h : xs[i] = ys[i]'(by omega) := by simpa using h
   rw [aP _ (by omega)]
   refine ih (i + 1) (by omega) ?_
   rw [List.take_succ_eq_append_getElem hil, List.take_succ_eq_append_getElem (by omega), ht, h]
theorem ko (hx : LV sv Ty.a M v xs) (hy : LV sv Ty.a M w ys) (hb : xs.length ≤ 2 ^ 40) {Q : Value → Store → Prop} (hQ : Q (tv (decide (xs = ys))) M) : R F.w #[v, w] M Q := by
 apply lF
 unfold gX
 rw [hx.len, ae, hy.len, ae, sF, ag]
 split
 ·rename_i h
  have : ¬ xs = ys := fun e => h (by rw [e])
  rw [decide_eq_false this] at hQ
  exact ⟨rfl, hQ⟩
 ·rename_i h
  exact oU hx hy (by simpa using h) hb hQ xs.length 0 (by omega) (by simp)
end
theorem pM {M : Store} {Q : Value → Store → Prop} (hQ : Q (tv true) M) : R F.E #[] M Q := gV (g := mg) (by kernel_rfl) rfl hQ
section
variable {bf r bs : Nat} {who inc : Int} {K : List (List UInt8)} {Q : Value → Store → Prop} {x10 x18 x19 : Value}
structure ZI (M : Store) (bf r bs : Nat) (who inc : Int) (b : Bool) (l : List (List UInt8)) (K : List (List UInt8)) (x10 x18 x19 : Value) (es : FEs) : Prop where
 t : Tb M
 w : ∃ last, SW M bf r last es
 b3 : 3 ≤ bs
 p : SP M bs who inc b l
 k : ∀ x ∈ af es, x ∈ K
 n : es.length ≤ 40
 h10 : LV sv Ty.a M x10 ((lsK K aI).filter fun s => !an who inc s)
 h18 : LV sv Ty.a M x18 (lsK K [])
 h19 : LV sv Ty.a M x19 (lsK K fc)
theorem ur (hK : K.Nodup) (hKo : ∀ x ∈ K, okZ x) (hQ : ∀ M, Q (tv true) M) {M : Store} {es : FEs} {n m : Nat} (hnm : n ≤ m + 1) (hm : m ≤ 40) (h : ZI M bf r bs who inc true [] K x10 x18 x19 es) (hg : Gone K who inc (af es)) :
    bA (pB bf) x10 (iv (m : Int)) x18 x19 (pB bs) (iv (n : Int)) M Q := by
 obtain ⟨e1, e2, e3⟩ := hg.lists hK
 obtain ⟨last, hw⟩ := h.w
 have hlen : ∀ k ∈ af es, k.length ≤ 1000 := fun k hk => by have := (hKo k (h.k k hk)).2; omega
 have hle : ∀ d, (lsK (af es) d).length ≤ 40 := fun d => by
  have h1 := (aG (af es)).length_eq
  have h2 := List.length_filter_le (inD d) (bS (af es))
  have h3 := h.n
  unfold lsK
  simp [af] at h1 h2 ⊢
  omega
 apply ja
 unfold eT
 refine (dm hw hlen (by have := h.n; omega) (d := aI) (by decide)).mono fun v1 M1 ⟨u1, h1⟩ => ?_
 refine ko h1.lv (Sl.up h.h10 u1) (by have := hle aI; omega) ?_
 rw [decide_eq_true e1, dl]
 refine (dm (hw.up u1) hlen (by have := h.n; omega) (d := []) (by decide)).mono fun v2 M2 ⟨u2, h2⟩ => ?_
 have u12 := u1.trans u2
 refine ko h2.lv (Sl.up h.h18 u12) (by have := hle []; omega) ?_
 rw [decide_eq_true e2, dl]
 refine (dm (hw.up u12) hlen (by have := h.n; omega) (d := fc) (by decide)).mono fun v3 M3 ⟨u3, h3⟩ => ?_
 have u13 := u12.trans u3
 refine ko h3.lv (Sl.up h.h19 u13) (by have := hle fc; omega) ?_
 rw [decide_eq_true e3, dl, aP _ (by omega), lr, ag, if_pos hnm]
 obtain ⟨vl, o, hv⟩ := h.p
 refine (np (hw.up u13) h.b3 (l := []) ⟨vl, Ob.up o u13, Sl.up hv u13⟩ (fun s hs => by cases hs) (by have := h.n; omega)).mono fun v4 M4 ⟨e4, _⟩ => ?_
 subst e4
 rw [decide_eq_false (by simp), bE, Bool.not_false, dl]
 exact pM ⟨rfl, hQ _⟩
theorem Gone.nil (hK : K.Nodup) (h : am K who inc = []) : Gone K who inc K := ⟨hK, fun x => by rw [h]; simp⟩
theorem uY (hK : K.Nodup) (hKo : ∀ x ∈ K, okZ x) (hKl : K.length ≤ 30) (hQ : ∀ M, Q (tv true) M) :
    ∀ (q j : Nat) (es : FEs) (M : Store), q + j = (am K who inc).length → (af es).Nodup → (∀ x, x ∈ af es ↔ x ∈ K ∧ x ∉ (am K who inc).take j) → 0 < q →
     ZI M bf r bs who inc true ((am K who inc).drop j) K x10 x18 x19 es →
     aO (pB bf) x10 (iv ((am K who inc).length : Int)) x18 x19 (pB bs) (iv ((lsK (af es) aI).length : Int)) (iv ((j + 1 : Nat) : Int)) M Q := by
 have hml : (am K who inc).length ≤ 30 := by
  have h1 := (aG K).length_eq
  have h2 := List.length_filter_le (inD aI) (bS K)
  have h3 := List.length_filter_le (an who inc) (lsK K aI)
  unfold am
  unfold lsK at h3 ⊢
  omega
 have hmn : (am K who inc).Nodup := (sD hK aI).filter _
 have hmK : ∀ x ∈ am K who inc, x ∈ K := fun x hx => (ls.1 (List.mem_filter.1 hx).1).1
 intro q
 induction q with
 | zero => intro j es M _ _ _ h; omega
 | succ q ih =>
  intro j es M hj hnd hm _ h
  have hjl : j < (am K who inc).length := by omega
  obtain ⟨last, hw⟩ := h.w
  have hd : (am K who inc).drop j = (am K who inc)[j] :: (am K who inc).drop (j + 1) := List.drop_eq_getElem_cons hjl
  have hnot : (am K who inc)[j] ∉ (am K who inc).take j := by
   intro hx
   rw [List.mem_take_iff_getElem] at hx
   obtain ⟨i, hi, e⟩ := hx
   have := (List.getElem_inj (xs := am K who inc) (h₀ := by omega) (h₁ := hjl) hmn).1 e
   omega
  apply eY
  unfold dc
  rw [lu 100 100 rfl, ag, if_pos (by omega)]
  refine (np hw h.b3 h.p (fun s hs => ?_) (by have := h.n; omega)).mono fun v M1 ⟨ev, kz, hp, es', hw', hk⟩ => ?_
  ·obtain ⟨i, hi, rfl⟩ := List.getElem_of_mem hs
   rw [List.getElem_drop]
   have hil : j + i < (am K who inc).length := by rw [List.length_drop] at hi; omega
   have hmem : (am K who inc)[j + i] ∈ am K who inc := List.getElem_mem hil
   have hnt : (am K who inc)[j + i] ∉ (am K who inc).take j := by
    intro hx
    rw [List.mem_take_iff_getElem] at hx
    obtain ⟨i', hi', e⟩ := hx
    have := (List.getElem_inj (xs := am K who inc) (h₀ := by omega) (h₁ := hil) hmn).1 e
    omega
   have hO := hKo _ (hmK _ hmem)
   exact ⟨(hm _).2 ⟨hmK _ hmem, hnt⟩, hO.1, by have := hO.2; omega⟩
  ·subst ev
   rw [hd] at hk hp
   have hk : af es' = (af es).erase (am K who inc)[j] := hk
   have hp : SP M1 bs who inc true ((am K who inc).drop (j + 1)) := hp
   have hnd' : (af es').Nodup := hw'.nd
   have hm' : ∀ x, x ∈ af es' ↔ x ∈ K ∧ x ∉ (am K who inc).take (j + 1) := fun x => by
    rw [hk, hnd.mem_erase_iff, hm, List.take_succ_eq_append_getElem hjl, List.mem_append, List.mem_singleton]
    constructor
    ·rintro ⟨h1, h2, h3⟩
     exact ⟨h2, fun h4 => by rcases h4 with h4 | h4; exact h3 h4; exact h1 h4⟩
    ·rintro ⟨h1, h2⟩
     exact ⟨fun h4 => h2 (.inr h4), h1, fun h4 => h2 (.inl h4)⟩
   have hel : es'.length ≤ 40 := by
    have h1 : (af es').length ≤ (af es).length := by rw [hk]; exact List.length_erase_le
    have h2 := h.n
    simp [af] at h1
    omega
   have hI : ZI M1 bf r bs who inc true ((am K who inc).drop (j + 1)) K x10 x18 x19 es' :=
    ⟨kz.t h.t, ⟨_, hw'⟩, h.b3, hp, fun x hx => ((hm' x).1 hx).1, hel, kz.s _ _ h.h10, kz.s _ _ h.h18, kz.s _ _ h.h19⟩
   rw [ag, hd]
   have hll : ((am K who inc)[j] :: (am K who inc).drop (j + 1)).length = q + 1 := by rw [List.length_cons, List.length_drop]; omega
   rw [hll]
   split
   ·rename_i hq
    apply eZ
    unfold dd
    refine (dm hw' (fun k hk' => by have := (hKo k (hI.k k hk')).2; omega) (by omega) (d := aI) (by decide)).mono fun v2 M2 ⟨u2, h2⟩ => ?_
    obtain ⟨l1, l2⟩ := oe hnd (am K who inc)[j] aI
    rw [← hk] at l1 l2
    rw [LV.len h2.lv, ae]
    show OP (ab .sub (.int .i64 ((lsK (af es) aI).length : Int)) (.int .i64 1)) _
    have hbig : (lsK (af es) aI).length ≤ 40 := by
     have h1 := (aG (af es)).length_eq
     have h2 := List.length_filter_le (inD aI) (bS (af es))
     have h3 := h.n
     unfold lsK
     simp [af] at h1 h2 ⊢
     omega
    rw [lf, w64 (by omega) (by omega)]
    show OP (ab .lss (.int .i64 ((lsK (af es') aI).length : Int)) (.int .i64 _)) _
    rw [fB, ag, if_neg (by omega), lm, ag, if_neg (by omega), aP _ (by omega)]
    obtain ⟨vl, o, hv⟩ := hI.p
    exact ih (j + 1) es' M2 (by omega) hnd' hm' (by omega) ⟨hI.t.up u2, ⟨_, hw'.up u2⟩, hI.b3, ⟨vl, Ob.up o u2, Sl.up hv u2⟩, hI.k, hI.n, Sl.up hI.h10 u2, Sl.up hI.h18 u2, Sl.up hI.h19 u2⟩
   ·rename_i hq
    have hq0 : q = 0 := by omega
    have hdn : (am K who inc).drop (j + 1) = [] := List.drop_eq_nil_of_le (by omega)
    rw [hdn] at hI
    refine ur hK hKo hQ (by omega) (by omega) hI ⟨hnd', fun x => ?_⟩
    rw [hm', List.take_of_length_le (by omega)]
theorem uM (hK : K.Nodup) (hKo : ∀ x ∈ K, okZ x) (hKl : K.length ≤ 30) (hQ : ∀ M, Q (tv true) M) {es : FEs} {M : Store} (hk : af es = K) (h : ZI M bf r bs who inc false [] K x10 x18 x19 es) (o : Ob M bs (swc who inc false (.slice none 0 0)) Ty.b) :
    aO (pB bf) x10 (iv ((am K who inc).length : Int)) x18 x19 (pB bs) (iv ((lsK K aI).length : Int)) (iv ((0 : Nat) : Int)) M Q := by
 obtain ⟨last, hw⟩ := h.w
 have hlen : ∀ k ∈ af es, k.length ≤ 1000 := fun k hk' => by have := (hKo k (h.k k hk')).2; omega
 apply eY
 unfold dc
 rw [lu 100 100 rfl, ag, if_pos (by omega)]
 refine (rh h.t hw h.b3 o hlen (by have := h.n; omega)).mono fun v M1 ⟨ev, hw', hp, kz⟩ => ?_
 subst ev
 rw [hk] at hp ⊢
 have hI : ZI M1 bf r bs who inc true (am K who inc) K x10 x18 x19 es := ⟨kz.t h.t, ⟨_, hw'⟩, h.b3, hp, h.k, h.n, kz.s _ _ h.h10, kz.s _ _ h.h18, kz.s _ _ h.h19⟩
 have hml : (am K who inc).length ≤ (lsK K aI).length := List.length_filter_le _ _
 have hbig : (lsK K aI).length ≤ 30 := by
  have h1 := (aG K).length_eq
  have h2 := List.length_filter_le (inD aI) (bS K)
  unfold lsK
  omega
 rw [ag]
 split
 ·rename_i hpos
  apply eZ
  unfold dd
  refine (dm hw' hlen (by have := h.n; omega) (d := aI) (by decide)).mono fun v2 M2 ⟨u2, h2⟩ => ?_
  rw [hk] at h2
  rw [LV.len h2.lv, ae]
  show OP (ab .sub (.int .i64 ((lsK K aI).length : Int)) (.int .i64 1)) _
  rw [lf, w64 (by omega) (by omega)]
  show OP (ab .lss (.int .i64 ((lsK K aI).length : Int)) (.int .i64 _)) _
  rw [fB, ag, if_neg (by omega), lm, ag, if_neg (by omega), aP _ (by omega)]
  obtain ⟨vl, o', hv⟩ := hI.p
  have := uY (bf := bf) (r := r) (bs := bs) (who := who) (inc := inc) (x10 := x10) (x18 := x18) (x19 := x19) hK hKo hKl hQ (am K who inc).length 0 es M2 rfl hw'.nd (fun x => by rw [hk]; simp) hpos ⟨hI.t.up u2, ⟨_, hw'.up u2⟩, hI.b3, ⟨vl, Ob.up o' u2, by rw [List.drop_zero]; exact Sl.up hv u2⟩, hI.k, hI.n, Sl.up hI.h10 u2, Sl.up hI.h18 u2, Sl.up hI.h19 u2⟩
  rw [hk] at this
  exact this
 ·rename_i hpos
  have hnil : am K who inc = [] := List.length_eq_zero_iff.1 (by omega)
  rw [hnil] at hI
  have := ur (n := 0) (m := (am K who inc).length) hK hKo hQ (by omega) (by omega) hI (by rw [hk]; exact Gone.nil hK hnil)
  exact this
end
end Go.G
