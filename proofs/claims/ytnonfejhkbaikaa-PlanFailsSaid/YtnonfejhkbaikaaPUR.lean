/- ... -/
import Derived.Test.YtnonfejhkbaikaaPUE
namespace Go.G
open Go.Ab Go.Proofs Go.RowKit
set_option linter.unusedVariables false
set_option linter.unusedSimpArgs false
set_option maxRecDepth 100000
def ja (A : Int → List Int) : Nat → Nat → List Int → Option (List Int)
 | n, i, all => if h : i < all.length then (match n with
  | 0 => none
  | n + 1 => ja A n (i + 1) (co all (A all[i]))) else some all
theorem pX {α : Type} [DecidableEq α] : ∀ (xs acc : List α), ∃ r, co acc xs = acc ++ r
 | [], acc => ⟨[], by simp [co]⟩
 | x :: xs, acc => by
  rw [co]
  obtain ⟨r, hr⟩ := pX xs (if x ∈ acc then acc else acc ++ [x])
  rw [hr]
  split
  ·exact ⟨r, rfl⟩
  ·exact ⟨x :: r, by simp⟩
theorem pq {A : Int → List Int} : ∀ {n i : Nat} {all L : List Int}, ja A n i all = some L → ∃ r, L = all ++ r := by
 intro n
 induction n with
 | zero =>
  intro i all L h
  unfold ja at h
  split at h
  ·cases h
  ·injection h with h; exact ⟨[], by simp [h]⟩
 | succ n ih =>
  intro i all L h
  unfold ja at h
  split at h
  ·obtain ⟨r, hr⟩ := ih h
   obtain ⟨q, hq⟩ := pX (A (all[i])) all
   exact ⟨q ++ r, by rw [hr, hq, List.append_assoc]⟩
  ·injection h with h; exact ⟨[], by simp [h]⟩
theorem kX {M : Store} {v : Value} {l : List Int} (h : LV iv Ty.b M v l) (hl : l.length ≤ 2 ^ 24) : R F.B #[v] M fun v' M' => Up M M' ∧ NV iv Ty.b M M' v' l := by
 apply EE
 obtain ⟨a, c, rfl⟩ := h.slice
 unfold xU
 rw [FT U.a]
 cases a with
 | none =>
  obtain ⟨h1, a, c', h2, h3, h4⟩ := h
  injection h2 with h2 h5 h6
  subst h2; subst h6
  have : l.length = 0 := by
   rcases Nat.eq_zero_or_pos l.length with h | h
   ·exact h
   ·obtain ⟨b, o, cells, e', own, h7, _⟩ := h4 h; cases h7
  have hl : l = [] := List.length_eq_zero_iff.1 this
  subst hl
  simp only [Option.isNone_none, ev]
  exact ⟨rfl, Ch.refl _ _, Nw.nil _ _ _ _⟩
 | some a =>
  rw [Option.isNone_some, au, if_neg (by decide), E3, aY]
  have hup := Up.push M (some (.inl (([] : List Value), Ty.b, true)))
  have hn : NV iv Ty.b M (M.push (some (.inl (([] : List Value), Ty.b, true)))) (.slice (some ⟨M.n, 0, none⟩) 0 0) ([] : List Int) := Nw.lit (n := 0) (cs := []) (Nat.le_refl _) (by simp)
  refine NV.apps hup (Nat.le_refl _) hup.n hn (h.up hup) (by simp; omega) fun v' M' hu' hN' _ _ => ?_
  rw [List.nil_append] at hN'
  exact ⟨eI hN'.sl, hu', hN'⟩
def jd (l : List Int) (k : Int) : Option Value := if k ∈ l then some (iv 1) else none
theorem uO (l : List Int) (k : Int) : (fun q => if q = k then some (iv 1) else jd l q) = jd (l ++ [k]) := by
 funext q
 unfold jd
 by_cases h : q = k <;> simp [h]
theorem Fi (l : List Int) (k : Int) : (jd l k).isSome = decide (k ∈ l) := by
 unfold jd; by_cases h : k ∈ l <;> simp [h]
theorem AR : jd [] = fun _ => none := by funext k; simp [jd]
section
variable {base : Nat} {W : Store → Prop} {I : Nat → List Nat → Store → Prop} {Z : Nat → Store → Prop} {y g w : Value} {b2 b3 b5 : Nat} {fr L : List Int} {A : Int → List Int} {Mb : Store} {Q : Value → Store → Prop}
theorem LV.box {α : Type} {En : α → Value} {e : TypeId} {M : Store} {v : Value} {xs : List α} (h : LV En e M v xs) (hn : xs ≠ []) {q : Nat} (hq : bx v = some q) : q < M.n := by
 obtain ⟨h1, a, c, rfl, h3, h4⟩ := h
 obtain ⟨b, o, cells, e', own, rfl, h6, _⟩ := h4 (by cases xs with
  | nil => exact absurd rfl hn
  | cons => simp)
 simp only [bx, Option.some.injEq] at hq
 subst hq; exact M.lt_of_get h6
end
end Go.G

namespace Go.G
open Go.Ab Go.Proofs Go.RowKit
set_option linter.unusedVariables false
set_option linter.unusedSimpArgs false
set_option maxRecDepth 100000
structure RSq (B0 : List Nat) (base : Nat) (W : Store → Prop) (I : Nat → List Nat → Store → Prop) (Z : Nat → Store → Prop) (y g : Value) (b2 b3 : Nat) (w : Value) (fr : List Int) (A : Int → List Int) (L : List Int) : Prop where
 w2 : ∀ M, W M → Ob M b2 [w] Ty.i
 wf : ∀ M, W M → LV iv Ty.b M w fr
 w3 : ∀ M, W M → Ob M b3 [g] Ty.l
 wA : ∀ M, W M → ∀ x ∈ L, KC g [iv x] M fun v M' => Up M M' ∧ LV iv Ty.b M' v (A x) ∧ (A x ≠ [] → ∀ q, bx v = some q → q < base ∨ M.n ≤ q)
 wl : ∀ x ∈ L, (A x).length ≤ 2 ^ 20
 ws : ∀ M M' T, W M → Ch T M M' → (∀ b ∈ T, base ≤ b ∨ b ∈ B0) → W M'
 ib : ∀ i S M, I i S M → ∀ b ∈ S, (base ≤ b ∨ b ∈ B0) ∧ b < M.n
 is : ∀ i S M M' T, I i S M → Ch T M M' → (∀ b ∈ T, b ∉ S) → I i S M'
 iy : ∀ i S M (h : i < L.length), I i S M → W M → KC y [iv L[i]] M fun v M' => ∃ S', Ch S M M' ∧ (∀ b ∈ S', b ∈ S ∨ M.n ≤ b) ∧ ((v = tv true ∧ I (i + 1) S' M') ∨ (v = tv false ∧ Z i M'))
 ll : L.length ≤ 2 ^ 20
section
variable {B0 : List Nat} {base : Nat} {W : Store → Prop} {I : Nat → List Nat → Store → Prop} {Z : Nat → Store → Prop} {y g w : Value} {b2 b3 b5 : Nat} {fr L : List Int} {A : Int → List Int} {Mb : Store} {Q : Value → Store → Prop}
structure RTq (base : Nat) (W : Store → Prop) (I : Nat → List Nat → Store → Prop) (Mb : Store) (b5 i : Nat) (S : List Nat) (x4 : Value) (all : List Int) (M : Store) : Prop where
 wm : W M
 im : I i S M
 nv : NV iv Ty.b Mb M x4 all
 mp : Mp iv M b5 (jd all)
 bn : base ≤ Mb.n
 b5b : base ≤ b5
 up : Mb.n ≤ M.n
 d5 : b5 ∉ S
 dx : ∀ c, bx x4 = some c → c ∉ S ∧ c < M.n
theorem DR (c : RSq B0 base W I Z y g b2 b3 w fr A L) {i : Nat} {n : Nat} {all0 ys : List Int} (hyl : ys.length ≤ 2 ^ 20) {x43 : Value} (hal : all0.length ≤ 2 ^ 20) (hlen : (co all0 ys).length ≤ 2 ^ 21)
    (hQ : ∀ S x4 M, RTq base W I Mb b5 (i + 1) S x4 (co all0 ys) M → cG y ((.pointer (some ⟨b3, 0, none⟩))) x4 (.map (some b5)) (iv i) M Q) :
    ∀ (d k : Nat) (S : List Nat) (x4 : Value) (all : List Int) (M : Store), d + k = ys.length → RTq base W I Mb b5 (i + 1) S x4 all M → LV iv Ty.b M x43 ys → (ys ≠ [] → ∀ q, bx x43 = some q → bx x4 ≠ some q ∧ q ≠ b5 ∧ q < M.n) → co all (ys.drop k) = co all0 ys →
     aO y ((.pointer (some ⟨b3, 0, none⟩))) x4 (.map (some b5)) (iv i) x43 (iv ys.length) (iv k) M Q := by
 intro d
 induction d with
 | zero =>
  intro k S x4 all M hk t hy _ ha
  apply gR
  unfold ee
  rw [aQ, ae, if_neg (by omega)]
  rw [List.drop_of_length_le (by omega), co] at ha
  subst ha
  exact hQ S x4 M t
 | succ d ih =>
  intro k S x4 all M hk t hy hyb ha
  apply gR
  unfold ee
  rw [aQ, ae, if_pos (by omega)]
  apply ov
  unfold gO
  obtain ⟨p, h1, h2⟩ := hy.at (i := k) (by omega) .i64
  rw [List.drop_eq_getElem_cons (by omega), co] at ha
  have hyb := hyb (fun h => by rw [h] at hk; simp at hk)
  generalize ys[k]'(by omega) = z at *
  rw [h1, ab, h2, ab, t.mp.look dD, ab, D5, ab, D6, ab, Fi, aM, au]
  have hal2 : all.length ≤ 2 ^ 21 := by
   obtain ⟨r, hr⟩ := pX (ys.drop (k + 1)) (if z ∈ all then all else all ++ [z])
   rw [hr] at ha
   have := congrArg List.length ha
   rw [List.length_append] at this
   split at this <;> (try simp at this) <;> omega
  split
  ·rename_i hz
   have hz : z ∉ all := by simpa using hz
   rw [if_neg hz] at ha
   obtain ⟨M1, e1, hm1, hc1, hk1⟩ := t.mp.put dD z (sN 1)
   rw [e1, ab, wy, ab, aY]
   have hn1 := hc1.n
   have hN1 := Nw.keepI t.nv hk1
   have hbn := t.bn
   have hup := t.up
   refine NV.app1 (Up.zero M1) (Nat.zero_le _) (by omega) hN1 z rfl (by omega) fun v' M' hu' hN' hc' hb' => ?_
   obtain ⟨b', hb1, hb2, hb3⟩ := hb'
   rw [eB, w64 (by omega) (by omega)]
   have hT : Ch ([b5] ++ kl x4) M M' := hc1.trans2 hc'
   have hTm : ∀ q ∈ [b5] ++ kl x4, q = b5 ∨ bx x4 = some q := by
    intro q hq
    rcases List.mem_append.1 hq with hq | hq
    ·exact .inl (by simpa using hq)
    ·exact .inr (sA (mo.1 hq))
   have hkb : ∀ q ∈ [b5] ++ kl x4, base ≤ q ∨ q ∈ B0 := by
    intro q hq
    left
    rcases List.mem_append.1 hq with hq | hq
    ·have := t.b5b; simp at hq; omega
    ·have := (Nw.bx_in t.nv (mo.1 hq)).1; omega
   refine ih (k + 1) S v' (all ++ [z]) M' (by omega) ⟨c.ws _ _ _ t.wm hT hkb, c.is _ _ _ _ _ t.im hT fun q hq => ?_, hN', ?_, t.bn, t.b5b, by have := hc'.n; omega, t.d5, fun q hq => ?_⟩ ?_ ?_ ha
   ·rcases hTm q hq with h | h
    ·subst h; exact t.d5
    ·exact (t.dx q h).1
   ·rw [← uO]; exact hm1.app hN1 hc'
   ·rw [hb1] at hq; injection hq with hq
    refine ⟨fun hm => ?_, by omega⟩
    have := (c.ib _ _ _ t.im q hm).2
    omega
   ·refine hy.fr hT fun q hq hm => ?_
    obtain ⟨g1, g2, _⟩ := hyb q hq
    rcases hTm q hm with h | h
    ·exact g2 h
    ·exact g1 h
   ·intro _ q hq
    obtain ⟨g1, g2, g3⟩ := hyb q hq
    refine ⟨fun h => ?_, g2, by have := hT.n; omega⟩
    rw [hb1] at h; injection h with h; omega
  ·rename_i hz
   have hz : z ∈ all := by simpa using hz
   rw [if_pos hz] at ha
   rw [eB, w64 (by omega) (by omega)]
   exact ih (k + 1) S x4 all M (by omega) t hy (fun _ => hyb) ha
theorem RTq.step {i : Nat} {S : List Nat} {x4 : Value} {all : List Int} {M M' : Store} (c : RSq B0 base W I Z y g b2 b3 w fr A L) (t : RTq base W I Mb b5 i S x4 all M) (h : Up M M') : RTq base W I Mb b5 i S x4 all M' :=
 ⟨c.ws _ _ _ t.wm h (fun _ hb => by cases hb), c.is _ _ _ _ _ t.im h (fun _ hb => by cases hb), Nw.up t.nv h, t.mp.up h, t.bn, t.b5b, Nat.le_trans t.up h.n, t.d5, fun q hq => ⟨(t.dx q hq).1, Nat.lt_of_lt_of_le (t.dx q hq).2 h.n⟩⟩
theorem DQ (c : RSq B0 base W I Z y g b2 b3 w fr A L) (hfin : ∀ S M, I L.length S M → W M → Q (.tuple #[]) M) (hZ : ∀ i M, Z i M → W M → Q (.tuple #[]) M) :
    ∀ (n i : Nat) (S : List Nat) (x4 : Value) (all : List Int) (M : Store), ja A n i all = some L → i ≤ all.length → RTq base W I Mb b5 i S x4 all M →
     a9 y (.pointer (some ⟨b3, 0, none⟩)) x4 (.map (some b5)) (iv i) M Q := by
 intro n
 have hll := c.ll
 induction n with
 | zero =>
  intro i S x4 all M hb hi t
  obtain ⟨r, hr⟩ := pq hb
  unfold ja at hb
  split at hb
  ·cases hb
  ·rename_i hlt
   injection hb with hb; subst hb
   apply eg
   unfold cM
   rw [t.nv.lv.len, ab, aQ, ae, if_neg (by omega)]
   have : i = all.length := by omega
   subst this
   exact ⟨rfl, hfin S M t.im t.wm⟩
 | succ n ih =>
  intro i S x4 all M hb hi t
  obtain ⟨r, hr⟩ := pq hb
  unfold ja at hb
  split at hb
  ·rename_i hlt
   apply eg
   unfold cM
   rw [t.nv.lv.len, ab, aQ, ae, if_pos (by omega)]
   apply ou
   unfold gN
   have hiL : i < L.length := by rw [hr]; simp; omega
   have hel : L[i] = all[i] := by simp only [hr]; rw [List.getElem_append_left hlt]
   obtain ⟨p, h1, h2⟩ := t.nv.lv.at hlt .i64
   rw [h1, ab, h2, ab]
   have hy := c.iy i S M hiL t.im t.wm
   rw [hel] at hy
   refine fU hy fun v M1 ⟨S', hc1, hs1, hv⟩ => ?_
   have hib := c.ib _ _ _ t.im
   have hW1 := c.ws _ _ _ t.wm hc1 fun b hb => (hib b hb).1
   rcases hv with ⟨rfl, hI1⟩ | ⟨rfl, hz⟩
   ·rw [aM, au, if_neg (by decide), (c.w3 M1 hW1).ld (v := g) rfl, ab]
    have hN1 : NV iv Ty.b Mb M1 x4 all := t.nv.fr hc1 fun q hq => (t.dx q hq).1
    have t1 : RTq base W I Mb b5 (i + 1) S' x4 all M1 :=
     ⟨hW1, hI1, hN1, t.mp.fr hc1 t.d5, t.bn, t.b5b, Nat.le_trans t.up hc1.n, fun hm => by
      rcases hs1 _ hm with h | h
      ·exact t.d5 h
      ·have := t.mp.lt; omega, fun q hq => ⟨fun hm => by
       rcases hs1 _ hm with h | h
       ·exact (t.dx q hq).1 h
       ·have := (t.dx q hq).2; omega, Nat.lt_of_lt_of_le (t.dx q hq).2 hc1.n⟩⟩
    obtain ⟨p', g1, g2⟩ := hN1.lv.at hlt .i64
    rw [h1] at g1; injection g1 with g1; subst g1
    rw [ab, g2, ab]
    have hmem : all[i] ∈ L := by rw [← hel]; exact List.getElem_mem hiL
    refine fU (c.wA M1 hW1 _ hmem) fun t43 M2 ⟨hu2, hys, hyb⟩ => ?_
    refine ⟨hu2.tdx _ _ _, ?_⟩
    rw [hys.len, ab]
    have t2 := t1.step c hu2
    obtain ⟨r2, hr2⟩ := pq hb
    have hlen2 : (co all (A all[i])).length ≤ L.length := by
     have := congrArg List.length hr2; rw [List.length_append] at this; omega
    have hall : all.length ≤ L.length := by
     have := congrArg List.length hr; rw [List.length_append] at this; omega
    refine DR c (i := i) (n := n) (all0 := all) (c.wl _ hmem) (by omega) (by omega) (fun S3 x43 M3 t3 => ?_) (A all[i]).length 0 S' x4 all M2 rfl t2 hys (fun hne q hq => ?_) rfl
    ·apply ow
     unfold gP
     rw [eB, w64 (by omega) (by omega)]
     refine ih (i + 1) S3 x43 _ M3 hb ?_ t3
     obtain ⟨r3, hr3⟩ := pX (A all[i]) all
     rw [hr3]; simp; omega
    ·have hq1 := hyb hne q hq
     have hq2 := LV.box hys hne hq
     refine ⟨fun h => ?_, fun h => ?_, hq2⟩
     ·have h3 := (t1.dx q h).2
      have h4 : Mb.n ≤ q := by
       obtain ⟨_, ⟨h5, a, rfl, _⟩ | ⟨b', cells, cc, rfl, h6, _⟩⟩ := hN1
       ·omega
       ·simp only [bx, Option.some.injEq] at h; omega
      have h5 := t.bn
      omega
     ·have h3 := t1.mp.lt
      have h4 := t.b5b
      omega
   ·rw [aM, au, if_pos (by decide)]
    exact ⟨rfl, hZ i M1 hz hW1⟩
  ·rename_i hlt
   injection hb with hb; subst hb
   apply eg
   unfold cM
   rw [t.nv.lv.len, ab, aQ, ae, if_neg (by omega)]
   have : i = all.length := by omega
   subst this
   exact ⟨rfl, hfin S M t.im t.wm⟩
theorem AU (c : RSq B0 base W I Z y g b2 b3 w fr A L) {x4 : Value} {S : List Nat} {l : List Int} (hl : l.length ≤ 2 ^ 20) (hQ : ∀ M, RTq base W I Mb b5 0 S x4 l M → cF y (.pointer (some ⟨b3, 0, none⟩)) x4 (.map (some b5)) M Q) :
    ∀ (d i : Nat) (M : Store), d + i = l.length → W M → I 0 S M → NV iv Ty.b Mb M x4 l → Mp iv M b5 (jd (l.take i)) → base ≤ Mb.n → base ≤ b5 → Mb.n ≤ M.n → b5 ∉ S → (∀ q, bx x4 = some q → q ∉ S ∧ q < M.n) →
     a8 y (.pointer (some ⟨b3, 0, none⟩)) x4 (.map (some b5)) x4 (iv l.length) (iv i) M Q := by
 intro d
 induction d with
 | zero =>
  intro i M hi hW hI hN hm h1 h2 h3 h4 h5
  apply gQ
  unfold ea
  rw [aQ, ae, if_neg (by omega)]
  rw [List.take_of_length_le (by omega)] at hm
  exact hQ M ⟨hW, hI, hN, hm, h1, h2, h3, h4, h5⟩
 | succ d ih =>
  intro i M hi hW hI hN hm h1 h2 h3 h4 h5
  apply gQ
  unfold ea
  obtain ⟨p, g1, g2⟩ := hN.lv.at (i := i) (by omega) .i64
  rw [aQ, ae, if_pos (by omega), g1, ab, g2, ab]
  obtain ⟨M1, e1, hm1, hc1, hk1⟩ := hm.put dD (l[i]'(by omega)) (sN 1)
  rw [e1, ab, eB, w64 (by omega) (by omega)]
  have hn := hc1.n
  refine ih (i + 1) M1 (by omega) (c.ws _ _ _ hW hc1 (fun q hq => .inl (List.mem_singleton.1 hq ▸ h2))) (c.is _ _ _ _ _ hI hc1 (by simpa using h4)) (Nw.keepI hN hk1) ?_ h1 h2 (by omega) h4 (fun q hq => ⟨(h5 q hq).1, by have := (h5 q hq).2; omega⟩)
  rw [List.take_succ_eq_append_getElem (by omega), ← uO]
  exact hm1
theorem zj (c : RSq B0 base W I Z y g b2 b3 w fr A L) (hfl : fr.length ≤ 2 ^ 20) {n : Nat} (hb : ja A n 0 (unl fr) = some L) {S : List Nat} {M : Store} (hW : W M) (hI : I 0 S M) (hbm : base ≤ M.n)
    (hfin : ∀ S M, I L.length S M → W M → Q (.tuple #[]) M) (hZ : ∀ i M, Z i M → W M → Q (.tuple #[]) M) :
    R F.b #[y, .pointer (some ⟨b2, 0, none⟩), .pointer (some ⟨b3, 0, none⟩)] M Q := by
 apply qy
 unfold iR
 rw [(c.w2 M hW).ld (v := w) rfl, ab]
 refine (oT (c.wf M hW) (by omega)).mono fun t14 M1 ⟨hu1, h1, hbx⟩ => ?_
 rw [aY, h1.lv.len, ab]
 have hul := wP fr
 have hup := Up.push M1 (some (.inr (.inl [])))
 have hu2 : Up M (M1.push (some (.inr (.inl [])))) := Ch.up hu1 hup
 have hIb := c.ib _ _ _ hI
 have hn1 := hu1.n
 refine AU (Mb := M) (b5 := M1.n) c (x4 := t14) (S := S) (l := unl fr) (by omega) (fun M2 t => ?_) (unl fr).length 0 _ rfl (c.ws _ _ _ hW hu2 (fun _ hb => by cases hb)) (c.is _ _ _ _ _ hI hu2 (fun _ hb => by cases hb)) (Nw.up h1 hup) ?_ hbm (by omega) hu2.n (fun hm => by have := (hIb _ hm).2; omega) fun q hq => ?_
 ·apply ot
  exact DQ c hfin hZ n 0 S t14 (unl fr) M2 hb (Nat.zero_le _) t
 ·rw [List.take_zero, AR]; exact Mp.new M1
 ·have hq2 := hbx q hq
  exact ⟨fun hm => by have := (hIb _ hm).2; omega, by simp; omega⟩
end
end Go.G
