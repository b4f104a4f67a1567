/- Layer 18: plans of all rules, by the program: states, what is ready. -/
import Derived.Test.YtnonfejhkbaikaaPGQ
import Derived.Test.YtnonfejhkbaikaaPM8g
namespace Go.G
open Go.Ab Go.Proofs Go.RowKit
set_option linter.unusedVariables false
set_option linter.unusedSimpArgs false
set_option maxRecDepth 100000
def PV (M : Store) (v : Value) (n : Nat) (S : List Int) : Prop := ∃ vA vS, v = .agg (mcs vA vS).toArray ∧ LV iv Ty.b M vA (aj (List.range n)) ∧ LV iv Ty.b M vS S ∧ S.length = n
theorem PV.up {M M' : Store} {v : Value} {n : Nat} {S : List Int} (h : PV M v n S) (k : Up M M') : PV M' v n S := by
 obtain ⟨vA, vS, e, h1, h2, h3⟩ := h
 exact ⟨vA, vS, e, Sl.up h1 k, Sl.up h2 k, h3⟩
theorem oO {M : Store} {vA vS : Value} {xs ys : List Int} (h1 : LV iv Ty.b M vA xs) (h2 : LV iv Ty.b M vS ys) : aX (.agg (mcs vA vS).toArray) = some (mcs vA vS) := by
 obtain ⟨a, c, rfl⟩ := Sl.slice h1
 obtain ⟨a', c', rfl⟩ := Sl.slice h2
 kernel_rfl
abbrev Pb (M : Store) (b : Nat) (vA vS : Value) : Prop := Ob M b (mcs vA vS) Ty.n
theorem pM {M : Store} {b : Nat} {vA vS : Value} (o : Pb M b vA vS) (K : Value → Prop) : (OP (fad 0 (pt b)) fun t => OP (ld 1 false t M) K) = K vA := by
 rw [aS, show ld 1 false (.pointer (some ⟨b, 0, none⟩)) M = some vA from Ob.ld (o := 0) o rfl, ab]
theorem pN {M : Store} {b : Nat} {vA vS : Value} (o : Pb M b vA vS) (K : Value → Prop) : (OP (fad 1 (pt b)) fun t => OP (ld 1 false t M) K) = K vS := by
 rw [aS, show ld 1 false (.pointer (some ⟨b, 1, none⟩)) M = some vS from Ob.ld (o := 1) o rfl, ab]
def stF (S : List Int) (k : Nat) : Int := S.getD k 0
theorem FF {S : List Int} {k : Nat} (h : k < S.length) : S[k] = stF S k := by unfold stF; rw [List.getD_eq_getElem?_getD, List.getElem?_eq_getElem h]; rfl
theorem oQ {n i : Nat} (h : i < (aj (List.range n)).length) : (aj (List.range n))[i] = (i : Int) := by simp [aj]
theorem bI (n : Nat) : (aj (List.range n)).length = n := by rw [av, List.length_range]
section
variable {M : Store} {v : Value} {xs : List Int} {z : Int} {Q : Value → Store → Prop}
theorem BK (h : LV iv Ty.b M v xs) (hl : xs.length ≤ 2 ^ 40) (hno : z ∉ xs → Q (iv (-1)) M) (hyes : ∀ i (hi : i < xs.length), xs[i] = z → z ∉ xs.take i → Q (iv (i : Int)) M) :
    ∀ (d i : Nat), d + i = xs.length → z ∉ xs.take i → eQ v (iv z) (iv (xs.length : Int)) (iv (i : Int)) M Q := by
 intro d
 induction d with
 | zero =>
  intro i hi hn
  apply tW
  unfold nM
  rw [ag, ae, if_neg (by omega)]
  apply Bv
  unfold tQ
  rw [List.take_of_length_le (by omega)] at hn
  exact ⟨rfl, hno hn⟩
 | succ d ih =>
  intro i hi hn
  have hil : i < xs.length := by omega
  apply tW
  unfold nM
  obtain ⟨p, e1, e2⟩ := h.at hil .i64
  rw [ag, ae, if_pos hil, e1, ab, e2, ab]
  show OP (ad .eql (.int .i64 z) (.int .i64 xs[i])) _
  rw [dN, ae]
  split
  ·rename_i e
   exact ⟨rfl, hyes i hil e.symm hn⟩
  ·rename_i e
   rw [ah _ (by omega)]
   refine ih (i + 1) (by omega) ?_
   rw [List.take_succ_eq_append_getElem hil, List.mem_append]
   rintro (h1 | h1)
   ·exact hn h1
   ·exact e (List.mem_singleton.1 h1)
theorem xL (h : LV iv Ty.b M v xs) (hl : xs.length ≤ 2 ^ 40) (hno : z ∉ xs → Q (iv (-1)) M) (hyes : ∀ i (hi : i < xs.length), xs[i] = z → z ∉ xs.take i → Q (iv (i : Int)) M) : R F.C #[v, iv z] M Q := by
 apply EF
 unfold xV
 rw [h.len, ab]
 exact BK h hl hno hyes xs.length 0 rfl (by simp)
end
section
variable {rs : List RuT} {S : List Int} {k : Nat} {Q : Value → Store → Prop}
theorem Eb {M : Store} {v : Value} {n : Nat} (h : LV iv Ty.b M v (aj (List.range n))) (hn : n ≤ 2 ^ 40) (hk : k < n) (hQ : Q (iv (k : Int)) M) : R F.C #[v, iv (k : Int)] M Q := by
 refine xL h (by rw [bI]; exact hn) (fun hno => absurd (gF.2 ⟨by omega, by omega⟩) hno) (fun i hi e _ => ?_)
 rw [oQ] at e
 have : i = k := by omega
 subst this; exact hQ
theorem uS {M : Store} {v : Value} {n : Nat} (h : PV M v n S) (hn : n ≤ 2 ^ 20) (hk : k < n) : R F.n #[v, iv (k : Int)] M fun r M' => Up M M' ∧ r = iv (stF S k) := by
 refine R.cps fun Q hQ => ?_
 obtain ⟨vA, vS, rfl, h1, h2, h3⟩ := h
 apply zC
 unfold qP
 rw [oO h1 h2, ab]
 refine aq fun M1 u1 o1 n1 => ?_
 have o1 : Pb M1 M.n vA vS := o1
 rw [pM o1]
 refine Eb (Sl.up h1 u1) (by omega) hk ?_
 have hkS : k < S.length := by omega
 obtain ⟨p, e1, e2⟩ := LV.at (LV.up h2 u1) hkS .i64
 rw [eD 0 0 rfl, ae, if_neg (by omega), pN o1, LV.len (LV.up h2 u1), ab, gD, ae, if_neg (by omega), pN o1, e1, ab, e2, ab, FF]
 exact ⟨rfl, hQ _ _ ⟨u1, rfl⟩⟩
theorem Gw {M : Store} {v : Value} {ds : List (List UInt8)} (h : MV M v rs ds) (hk : k < rs.length) : R F.M #[v, iv (k : Int)] M fun r M' => Up M M' ∧ LV sv Ty.a M' r rs[k].outs := by
 refine R.cps fun Q hQ => ?_
 obtain ⟨vR, vD, rfl, hR, hD⟩ := h
 apply Bf
 unfold tA
 rw [da hR hD, ab]
 refine aq fun M1 u1 o1 n1 => ?_
 have o1 : Mz M1 M.n vR vD := o1
 obtain ⟨c, hc, hf⟩ := (hR.up u1).fld hk
 rw [eD 0 0 rfl, ae, if_neg (by omega), bw o1, (hR.up u1).len, ab, gD, ae, if_neg (by omega), bw o1, hf 0 c.1 rfl]
 exact ⟨eI hc.o, hQ _ _ ⟨u1, hc.o⟩⟩
def eY (rs : List RuT) (S : List Int) (s : List UInt8) (j : Nat) : List Int := ((List.range j).filter fun i => decide (s ∈ (rs.getD i ru0).outs)).map (stF S)
theorem uJ (rs : List RuT) (S : List Int) (s : List UInt8) (j : Nat) : (eY rs S s j).length ≤ j := by
 unfold eY
 rw [List.length_map]
 have := List.length_filter_le (fun i => decide (s ∈ (rs.getD i ru0).outs)) (List.range j)
 rwa [List.length_range] at this
theorem E7 {rs : List RuT} {S : List Int} {s : List UInt8} {j : Nat} (hj : j < rs.length) : eY rs S s (j + 1) = eY rs S s j ++ (if s ∈ rs[j].outs then [stF S j] else []) := by
 unfold eY
 rw [List.range_succ, List.filter_append, List.map_append]
 congr 1
 by_cases h : s ∈ rs[j].outs
 ·rw [if_pos h, List.filter_cons_of_pos (by rw [aK hj]; exact decide_eq_true h)]; rfl
 ·rw [if_neg h, List.filter_cons_of_neg (by rw [aK hj]; simpa using h)]; rfl
section
variable {M0 : Store} {b3 b4 : Nat} {vR vD vA vS x34 : Value} {ds : List (List UInt8)} {l : List (List UInt8)}
theorem JG (o3 : Mz M0 b3 vR vD) (hR : RL M0 vR rs) (hD : LV sv Ty.a M0 vD ds) (hs : SmallRs rs) (o4 : Pb M0 b4 vA vS) (hA : LV iv Ty.b M0 vA (aj (List.range rs.length))) (hS : LV iv Ty.b M0 vS S) (hSl : S.length = rs.length) {s : List UInt8} {x36 : Value} {acc : List Int} (hal : acc.length ≤ 2 ^ 20)
    (hk : ∀ M x7, Up M0 M → NV iv Ty.b M0 M x7 (acc ++ eY rs S s rs.length) → fb (pt b3) (pt b4) x7 x34 (iv (l.length : Int)) x36 M Q) :
    ∀ (d j : Nat) (x7 : Value) (M : Store), d + j = rs.length → Up M0 M → NV iv Ty.b M0 M x7 (acc ++ eY rs S s j) → bO (pt b3) (pt b4) x7 (sv s) x34 (iv (l.length : Int)) x36 vA (iv (rs.length : Int)) (iv (j : Int)) M Q := by
 have hsl := hs.1
 intro d
 induction d with
 | zero =>
  intro j x7 M hj hu hN
  apply mW
  unfold ip
  rw [ag, ae, if_neg (by omega)]
  have : j = rs.length := by omega
  subst this
  exact hk M x7 hu hN
 | succ d ih =>
  intro j x7 M hj hu hN
  have hjl : j < rs.length := by omega
  apply mW
  unfold ip
  rw [ag, ae, if_pos hjl]
  apply vY
  unfold mP
  have hjr : j < (aj (List.range rs.length)).length := by rw [bI]; exact hjl
  obtain ⟨p, e1, e2⟩ := (LV.up hA hu).at hjr .i64
  rw [oQ] at e2
  rw [e1, ab, e2, ab, (Ob.up o3 hu).ldA (s := 2) rfl, ab]
  refine (Gw (ds := ds) ⟨vR, vD, rfl, hR.up hu, Sl.up hD hu⟩ hjl).mono fun w M1 ⟨u1, hw⟩ => ?_
  have hsj := hs.2 _ (List.getElem_mem hjl)
  refine tw hw (by omega) ?_
  have hu1 := hu.trans u1
  have hh := uJ rs S s j
  have hsc := E7 (S := S) (s := s) hjl
  rw [ae]
  split
  ·rename_i hm
   rw [if_pos hm] at hsc
   rw [(Ob.up o4 hu1).ldA (s := 2) rfl, ab]
   refine (uS (n := rs.length) ⟨vA, vS, rfl, Sl.up hA hu1, Sl.up hS hu1, hSl⟩ (by omega) hjl).mono fun q M2 ⟨u2, e⟩ => ?_
   subst e
   rw [kD, aY]
   refine NV.app1 (M0 := M0) (Mb := M0) (hu1.trans u2) (Nat.le_refl _) (hu1.trans u2).n (Nw.up (Nw.up hN u1) u2) (stF S j) rfl (by rw [List.length_append]; omega) fun x7' M' hu' hN' _ _ => ?_
   rw [ah _ (by omega)]
   refine ih (j + 1) x7' M' (by omega) hu' ?_
   rw [hsc, ← List.append_assoc]; exact hN'
  ·rename_i hm
   rw [if_neg hm, List.append_nil] at hsc
   rw [ah _ (by omega)]
   refine ih (j + 1) x7 M1 (by omega) hu1 ?_
   rw [hsc]; exact Nw.up hN u1
theorem JF (o3 : Mz M0 b3 vR vD) (hR : RL M0 vR rs) (hD : LV sv Ty.a M0 vD ds) (hs : SmallRs rs) (o4 : Pb M0 b4 vA vS) (hA : LV iv Ty.b M0 vA (aj (List.range rs.length))) (hS : LV iv Ty.b M0 vS S) (hSl : S.length = rs.length) (h34 : LV sv Ty.a M0 x34 l) (hl : l.length ≤ 128)
    (hQ : ∀ w M, Up M0 M → NV iv Ty.b M0 M w (l.flatMap fun s => eY rs S s rs.length) → Q w M) :
    ∀ (d a : Nat) (x7 : Value) (M : Store), d + a = l.length → Up M0 M → NV iv Ty.b M0 M x7 ((l.take a).flatMap fun s => eY rs S s rs.length) → ((l.take a).flatMap fun s => eY rs S s rs.length).length ≤ a * 64 → cH (pt b3) (pt b4) x7 x34 (iv (l.length : Int)) (iv (a : Int)) M Q := by
 have hsl := hs.1
 intro d
 induction d with
 | zero =>
  intro a x7 M ha hu hN hle
  apply mV
  unfold io
  rw [ag, ae, if_neg (by omega)]
  apply vX
  unfold mO
  rw [List.take_of_length_le (by omega)] at hN
  exact ⟨eI hN.lv, hQ _ _ hu hN⟩
 | succ d ih =>
  intro a x7 M ha hu hN hle
  have hal : a < l.length := by omega
  apply mV
  unfold io
  rw [ag, ae, if_pos hal]
  apply vW
  unfold mN
  obtain ⟨p, e1, e2⟩ := (h34.up hu).at hal .i64
  rw [e1, ab, e2, ab, pM (Ob.up o4 hu), LV.len (LV.up hA hu), ab, bI]
  refine JG o3 hR hD hs o4 hA hS hSl (acc := (l.take a).flatMap fun s => eY rs S s rs.length) (by omega) (fun M1 x7' hu1 hN1 => ?_) rs.length 0 x7 M rfl hu (by simpa [eY] using hN)
  apply vZ
  unfold mQ
  rw [ah _ (by omega)]
  have et : (l.take (a + 1)).flatMap (fun s => eY rs S s rs.length) = (l.take a).flatMap (fun s => eY rs S s rs.length) ++ eY rs S l[a] rs.length := by
   rw [List.take_succ_eq_append_getElem hal, List.flatMap_append]; simp
  have hh := uJ rs S l[a] rs.length
  refine ih (a + 1) x7' M1 (by omega) hu1 (by rw [et]; exact hN1) ?_
  rw [et, List.length_append]; omega
end
end
end Go.G
