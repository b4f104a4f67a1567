/- Layer 18: PlanFails: one rule fails, and what is told of the others. -/
import Derived.Test.YtnonfejhkbaikaaPGQf
import Derived.Test.YtnonfejhkbaikaaPY18r
import Derived.Test.YtnonfejhkbaikaaPM8i
namespace Go.G
open Go.Ab Go.Proofs Go.RowKit
set_option linter.unusedVariables false
set_option linter.unusedSimpArgs false
set_option maxRecDepth 100000
def gM (l : List Int) (k : Int) : Option Value := if k ∈ l then some (tv true) else none
theorem AS (l : List Int) (k : Int) : (fun q => if q = k then some (tv true) else gM l q) = gM (l ++ [k]) := by
 funext q; unfold gM
 by_cases h : q = k <;> simp [h]
theorem uP (l : List Int) (k : Int) : (gM l k).getD (.bool false) = tv (decide (k ∈ l)) := by
 unfold gM
 by_cases h : k ∈ l
 ·rw [if_pos h, decide_eq_true h]; rfl
 ·rw [if_neg h, decide_eq_false h]; rfl
theorem Gr : gM [] = fun _ => none := by funext q; simp [gM]
theorem uc {M : Store} {Q : Value → Store → Prop} (hQ : Q (tv true) M) : R F.m #[] M Q := Il (g := xJ) (by kernel_rfl) rfl hQ
theorem Ch.tdxK {M M' : Store} {b : Nat} {cells : List Value} {T : TypeId} (h : Ch [b] M M') (o : Ob M b cells T) {bs Ns : List Nat} {i j : Nat} (hj : j < i) (ht : (bs.getD i 0).testBit j = true) (h1 : Ns.getD j 0 ≤ b) (h2 : b < Ns.getD (j + 1) 0) : TDx bs Ns i M M' :=
 ⟨h.n, fun c hc => by
  rcases h.tdiff c hc with hc | hc
  ·exact .inl hc
  ·have : c = b := by simpa using hc
   subst this
   refine .inr ⟨by rw [show M.get c = _ from o]; rfl, ?_⟩
   unfold gb
   rw [Bool.or_eq_true]
   refine .inr (List.any_eq_true.2 ⟨j, List.mem_range.2 hj, ?_⟩)
   rw [ht, decide_eq_true h1, decide_eq_true h2]; rfl⟩
structure FI (M : Store) (b5 b7 : Nat) (vR vD vA vS : Value) (rs : List RuT) (S : List Int) : Prop where
 o5 : Mz M b5 vR vD
 hR : RL M vR rs
 hD : LV sv Ty.a M vD []
 o7 : Pb M b7 vA vS
 hA : LV iv Ty.b M vA (aj (List.range rs.length))
 hS : LV iv Ty.b M vS S
 hl : S.length = rs.length
section
variable {b5 b7 m : Nat} {vR vD vA vS : Value} {rs : List RuT} {S : List Int} {r : Nat} {Q : Value → Store → Prop}
theorem FI.up {M M' : Store} (h : FI M b5 b7 vR vD vA vS rs S) (k : Up M M') : FI M' b5 b7 vR vD vA vS rs S :=
 ⟨Ob.up h.o5 k, h.hR.up k, Sl.up h.hD k, Ob.up h.o7 k, Sl.up h.hA k, Sl.up h.hS k, h.hl⟩
theorem FI.kI {M M' : Store} (h : FI M b5 b7 vR vD vA vS rs S) (k : KeepI M M') : FI M' b5 b7 vR vD vA vS rs S :=
 ⟨k.2 _ _ h.o5, h.hR.keepI k, Sl.keepI h.hD k, k.2 _ _ h.o7, Sl.keepI h.hA k, Sl.keepI h.hS k, h.hl⟩
theorem FI.V {M : Store} (h : FI M b5 b7 vR vD vA vS rs S) : MV M (.agg (mcs vR vD).toArray) rs [] := ⟨vR, vD, rfl, h.hR, h.hD⟩
theorem FI.P {M : Store} (h : FI M b5 b7 vR vD vA vS rs S) : PV M (.agg (mcs vA vS).toArray) rs.length S := ⟨vA, vS, rfl, h.hA, h.hS, h.hl⟩
structure NB (rs : List RuT) (r : Nat) (N : List Int) (k : Nat) : Prop where
 s : ∀ z ∈ N, ∃ j : Nat, z = (j : Int) ∧ Bad rs r j
 b : (r : Int) ∈ N
 c : ∀ j, j < k → Bad rs r j → (j : Int) ∈ N
theorem NB.is {N : List Int} {k : Nat} (h : NB rs r N rs.length) (hk : k < rs.length) : (k : Int) ∈ N ↔ Bad rs r k := by
 constructor
 ·intro hm
  obtain ⟨j, e, hj⟩ := h.s _ hm
  have : k = j := by omega
  rw [this]; exact hj
 ·exact h.c k hk
theorem Jz {M : Store} (hQ : ∀ M, Q (tv true) M) (h : FI M b5 b7 vR vD vA vS rs S) : dz (pt b5) (pt b7) M Q := by
 apply rK
 unfold jH
 rw [pM h.o7, LV.len h.hA, ab, bI, bw h.o5, h.hR.len, ab, wB, ae, if_pos rfl]
 exact uc ⟨rfl, hQ _⟩
theorem JZ {M : Store} (hi : ManI rs) (hr : r < rs.length) (hQ : ∀ M, Q (tv true) M) {N : List Int} (h : FI M b5 b7 vR vD vA vS rs (bR rs (aF rs.length) r 3)) (hm : Mp iv M m (gM N)) (hN : NB rs r N rs.length) : dM (pt b5) (pt b7) (.map (some m)) M Q := by
 have hsl := hi.sm.1
 apply tq
 unfold kq
 rw [h.o5.ldA (s := 2) rfl, ab, h.o7.ldA (s := 2) rfl, ab]
 refine (Eg h.V h.P hi.sm).mono fun l M2 ⟨u2, hl⟩ => ?_
 have h := h.up u2
 have hm := hm.up u2
 have hll := hl.lv
 have hlr : (iJ rs (bR rs (aF rs.length) r 3)).length ≤ rs.length := by
  have := List.length_filter_le (je rs (bR rs (aF rs.length) r 3)) (List.range rs.length)
  rwa [List.length_range] at this
 rw [hll.len, ab]
 have loop : ∀ (d i : Nat), d + i = (iJ rs (bR rs (aF rs.length) r 3)).length → bH (pt b5) (pt b7) (.map (some m)) l (iv ((aj (iJ rs (bR rs (aF rs.length) r 3))).length : Int)) (iv (i : Int)) M2 Q := by
  intro d
  induction d with
  | zero =>
   intro i hd
   apply jM
   unfold fB
   rw [ag, av, ae, if_neg (by omega)]
   exact Jz hQ h
  | succ d ih =>
   intro i hd
   have hil : i < (iJ rs (bR rs (aF rs.length) r 3)).length := by omega
   have hin : i < (aj (iJ rs (bR rs (aF rs.length) r 3))).length := by rw [av]; exact hil
   apply jM
   unfold fB
   obtain ⟨p, e1, e2⟩ := hll.at hin .i64
   have e3 : (aj (iJ rs (bR rs (aF rs.length) r 3)))[i] = (((iJ rs (bR rs (aF rs.length) r 3))[i] : Nat) : Int) := by simp [aj]
   rw [e3] at e2
   have hk : (iJ rs (bR rs (aF rs.length) r 3))[i] ∈ iJ rs (bR rs (aF rs.length) r 3) := List.getElem_mem hil
   have hnb := Dz hi.bk hr hk
   have hkl := (Cv.1 hk).1
   rw [ag, ae, if_pos hin, e1, ab, e2, ab, hm.look1 dD, ab, uP, decide_eq_false (fun hx => hnb ((hN.is hkl).1 hx)), aI, ah _ (by omega)]
   exact ih (i + 1) (by omega)
 exact loop _ 0 rfl
theorem JY {M : Store} (hi : ManI rs) (hr : r < rs.length) (hQ : ∀ M, Q (tv true) M) {N : List Int} (h : FI M b5 b7 vR vD vA vS rs (bR rs (aF rs.length) r 3)) (hm : Mp iv M m (gM N)) (hN : NB rs r N rs.length) :
    ∀ (d i : Nat), d + i = rs.length → bV (iv (r : Int)) (pt b5) (pt b7) (.map (some m)) vA (iv (rs.length : Int)) (iv (i : Int)) M Q := by
 have hsl := hi.sm.1
 obtain ⟨g1, g2, g3⟩ := ue hi.bk hr
 intro d
 induction d with
 | zero =>
  intro i hd
  apply ky
  unfold ga
  rw [ag, ae, if_neg (by omega)]
  exact JZ hi hr hQ h hm hN
 | succ d ih =>
  intro i hd
  have hil : i < rs.length := by omega
  have hiS : i < (bR rs (aF rs.length) r 3).length := by omega
  have last : ∀ z : Int, z = stF (bR rs (aF rs.length) r 3) i → cB (iv (r : Int)) (pt b5) (pt b7) (.map (some m)) (iv (i : Int)) (iv z) vA (iv (rs.length : Int)) (iv (i : Int)) M Q := by
   intro z hz
   apply rJ
   unfold jG
   obtain ⟨p', g1', g2'⟩ := h.hS.at hiS .i64
   rw [pN h.o7, LV.len h.hS, ab, gD, ae, if_neg (by omega), pN h.o7, g1', ab, g2', ab]
   show OP (ad .neq (.int .i64 _) (.int .i64 z)) _
   rw [pz, FF hiS, hz, decide_eq_false (by simp), aI]
   apply rL
   unfold jI
   rw [ah _ (by omega)]
   exact ih (i + 1) (by omega)
  have mid : ∀ z : Int, (i ≠ r → z = stF (bR rs (aF rs.length) r 3) i) → cA (iv (r : Int)) (pt b5) (pt b7) (.map (some m)) (iv (i : Int)) (iv (i : Int)) (iv z) vA (iv (rs.length : Int)) (iv (i : Int)) M Q := by
   intro z hz
   apply rI
   unfold jF
   rw [wB, ae]
   split
   ·rename_i e
    exact last 3 (by rw [e, g2])
   ·rename_i e
    exact last z (hz e)
  apply ky
  unfold ga
  rw [ag, ae, if_pos hil]
  apply tn
  unfold kp
  obtain ⟨p, e1, e2⟩ := h.hA.at (i := i) (by rw [bI]; exact hil) .i64
  rw [oQ] at e2
  rw [e1, ab, e2, ab, hm.look1 dD, ab, uP, ae]
  split
  ·rename_i hb
   exact mid 4 fun hne => ((g3 i hil hne).1 ((hN.is hil).1 hb)).symm
  ·rename_i hb
   exact mid 1 fun hne => ((g3 i hil hne).2 (fun hB => hb ((hN.is hil).2 hB))).symm
theorem JX (hi : ManI rs) {k : Nat} (hk : k < rs.length) {q48 q47 x58 : Value} {N0 : List Int}
    (hgo : ∀ M N, FI M b5 b7 vR vD vA vS rs S → Mp iv M m (gM N) → NB rs r N (k + 1) → (∀ z ∈ N0, z ∈ N) → dL (iv (r : Int)) (pt b5) (pt b7) (.map (some m)) q47 q48 (iv (rs.length : Int)) (iv (k : Int)) M Q) :
    ∀ (d j : Nat) (N : List Int) (M : Store), d + j = (ndN rs k).length → FI M b5 b7 vR vD vA vS rs S → LV iv Ty.b M x58 (aj (ndN rs k)) → Mp iv M m (gM N) → NB rs r N k → (∀ z ∈ N0, z ∈ N) → (∀ y ∈ (ndN rs k).take j, Bad rs r y → (k : Int) ∈ N) →
     bm (iv (r : Int)) (pt b5) (pt b7) (.map (some m)) (iv (k : Int)) q47 q48 (iv (rs.length : Int)) (iv (k : Int)) x58 (iv ((aj (ndN rs k)).length : Int)) (iv (j : Int)) M Q := by
 have hsl := hi.sm.1
 have hnn : (ndN rs k).length ≤ rs.length := by
  have := List.length_filter_le (fun i' => jy (rs.getD i' ru0) (rs.getD k ru0)) (List.range rs.length)
  rwa [List.length_range] at this
 intro d
 induction d with
 | zero =>
  intro j N M hd h h58 hm hN hs0 hy
  apply kx
  unfold f9
  rw [ag, av, ae, if_neg (by omega)]
  rw [List.take_of_length_le (by omega)] at hy
  refine hgo M N h hm ⟨hN.s, hN.b, fun q hq hB => ?_⟩ hs0
  by_cases hqk : q = k
  ·subst hqk
   cases hB with
   | base => exact hN.b
   | step hj hB => exact hy _ hj hB
  ·exact hN.c q (by omega) hB
 | succ d ih =>
  intro j N M hd h h58 hm hN hs0 hy
  have hjl : j < (ndN rs k).length := by omega
  have hjn : j < (aj (ndN rs k)).length := by rw [av]; exact hjl
  apply kx
  unfold f9
  obtain ⟨p, e1, e2⟩ := h58.at hjn .i64
  have e3 : (aj (ndN rs k))[j] = (((ndN rs k)[j] : Nat) : Int) := by simp [aj]
  rw [e3] at e2
  have hmem : (ndN rs k)[j] ∈ ndN rs k := List.getElem_mem hjl
  have htk : (ndN rs k).take (j + 1) = (ndN rs k).take j ++ [(ndN rs k)[j]] := List.take_succ_eq_append_getElem hjl
  generalize (ndN rs k)[j] = y at *
  have hyk := hi.bk k hk y hmem
  rw [ag, ae, if_pos hjn, e1, ab, e2, ab, hm.look1 dD, ab, uP, ae]
  split
  ·rename_i hb
   obtain ⟨q, e, hBq⟩ := hN.s _ hb
   have hyq : y = q := by omega
   subst hyq
   have hBk : Bad rs r k := .step hmem hBq
   obtain ⟨M1, e5, hm1, c5, k5⟩ := hm.put dD (k : Int) (Fj true)
   rw [AS] at hm1
   rw [show mup (.int .i64) (.map (some m)) (iv (k : Int)) (.bool true) M = some M1 from e5, ab, ah _ (by omega)]
   refine ih (j + 1) (N ++ [(k : Int)]) M1 (by omega) (h.kI k5) (Sl.keepI h58 k5) hm1 ⟨fun z hz => ?_, List.mem_append_left _ hN.b, fun q hq hB => List.mem_append_left _ (hN.c q hq hB)⟩ (fun z hz => List.mem_append_left _ (hs0 z hz)) (fun _ _ _ => by simp)
   rcases List.mem_append.1 hz with hz | hz
   ·exact hN.s z hz
   ·exact ⟨k, List.mem_singleton.1 hz, hBk⟩
  ·rename_i hb
   rw [ah _ (by omega)]
   refine ih (j + 1) N M (by omega) h h58 hm hN hs0 fun y' hy' hB => ?_
   rw [htk] at hy'
   rcases List.mem_append.1 hy' with hy' | hy'
   ·exact hy y' hy' hB
   ·rw [List.mem_singleton.1 hy'] at hB
    exact absurd (hN.c y hyk hB) hb
theorem JW (hi : ManI rs) {q48 q47 : Value} 
    (hgo : ∀ M N, FI M b5 b7 vR vD vA vS rs S → Mp iv M m (gM N) → NB rs r N rs.length → dK (iv (r : Int)) (pt b5) (pt b7) (.map (some m)) q47 q48 M Q) :
    ∀ (d k : Nat) (N : List Int) (M : Store), d + k = rs.length → FI M b5 b7 vR vD vA vS rs S → Mp iv M m (gM N) → NB rs r N k →
     bU (iv (r : Int)) (pt b5) (pt b7) (.map (some m)) q47 q48 (iv (rs.length : Int)) (iv (k : Int)) M Q := by
 have hsl := hi.sm.1
 intro d
 induction d with
 | zero =>
  intro k N M hd h hm hN
  apply kw
  unfold f7
  have : k = rs.length := by omega
  subst this
  rw [ag, ae, if_neg (by omega)]
  exact hgo M N h hm hN
 | succ d ih =>
  intro k N M hd h hm hN
  have hk : k < rs.length := by omega
  apply kw
  unfold f7
  rw [ag, ae, if_pos hk, h.o5.ldA (s := 2) rfl, ab]
  refine (zd (ds := []) h.V hi.sm.short hk).mono fun w M1 ⟨u1, hw⟩ => ?_
  rw [hw.lv.len, ab]
  refine JX hi hk (N0 := N) (fun M2 N2 h2 hm2 hN2 _ => ?_) (ndN rs k).length 0 N M1 rfl (h.up u1) hw.lv (hm.up u1) hN (fun z hz => hz) (by simp)
  apply tm
  unfold ko
  rw [ah _ (by omega)]
  exact ih (k + 1) N2 M2 (by omega) h2 hm2 hN2
theorem JV (hi : ManI rs) (hr : r < rs.length) (hQ : ∀ M, Q (tv true) M) :
    ∀ (d i : Nat) (N : List Int) (M : Store), d + i = rs.length → FI M b5 b7 vR vD vA vS rs (bR rs (aF rs.length) r 3) → Mp iv M m (gM N) → NB rs r N 0 → (0 < i → NB rs r N rs.length) →
     bT (iv (r : Int)) (pt b5) (pt b7) (.map (some m)) (iv (rs.length : Int)) (iv (i : Int)) M Q := by
 have hsl := hi.sm.1
 intro d
 induction d with
 | zero =>
  intro i N M hd h hm hN hN1
  apply ku
  unfold f6
  rw [ag, ae, if_neg (by omega)]
  apply tk
  unfold km
  rw [pM h.o7, LV.len h.hA, ab, bI]
  exact JY hi hr hQ h hm (hN1 (by omega)) rs.length 0 rfl
 | succ d ih =>
  intro i N M hd h hm hN hN1
  apply ku
  unfold f6
  rw [ag, ae, if_pos (by omega), bw h.o5, h.hR.len, ab]
  refine JW hi (fun M2 N2 h2 hm2 hN2 => ?_) rs.length 0 N M rfl h hm hN
  apply tl
  unfold kn
  rw [ah _ (by omega)]
  exact ih (i + 1) N2 M2 (by omega) h2 hm2 ⟨hN2.s, hN2.b, fun j hj => absurd hj (Nat.not_lt_zero _)⟩ fun _ => hN2
theorem zi {M : Store} {x0 : Value} {ts : List Int} {r0 : Int} (h0 : LV iv Ty.b M x0 ts) : R F.J #[x0, iv r0] M fun v _ => v = tv true := by
 refine R.cps fun Q hQ => ?_
 have hQ : ∀ M, Q (tv true) M := fun M => hQ _ _ rfl
 apply vT
 unfold mK
 refine FL h0 fun v M2 u2 hv => ?_
 rw [(tp2 _ _).1, (tp2 _ _).2]
 refine HE hv fun vR vD M6 u6 o hR hD => ?_
 show OP (ad .neq (iv ((0 : Nat) : Int)) (.int .i64 0)) _
 rw [pJ 0 0 rfl, ae, if_neg (by simp)]
 have hi := E9 ts
 generalize pH ts = rs at *
 have hsl := hi.sm.1
 rw [bw o, hR.len, ab, bZ 0 0 rfl, ae]
 split
 ·exact uc ⟨rfl, hQ _⟩
 ·rename_i hz
  have hpos : 0 < rs.length := by omega
  show OP (ad .and (.int .i64 r0) (.int .i64 ((255 : Nat) : Int))) _
  rw [AB _ 255 (by decide), ab, bw o, hR.len, ab]
  show OP (ad .rem (iv (aW r0 255 : Int)) (iv (rs.length : Int))) _
  rw [wK _ _ hpos]
  have hr : aW r0 255 % rs.length < rs.length := Nat.mod_lt _ hpos
  generalize aW r0 255 % rs.length = r at *
  rw [o.ldA (s := 2) rfl, ab, ab]
  refine (Ij ⟨vR, vD, rfl, hR, hD⟩ hi.ok hi.sm hi.bk).mono fun p M8 ⟨u8, hp⟩ => ⟨u8.tdj _ _, ?_⟩
  refine (In (ds := []) ⟨vR, vD, rfl, hR.up u8, Sl.up hD u8⟩ hp hi.sm).mono fun q M9 ⟨u9, S', hq, hS'⟩ => ⟨u9.tdx _ _ _, ?_⟩
  have hS' := hS' r rfl hr
  subst hS'
  obtain ⟨qA, qS, rfl, hqA, hqS, hql, _⟩ := hq
  have f1 : ∃ a c, qA = .slice a (aj (List.range rs.length)).length c := Sl.slice hqA.lv
  have f2 : ∃ a c, qS = .slice a (bR rs (aF rs.length) r 3).length c := Sl.slice hqS.lv
  obtain ⟨a5, c5, rfl⟩ := f1
  obtain ⟨a6, c6, rfl⟩ := f2
  have m6 := u6.n
  have m8 := u8.n
  have m9 := u9.n
  refine aq fun M10 u10 o10 n10 => ?_
  refine bp (vs := mcs (.slice a5 (aj (List.range rs.length)).length c5) (.slice a6 (bR rs (aF rs.length) r 3).length c6)) o10 rfl rfl (oL _ _ _ _ _ _) fun M11 c11 o11 _ => ⟨Ch.tdxK c11 o10 (j := 5) (by decide) (by decide) (Nat.le_refl M9.n) (by show M9.n < M10.n; omega), ?_⟩
  rw [aY]
  have u911 : Up M9 M11 := u10.ch c11 (by simp)
  have u12 := Up.push M11 (some (.inr (.inl [])))
  have u9p := u911.trans u12
  have u6p := (u8.trans u9).trans u9p
  have hm0 : Mp iv (M11.push (some (.inr (.inl [])))) M11.n (gM []) := by rw [Gr]; exact Mp.new M11
  obtain ⟨M13, e5, hm1, c5, k5⟩ := hm0.put dD (r : Int) (Fj true)
  rw [AS] at hm1
  rw [show mup (.int .i64) (.map (some M11.n)) (iv (r : Int)) (.bool true) (M11.push (some (.inr (.inl [])))) = some M13 from e5, ab]
  have h : FI (M11.push (some (.inr (.inl [])))) M2.n M9.n vR vD _ _ rs (bR rs (aF rs.length) r 3) := ⟨Ob.up o u6p, hR.up u6p, Sl.up hD u6p, Ob.up o11 u12, Sl.up hqA.lv u9p, Sl.up hqS.lv u9p, hql⟩
  have h := h.kI k5
  rw [bw h.o5, h.hR.len, ab]
  refine JV hi hr hQ rs.length 0 ([] ++ [(r : Int)]) M13 rfl h hm1 ⟨fun z hz => ?_, by simp, fun j hj => absurd hj (Nat.not_lt_zero _)⟩ fun h => absurd h (Nat.not_lt_zero _)
  exact ⟨r, by simpa using hz, .base⟩
end
end Go.G
