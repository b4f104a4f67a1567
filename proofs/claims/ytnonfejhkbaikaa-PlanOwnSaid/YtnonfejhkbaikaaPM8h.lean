/- Layer 8, the document: all that is wanted. -/
import Derived.Test.YtnonfejhkbaikaaPUO
import Derived.Test.YtnonfejhkbaikaaPM8g
namespace Go.G
open Go.Ab Go.Proofs Go.RowKit
set_option linter.unusedVariables false
set_option linter.unusedSimpArgs false
set_option maxRecDepth 100000
theorem vx {A : Int → List Int} : ∀ {n i : Nat} {all L : List Int}, eL A n i all = some L → ∀ k (hk : k < L.length), i ≤ k → ∀ y ∈ A L[k], y ∈ L
 | 0, i, all, L, h, k, hk, hik, y, hy => by
  unfold eL at h
  split at h
  ·cases h
  ·rename_i hi
   injection h with h; subst h
   omega
 | n + 1, i, all, L, h, k, hk, hik, y, hy => by
  have h0 := h
  unfold eL at h
  split at h
  ·rename_i hi
   by_cases e : k = i
   ·subst e
    obtain ⟨r, hr⟩ := jK h0
    obtain ⟨r2, hr2⟩ := jK h
    have e1 : L[k] = all[k] := by simp only [hr]; rw [List.getElem_append_left hi]
    rw [e1] at hy
    rw [hr2]
    exact List.mem_append_left _ ((nl _ _ _).2 (.inr hy))
   ·exact vx h k hk (by omega) y hy
  ·rename_i hi
   injection h with h; subst h
   omega
theorem xV {A : Int → List Int} {P : Int → Prop} (hA : ∀ x, P x → ∀ y ∈ A x, P y) : ∀ {n i : Nat} {all L : List Int}, eL A n i all = some L → (∀ z ∈ all, P z) → ∀ z ∈ L, P z
 | 0, i, all, L, h, ha, z, hz => by
  unfold eL at h
  split at h
  ·cases h
  ·injection h with h; subst h; exact ha z hz
 | n + 1, i, all, L, h, ha, z, hz => by
  unfold eL at h
  split at h
  ·rename_i hi
   refine xV hA h (fun q hq => ?_) z hz
   rcases (nl _ _ _).1 hq with hq | hq
   ·exact ha q hq
   ·exact hA _ (ha _ (List.getElem_mem hi)) q hq
  ·injection h with h; subst h; exact ha z hz
theorem Ec {rs : List RuT} (ho : OkRs [] rs) {ns : List (List UInt8)} {i : Nat} (hi : i ∈ eD rs ns) : (i : Int) ∈ fS rs ns := by
 obtain ⟨r, hr⟩ := jK (uF ho ns).1
 rw [hr]
 exact List.mem_append_left _ ((uH _ _).2 (eO.2 ⟨i, hi, rfl⟩))
theorem Ij {rs : List RuT} (ho : OkRs [] rs) {ns : List (List UInt8)} {i j : Nat} (hi : i < rs.length) (h : (i : Int) ∈ fS rs ns) (hj : j ∈ ndN rs i) : (j : Int) ∈ fS rs ns := by
 obtain ⟨k, hk, e⟩ := List.mem_iff_getElem.1 h
 refine vx (uF ho ns).1 k hk (Nat.zero_le _) _ ?_
 rw [e, tG hi]
 exact eO.2 ⟨j, (ur ho hi j).2 hj, rfl⟩
theorem Hb {rs : List RuT} (ho : OkRs [] rs) {ns : List (List UInt8)} {F : Nat → Bool} (h1 : ∀ i ∈ eD rs ns, F i = true) (h2 : ∀ i, i < rs.length → F i = true → ∀ j ∈ ndN rs i, F j = true) {i : Nat} (h : (i : Int) ∈ fS rs ns) : F i = true := by
 have hr := uF ho ns
 have := xV (P := fun z => 0 ≤ z ∧ z < (rs.length : Int) ∧ F z.toNat = true) (A := ahI rs) (fun x hx y hy => by
  have hin := GA ho x hx.1 hx.2.1 y hy
  refine ⟨hin.1, hin.2, ?_⟩
  have hx' : x = ((x.toNat : Nat) : Int) := by omega
  rw [hx', tG (by omega)] at hy
  obtain ⟨j, hj, rfl⟩ := eO.1 hy
  exact h2 x.toNat (by omega) hx.2.2 j ((ur ho (by omega) j).1 hj)) hr.1 (fun z hz => by
  have hz := (uH _ _).1 hz
  have hb := DU z hz
  obtain ⟨j, hj, rfl⟩ := eO.1 hz
  exact ⟨hb.1, hb.2, h1 j hj⟩) (i : Int) h
 exact this.2.2
def fls (n : Nat) (F : Nat → Bool) : List Bool := (List.range n).map F
theorem uz (n : Nat) (F : Nat → Bool) : (fls n F).length = n := by simp [fls]
theorem ya {n : Nat} {F : Nat → Bool} {i : Nat} (h : i < (fls n F).length) : (fls n F)[i] = F i := by simp [fls]
def upd (F : Nat → Bool) (j : Nat) (b : Bool) : Nat → Bool := fun i => if i = j then b else F i
theorem Jj {n : Nat} {F : Nat → Bool} {j : Nat} (b : Bool) (h : j < n) : (fls n F).set j b = fls n (upd F j b) := by
 apply List.ext_getElem
 ·simp [fls]
 ·intro i h1 h2
  simp only [List.getElem_set, ya]
  unfold upd
  by_cases e : j = i
  ·rw [if_pos e, if_pos e.symm]
  ·rw [if_neg e, if_neg (Ne.symm e)]
theorem GT {n : Nat} {F G : Nat → Bool} (h : ∀ i, i < n → F i = G i) : fls n F = fls n G := by
 unfold fls
 apply List.map_congr_left
 intro i hi
 exact h i (List.mem_range.1 hi)
def cnt : Nat → (Nat → Bool) → Nat
 | 0, _ => 0
 | n + 1, F => cnt n F + (if F n = true then 1 else 0)
theorem Cc : ∀ (n : Nat) (F : Nat → Bool), cnt n F ≤ n
 | 0, _ => Nat.le_refl _
 | n + 1, F => by have := Cc n F; unfold cnt; split <;> omega
theorem Ce {F G : Nat → Bool} : ∀ n : Nat, (∀ i, i < n → F i = true → G i = true) → cnt n F ≤ cnt n G
 | 0, _ => Nat.le_refl _
 | n + 1, h => by
  have h1 := Ce n fun i hi => h i (by omega)
  have h2 := h n (by omega)
  unfold cnt
  by_cases e : F n = true
  ·rw [if_pos e, if_pos (h2 e)]; omega
  ·rw [if_neg e]; split <;> omega
theorem Cd {F G : Nat → Bool} : ∀ n : Nat, (∀ i, i < n → F i = true → G i = true) → (∃ j, j < n ∧ G j = true ∧ F j = false) → cnt n F < cnt n G
 | 0, _, ⟨j, hj, _⟩ => absurd hj (Nat.not_lt_zero _)
 | n + 1, h, ⟨j, hj, hg, hf⟩ => by
  have h1 := Ce n fun i hi => h i (by omega)
  have h2 := h n (by omega)
  unfold cnt
  by_cases e : j = n
  ·subst e
   rw [if_neg (by rw [hf]; decide), if_pos hg]; omega
  ·have h3 := Cd n (fun i hi => h i (by omega)) ⟨j, by omega, hg, hf⟩
   by_cases e : F n = true
   ·rw [if_pos e, if_pos (h2 e)]; omega
   ·rw [if_neg e]; split <;> omega
abbrev FlN (M0 M : Store) (v : Value) (n : Nat) (F : Nat → Bool) : Prop := NV tv Ty.k M0 M v (fls n F)
theorem FlN.at {M0 M : Store} {v : Value} {n : Nat} {F : Nat → Bool} (h : FlN M0 M v n F) {i : Nat} (hi : i < n) (K : Value → Prop) : (OP (ixA 1 v (iv (i : Int))) fun p => OP (ld 1 false p M) K) = K (tv (F i)) := by
 obtain ⟨p, e1, e2⟩ := (NV.lv h).at (i := i) (by rw [uz]; exact hi) .i64
 rw [ya] at e2
 show (OP (ixA 1 v (.int .i64 (i : Int))) fun p => OP (ld 1 false p M) K) = _
 rw [e1, ab, e2, ab]
theorem FlN.put {M0 M : Store} {v : Value} {n : Nat} {F : Nat → Bool} (h : FlN M0 M v n F) {i : Nat} (hi : i < n) (b : Bool) {K : Store → Prop}
    (hK : ∀ M', FlN M0 M' v n (upd F i b) → Keep Ty.k M M' → (∃ q, M0.n ≤ q ∧ q < M.n ∧ Ch [q] M M') → K M') : OP (ixA 1 v (iv (i : Int))) fun p => OP (st 1 p (tv b) M) K := by
 have h' : Nw 1 Ty.k M0 M v n ((fls n F).map tv) := by
  have := h
  unfold FlN NV at this
  rwa [uz] at this
 obtain ⟨p, M', e1, e2, h2, kk, hq⟩ := Nw.put1K h' hi .i64 (gW b) (AG b)
 show OP (ixA 1 v (.int .i64 (i : Int))) _
 rw [e1, ab, e2, ab]
 refine hK M' ?_ kk hq
 show Nw 1 Ty.k M0 M' v (fls n (upd F i b)).length ((fls n (upd F i b)).map tv)
 rw [uz, ← Jj b hi, List.map_set]
 exact h2
section
variable {M0 : Store} {b : Nat} {vR vD x1 x5 : Value} {rs : List RuT} {ns ds : List (List UInt8)} {Q : Value → Store → Prop}
theorem Kr {M : Store} {v : Value} {xs : List (List UInt8)} {s : List UInt8} (h : LV sv Ty.a M v xs) (hl : xs.length ≤ 2 ^ 40) (hQ : Q (tv (decide (s ∈ xs))) M) : R F.i1 #[v, sv s] M Q := by
 apply Hy
 unfold AZ
 have key : ∀ (d i : Nat), d + i = xs.length → s ∉ xs.take i → fW v (sv s) (iv (i : Int)) M Q := by
  intro d
  induction d with
  | zero =>
   intro i hi hn
   apply xD
   unfold qg
   rw [h.len, ab, ah, ae, if_neg (by omega)]
   apply EG
   unfold wN
   rw [List.take_of_length_le (by omega)] at hn
   rw [decide_eq_false hn] at hQ
   exact ⟨rfl, hQ⟩
  | succ d ih =>
   intro i hi hn
   have hil : i < xs.length := by omega
   apply xD
   unfold qg
   obtain ⟨p, e1, e2⟩ := h.at hil .i64
   rw [h.len, ab, ah, ae, if_pos hil, e1, ab, e2, ab, jf, ae]
   split
   ·rename_i e
    rw [decide_eq_true (p := s ∈ xs) (by rw [← e]; exact List.getElem_mem hil)] at hQ
    exact ⟨rfl, hQ⟩
   ·rename_i e
    rw [ai _ (by omega)]
    refine ih (i + 1) (by omega) ?_
    rw [List.take_succ_eq_append_getElem hil, List.mem_append]
    rintro (h1 | h1)
    ·exact hn h1
    ·exact e (List.mem_singleton.1 h1).symm
 exact key xs.length 0 rfl (by simp)
def kP (rs : List RuT) (ns : List (List UInt8)) (i : Nat) : Nat → Bool := fun j => decide (j < i) && dm ns (rs.getD j ru0)
theorem LU (o : Mz M0 b vR vD) (hR : RL M0 vR rs) (hs : SmallRs rs) (h1 : LV sv Ty.a M0 x1 ns) (hnl : ns.length ≤ 2 ^ 20) {i : Nat} (hi : i < rs.length) {F : Nat → Bool}
    (hk : ∀ M, Up M0 M → FlN M0 M x5 rs.length (upd F i (dm ns rs[i])) → gI x1 (pt b) x5 (iv (i : Int)) M Q) :
    ∀ (d k : Nat) (M : Store), d + k = rs[i].outs.length → Up M0 M → FlN M0 M x5 rs.length (upd F i (decide (ns = []) || (rs[i].outs.take k).any fun s => decide (s ∈ ns))) → bV x1 (pt b) x5 (iv (i : Int)) (iv (k : Int)) M Q := by
 have hsi := hs.2 _ (List.getElem_mem hi)
 intro d
 induction d with
 | zero =>
  intro k M hk' hu hF
  obtain ⟨c, hc, hf⟩ := (hR.up hu).fld hi
  apply rA
  unfold kL
  rw [bi (o.up hu), hf 0 c.1 rfl, hc.o.len, ab, ah, ae, if_neg (by omega)]
  rw [List.take_of_length_le (by omega)] at hF
  exact hk M hu hF
 | succ d ih =>
  intro k M hk' hu hF
  have hkl : k < rs[i].outs.length := by omega
  obtain ⟨c, hc, hf⟩ := (hR.up hu).fld hi
  apply rA
  unfold kL
  rw [bi (o.up hu), hf 0 c.1 rfl, hc.o.len, ab, ah, ae, if_pos hkl]
  apply Aq
  unfold rj
  rw [FlN.at hF hi, show upd F i (decide (ns = []) || (rs[i].outs.take k).any fun s => decide (s ∈ ns)) i = (decide (ns = []) || (rs[i].outs.take k).any fun s => decide (s ∈ ns)) from if_pos rfl, av]
  have uu : ∀ (a c' : Bool), upd (upd F i a) i c' = upd F i c' := fun a c' => by
   funext q; unfold upd; split <;> rfl
  have nxt : ∀ (c' : Bool), c' = (decide (ns = []) || (rs[i].outs.take (k + 1)).any fun s => decide (s ∈ ns)) → OP (ixA 1 x5 (iv (i : Int))) fun t68 => OP (Go.Ab.st 1 t68 (tv c') M) fun M1 => OP (ad .add (iv (k : Int)) (.int .i64 1)) fun t48 => bV x1 (pt b) x5 (iv (i : Int)) t48 M1 Q := by
   intro c' he
   refine FlN.put hF hi c' fun M1 hF1 kk ⟨q, hq1, hq2, cq⟩ => ?_
   rw [ai _ (by omega)]
   rw [uu, he] at hF1
   exact ih (k + 1) M1 (by omega) (hu.ch cq (by simpa using hq1)) hF1
  have et : (rs[i].outs.take (k + 1)).any (fun s => decide (s ∈ ns)) = ((rs[i].outs.take k).any (fun s => decide (s ∈ ns)) || decide (rs[i].outs[k] ∈ ns)) := by
   rw [List.take_succ_eq_append_getElem hkl, List.any_append]; simp
  split
  ·rename_i hb
   refine nxt true ?_
   rw [et, ← Bool.or_assoc, hb, Bool.true_or]
  ·rename_i hb
   obtain ⟨p, e1, e2⟩ := hc.o.at hkl .i64
   rw [bi (o.up hu), hf 0 c.1 rfl, e1, ab, e2, ab]
   refine Kr (h1.up hu) (by omega) ?_
   refine nxt _ ?_
   rw [et, ← Bool.or_assoc, show (decide (ns = []) || (rs[i].outs.take k).any fun s => decide (s ∈ ns)) = false by simpa using hb, Bool.false_or]
theorem LS (o : Mz M0 b vR vD) (hR : RL M0 vR rs) (hs : SmallRs rs) (h1 : LV sv Ty.a M0 x1 ns) (hnl : ns.length ≤ 2 ^ 20)
    (hk : ∀ M, Up M0 M → FlN M0 M x5 rs.length (kP rs ns rs.length) → gH (pt b) x5 M Q) :
    ∀ (d i : Nat) (M : Store), d + i = rs.length → Up M0 M → FlN M0 M x5 rs.length (kP rs ns i) → dy x1 (pt b) x5 (iv (i : Int)) M Q := by
 have hsl := hs.1
 intro d
 induction d with
 | zero =>
  intro i M hi hu hF
  apply rz
  unfold kK
  rw [bi (o.up hu), (hR.up hu).len, ab, ah, ae, if_neg (by omega)]
  have : i = rs.length := by omega
  subst this
  exact hk M hu hF
 | succ d ih =>
  intro i M hi hu hF
  have hil : i < rs.length := by omega
  apply rz
  unfold kK
  rw [bi (o.up hu), (hR.up hu).len, ab, ah, ae, if_pos hil, (h1.up hu).len, ab, bR 0 0 rfl]
  have e0 : decide (ns.length = 0) = decide (ns = []) := by
   rw [decide_eq_decide]; exact List.length_eq_zero_iff
  rw [e0]
  refine FlN.put hF hil (decide (ns = [])) fun M1 hF1 kk ⟨q, hq1, hq2, cq⟩ => ?_
  refine LU o hR hs h1 hnl hil (F := kP rs ns i) (fun M2 hu2 hF2 => ?_) rs[i].outs.length 0 M1 rfl (hu.ch cq (by simpa using hq1)) (by simpa using hF1)
  apply Ar
  unfold rk
  rw [ai _ (by omega)]
  refine ih (i + 1) M2 (by omega) hu2 ?_
  have : fls rs.length (upd (kP rs ns i) i (dm ns rs[i])) = fls rs.length (kP rs ns (i + 1)) := GT fun j hj => by
   unfold upd kP
   by_cases e : j = i
   ·subst e
    rw [if_pos rfl, decide_eq_true (show j < j + 1 by omega), Bool.true_and, aH hil]
   ·rw [if_neg e]
    congr 1
    rw [decide_eq_decide]; omega
  unfold FlN at hF2 ⊢
  rw [this] at hF2
  exact hF2
structure PI (n : Nat) (L : List Int) (F0 F : Nat → Bool) (ag : Bool) : Prop where
 le : ∀ j, j < n → F0 j = true → F j = true
 sd : ∀ j, j < n → F j = true → (j : Int) ∈ L
 no : ag = false → ∀ j, j < n → F j = F0 j
 ye : ag = true → ∃ j, j < n ∧ F j = true ∧ F0 j = false
theorem LB {x10 : Value} {i : Nat} (ho : OkRs [] rs) (hi : i < rs.length) (hll : (ndN rs i).length ≤ 2 ^ 20) {F0 : Nat → Bool} {ag0 : Bool}
    (hk : ∀ (M : Store) (F : Nat → Bool) (ag : Bool), Up M0 M → FlN M0 M x5 rs.length F → PI rs.length (fS rs ns) F0 F ag → (F i = true → ∀ y ∈ ndN rs i, F y = true) → (ag0 = true → ag = true) → eh (pt b) x5 (tv ag) (iv (i : Int)) M Q) :
    ∀ (d k : Nat) (F : Nat → Bool) (ag : Bool) (M : Store), d + k = (ndN rs i).length → Up M0 M → LV iv Ty.b M x10 (aj (ndN rs i)) → FlN M0 M x5 rs.length F → PI rs.length (fS rs ns) F0 F ag → (∀ y ∈ (ndN rs i).take k, F y = true) → (ag0 = true → ag = true) → bI (pt b) x5 (tv ag) (iv (i : Int)) x10 (iv (k : Int)) M Q := by
 intro d
 induction d with
 | zero =>
  intro k F ag M hk' hu h10 hF hP hy ha
  apply pJ
  unfold jF
  rw [h10.len, ab, ar, ah, ae, if_neg (by omega)]
  rw [List.take_of_length_le (by omega)] at hy
  exact hk M F ag hu hF hP (fun _ => hy) ha
 | succ d ih =>
  intro k F ag M hk' hu h10 hF hP hy ha
  have hkl : k < (ndN rs i).length := by omega
  apply pJ
  unfold jF
  rw [h10.len, ab, ar, ah, ae, if_pos hkl, FlN.at hF hi, av]
  split
  ·rename_i hFi
   obtain ⟨p, e1, e2⟩ := h10.at (i := k) (by rw [ar]; exact hkl) .i64
   have e3 : (aj (ndN rs i))[k]'(by rw [ar]; exact hkl) = (((ndN rs i)[k] : Nat) : Int) := by simp [aj]
   rw [e3] at e2
   have hmem : (ndN rs i)[k] ∈ ndN rs i := List.getElem_mem hkl
   have hyl := tZ hmem
   have hyL := Ij ho hi (hP.sd i hi hFi) hmem
   have hy1 : ∀ y ∈ (ndN rs i).take (k + 1), (upd F (ndN rs i)[k] true) y = true := by
    intro y hm
    rw [List.take_succ_eq_append_getElem hkl] at hm
    unfold upd
    split
    ·rfl
    ·rename_i hne
     rcases List.mem_append.1 hm with hm | hm
     ·exact hy y hm
     ·exact absurd (List.mem_singleton.1 hm) hne
   generalize (ndN rs i)[k] = y at *
   have nxt : ∀ ag' : Bool, ag' = (ag || !F y) → OP (ixA 1 x5 (iv (y : Int))) fun t108 => OP (Go.Ab.st 1 t108 (tv true) M) fun M1 => OP (ad .add (iv (k : Int)) (.int .i64 1)) fun t91 => bI (pt b) x5 (tv ag') (iv (i : Int)) x10 t91 M1 Q := by
    intro ag' hag
    refine FlN.put hF hyl true fun M1 hF1 kk ⟨q, hq1, hq2, cq⟩ => ?_
    rw [ai _ (by omega)]
    refine ih (k + 1) _ ag' M1 (by omega) (hu.ch cq (by simpa using hq1)) (Sl.keep h10 (by decide) kk) hF1 ⟨fun j hj h0 => ?_, fun j hj h0 => ?_, fun hf j hj => ?_, fun ht => ?_⟩ hy1 (fun h => by rw [hag, ha h]; rfl)
    ·unfold upd; split
     ·rfl
     ·exact hP.le j hj h0
    ·unfold upd at h0
     split at h0
     ·rename_i e; subst e; exact hyL
     ·exact hP.sd j hj h0
    ·rw [hag, Bool.or_eq_false_iff] at hf
     have hfy : F y = true := by simpa using hf.2
     unfold upd
     split
     ·rename_i e; subst e; rw [← hP.no hf.1 j hj, hfy]
     ·exact hP.no hf.1 j hj
    ·by_cases hag1 : ag = true
     ·obtain ⟨j, hj, h1, h2⟩ := hP.ye hag1
      exact ⟨j, hj, by unfold upd; split <;> first | rfl | exact h1, h2⟩
     ·have hag1 : ag = false := by simpa using hag1
      rw [hag, hag1, Bool.false_or] at ht
      refine ⟨y, hyl, by unfold upd; rw [if_pos rfl], ?_⟩
      have := hP.no hag1 y hyl
      rw [← this]; simpa using ht
   apply yM
   unfold pw
   rw [av]
   split
   ·rename_i hag
    rw [e1, ab, e2, ab]
    exact nxt true (by rw [hag]; rfl)
   ·rename_i hag
    have hag : ag = false := by simpa using hag
    rw [e1, ab, e2, ab, FlN.at hF hyl, aN, ab, e2, ab]
    exact nxt _ (by rw [hag]; rfl)
  ·rename_i hFi
   exact hk M F ag hu hF hP (fun h => absurd h hFi) ha
theorem KV (o : Mz M0 b vR vD) (hR : RL M0 vR rs) (hD : LV sv Ty.a M0 vD ds) (hs : SmallRs rs) (ho : OkRs [] rs) {F0 : Nat → Bool}
    (hk : ∀ (M : Store) (F : Nat → Bool) (ag : Bool), Up M0 M → FlN M0 M x5 rs.length F → PI rs.length (fS rs ns) F0 F ag → (ag = false → ∀ i, i < rs.length → F0 i = true → ∀ y ∈ ndN rs i, F0 y = true) → bW (pt b) x5 (tv ag) M Q) :
    ∀ (d i : Nat) (F : Nat → Bool) (ag : Bool) (M : Store), d + i = rs.length → Up M0 M → FlN M0 M x5 rs.length F → PI rs.length (fS rs ns) F0 F ag → (ag = false → ∀ i', i' < i → F0 i' = true → ∀ y ∈ ndN rs i', F0 y = true) → dz (pt b) x5 (tv ag) (iv (i : Int)) M Q := by
 have hsl := hs.1
 intro d
 induction d with
 | zero =>
  intro i F ag M hi hu hF hP hc
  apply rB
  unfold kM
  rw [bi (o.up hu), (hR.up hu).len, ab, ah, ae, if_neg (by omega)]
  have : i = rs.length := by omega
  subst this
  exact hk M F ag hu hF hP hc
 | succ d ih =>
  intro i F ag M hi hu hF hP hc
  have hil : i < rs.length := by omega
  apply rB
  unfold kM
  rw [bi (o.up hu), (hR.up hu).len, ab, ah, ae, if_pos hil, (Ob.up o hu).ldA (s := 2) rfl, ab]
  refine (vP (ds := ds) ⟨vR, vD, rfl, hR.up hu, hD.up hu⟩ hs.short hil).mono fun w M1 ⟨u1, hw⟩ => ?_
  have hnl : (ndN rs i).length ≤ rs.length := by
   have := List.length_filter_le (fun i' => i8 (rs.getD i' ru0) (rs.getD i ru0)) (List.range rs.length)
   rwa [List.length_range] at this
  refine LB (ag0 := ag) ho hil (by omega) (fun M2 F2 ag2 hu2 hF2 hP2 hcl ha2 => ?_) (ndN rs i).length 0 F ag M1 rfl (hu.trans u1) hw.lv (Nw.up hF u1) hP (by simp) (fun h => h)
  apply yN
  unfold px
  rw [ai _ (by omega)]
  refine ih (i + 1) F2 ag2 M2 (by omega) hu2 hF2 hP2 fun hf i' hi' h0 y hy => ?_
  have hag : ag = false := by
   cases h : ag with
   | false => rfl
   | true => rw [ha2 h] at hf; cases hf
  by_cases e : i' = i
  ·subst e
   have h1 := hcl (hP2.le i' hil h0) y hy
   rw [← hP2.no hf y (tZ hy)]; exact h1
  ·exact hc hag i' (by omega) h0 y hy
theorem LC {M1 : Store} {x12 : Value} {n : Nat} {F : Nat → Bool} (h12 : LV iv Ty.b M1 x12 (aj (List.range n))) (hF : LV tv Ty.k M1 x5 (fls n F)) (hn : n ≤ 2 ^ 20) (hQ : ∀ w M, Up M1 M → NV iv Ty.b M1 M w (aj ((List.range n).filter F)) → Q w M) :
    ∀ (d i : Nat) (x14 : Value) (M : Store), d + i = n → Up M1 M → NV iv Ty.b M1 M x14 (aj ((List.range i).filter F)) → cb x5 x12 x14 (iv (i : Int)) M Q := by
 intro d
 induction d with
 | zero =>
  intro i x14 M hi hu hN
  apply pK
  unfold jG
  rw [(h12.up hu).len, ab, ar, List.length_range, ah, ae, if_neg (by omega)]
  apply yP
  unfold pz
  have : i = n := by omega
  subst this
  exact ⟨dL hN.lv, hQ _ _ hu hN⟩
 | succ d ih =>
  intro i x14 M hi hu hN
  have hil : i < n := by omega
  apply pK
  unfold jG
  rw [(h12.up hu).len, ab, ar, List.length_range, ah, ae, if_pos hil]
  apply yO
  unfold py
  have hir : i < (aj (List.range n)).length := by rw [ar, List.length_range]; exact hil
  obtain ⟨p, e1, e2⟩ := (h12.up hu).at hir .i64
  have e3 : (aj (List.range n))[i] = (i : Int) := by simp [aj]
  rw [e3] at e2
  obtain ⟨p', g1, g2⟩ := (hF.up hu).at (i := i) (by rw [uz]; exact hil) .i64
  rw [ya] at g2
  have hfl : ((List.range i).filter F).length ≤ i := by
   have := List.length_filter_le F (List.range i)
   rwa [List.length_range] at this
  rw [e1, ab, e2, ab, g1, ab, g2, ab, av]
  split
  ·rename_i hb
   rw [ab, e2, ab, i1, aW]
   refine NV.app1 (M0 := M1) (Mb := M1) hu (Nat.le_refl _) hu.n hN (i : Int) rfl (by rw [ar]; omega) fun w M' hu' hN' _ _ => ?_
   rw [ai _ (by omega)]
   refine ih (i + 1) w M' (by omega) hu' ?_
   rw [List.range_succ, List.filter_append, List.filter_cons_of_pos hb, List.filter_nil, dK]
   exact hN'
  ·rename_i hb
   rw [ai _ (by omega)]
   refine ih (i + 1) x14 M (by omega) hu ?_
   rw [List.range_succ, List.filter_append, List.filter_cons_of_neg hb, List.filter_nil, List.append_nil]
   exact hN
theorem DV {rs : List RuT} {ns : List (List UInt8)} {j : Nat} (h : j ∈ eD rs ns) : j < rs.length := by
 unfold eD at h
 rw [List.mem_filter, List.mem_range] at h; exact h.1
theorem KW {F F0 : Nat → Bool} {ag : Bool} {M : Store} (o : Mz M0 b vR vD) (hR : RL M0 vR rs) (hD : LV sv Ty.a M0 vD ds) (hs : SmallRs rs) (ho : OkRs [] rs) (hb : ∀ k, k < rs.length → ∀ i ∈ ndN rs k, i < k)
    (hQ : ∀ w M, Up M0 M → NV iv Ty.b M0 M w (aj (jR rs ns)) → Q w M) (hag : ag = false) (hu : Up M0 M) (hF : FlN M0 M x5 rs.length F) (hP : PI rs.length (fS rs ns) F0 F ag) (hcl : ∀ i, i < rs.length → F0 i = true → ∀ y ∈ ndN rs i, F0 y = true) (hbg : ∀ j ∈ eD rs ns, F0 j = true) : bW (pt b) x5 (tv ag) M Q := by
 have hsl := hs.1
 subst hag
 have hFe : (List.range rs.length).filter F = jR rs ns := by
  unfold jR
  apply List.filter_congr
  intro i hi
  have hi := List.mem_range.1 hi
  unfold inL
  cases h : F i with
  | true => rw [decide_eq_true (hP.sd i hi h)]
  | false =>
   rw [decide_eq_false]
   intro hm
   have := Hb ho hbg hcl hm
   rw [← hP.no rfl i hi, h] at this
   cases this
 apply kO
 unfold gJ
 rw [aL]
 apply As
 unfold rl
 rw [(Ob.up o hu).ldA (s := 2) rfl, ab]
 refine (zg (ds := ds) ⟨vR, vD, rfl, hR.up hu, hD.up hu⟩ hs.short hb).mono fun r M1 ⟨u1, w, e, hw⟩ => ?_
 subst e
 rw [(tp2 _ _).1, (tp2 _ _).2]
 refine LC (M1 := M1) (F := F) hw.lv ((NV.lv hF).up u1) (by omega) (fun v M' hu' hN' => ?_) rs.length 0 _ M1 rfl (Ch.refl _ _) NV.nil
 rw [hFe] at hN'
 exact hQ v M' ((hu.trans u1).trans hu') (Nw.base hN' (hu.trans u1).n)
theorem LW (o : Mz M0 b vR vD) (hR : RL M0 vR rs) (hD : LV sv Ty.a M0 vD ds) (hs : SmallRs rs) (ho : OkRs [] rs) (hb : ∀ k, k < rs.length → ∀ i ∈ ndN rs k, i < k)
    (hQ : ∀ w M, Up M0 M → NV iv Ty.b M0 M w (aj (jR rs ns)) → Q w M) :
    ∀ (m : Nat) (F : Nat → Bool) (M : Store), rs.length - cnt rs.length F ≤ m → Up M0 M → FlN M0 M x5 rs.length F → (∀ j, j < rs.length → F j = true → (j : Int) ∈ fS rs ns) → (∀ j ∈ eD rs ns, F j = true) → bW (pt b) x5 (tv true) M Q := by
 have hsl := hs.1
 intro m
 induction m with
 | zero =>
  intro F M hm hu hF hsd hbg
  apply kO
  unfold gJ
  rw [aR]
  refine KV (F0 := F) o hR hD hs ho (fun M2 F2 ag hu2 hF2 hP hcl => ?_) rs.length 0 F false M rfl hu hF ⟨fun _ _ h => h, hsd, fun _ _ _ => rfl, fun h => by cases h⟩ (fun _ i' h => absurd h (Nat.not_lt_zero _))
  have hag : ag = false := by
   cases h : ag with
   | false => rfl
   | true =>
    have h1 := Cd rs.length hP.le (hP.ye h)
    have h2 := Cc rs.length F2
    omega
  exact KW o hR hD hs ho hb hQ hag hu2 hF2 hP (hcl hag) hbg
 | succ m ih =>
  intro F M hm hu hF hsd hbg
  apply kO
  unfold gJ
  rw [aR]
  refine KV (F0 := F) o hR hD hs ho (fun M2 F2 ag hu2 hF2 hP hcl => ?_) rs.length 0 F false M rfl hu hF ⟨fun _ _ h => h, hsd, fun _ _ _ => rfl, fun h => by cases h⟩ (fun _ i' h => absurd h (Nat.not_lt_zero _))
  cases h : ag with
  | false =>
   subst h
   exact KW o hR hD hs ho hb hQ rfl hu2 hF2 hP (hcl rfl) hbg
  | true =>
   have h1 := Cd rs.length hP.le (hP.ye h)
   have h2 := Cc rs.length F2
   exact ih F2 M2 (by omega) hu2 hF2 hP.sd fun j hj => hP.le j (DV hj) (hbg j hj)
theorem EZ {M : Store} {v : Value} (h : MV M v rs ds) (ho : OkRs [] rs) (hs : SmallRs rs) (hb : ∀ k, k < rs.length → ∀ i ∈ ndN rs k, i < k) (h1 : LV sv Ty.a M x1 ns) (hnl : ns.length ≤ 2 ^ 20) (hdl : ds.length ≤ 2 ^ 20) :
    R F.P #[v, x1] M fun w M' => Up M M' ∧ NV iv Ty.b M M' w (aj (jR rs (jN ns ds))) := by
 refine R.cps fun Q hQ => ?_
 obtain ⟨vR, vD, rfl, hR, hD⟩ := h
 have hsl := hs.1
 apply CU
 unfold uS
 rw [bT hR hD, ab]
 refine aq fun M1 u1 o1 n1 => ?_
 have o1 : Mz M1 M.n vR vD := o1
 have hR1 := hR.up u1
 have hD1 : LV sv Ty.a M1 vD ds := hD.up u1
 have main : ∀ (x : Value) (ms : List (List UInt8)), LV sv Ty.a M1 x ms → ms.length ≤ 2 ^ 20 → ms = jN ns ds → eR x (pt M.n) M1 Q := by
  intro x ms hx hml he
  apply Ao
  unfold rh
  rw [bi o1, hR1.len, ab]
  refine yh (x0 := false) (En := tv) (gW false) rfl (by omega) (by decide) fun w M2 u2 h4 _ => ?_
  have hF : FlN M1 M2 w rs.length (kP rs ms 0) := by
   have e : List.replicate rs.length false = fls rs.length (kP rs ms 0) := by
    apply List.ext_getElem
    ·simp [fls]
    ·intro i h1 h2; rw [ya]; simp [kP]
   rw [e] at h4; exact h4
  refine LS (M0 := M1) o1 hR1 hs hx hml (fun M3 hu3 hF3 => ?_) rs.length 0 M2 rfl u2 hF
  apply Ap
  unfold ri
  have hbm : ∀ j, j < rs.length → (kP rs ms rs.length j = true ↔ j ∈ eD rs ms) := fun j hj => by
   unfold kP eD
   rw [decide_eq_true hj, Bool.true_and, List.mem_filter, List.mem_range]
   exact ⟨fun h => ⟨hj, h⟩, fun h => h.2⟩
  refine LW (M0 := M1) (ns := ms) o1 hR1 hD1 hs ho hb (fun v M' hu hN => hQ _ _ ⟨u1.trans hu, ?_⟩) rs.length (kP rs ms rs.length) M3 (by omega) hu3 hF3 (fun j hj h => Ec ho ((hbm j hj).1 h)) (fun j hj => (hbm j (DV hj)).2 hj)
  rw [← he]
  exact Nw.base hN u1.n
 rw [h1.len, ab, bR 0 0 rfl, ae]
 split
 ·rename_i h0
  rw [Kz o1]
  exact main vD ds hD1 hdl (by unfold jN; rw [if_pos (List.length_eq_zero_iff.1 h0)])
 ·rename_i h0
  exact main x1 ns (h1.up u1) hnl (by unfold jN; rw [if_neg fun e => h0 (by rw [e]; rfl)])
end
end Go.G
