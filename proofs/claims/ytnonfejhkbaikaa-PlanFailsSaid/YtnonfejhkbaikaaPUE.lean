/- ... -/
import Derived.Test.YtnonfejhkbaikaaPGD
import Derived.Test.YtnonfejhkbaikaaPN0
import Derived.Test.YtnonfejhkbaikaaPKE
import Derived.Test.YtnonfejhkbaikaaPUV
namespace Go.G
open Go.Ab Go.Proofs Go.RowKit
set_option linter.unusedVariables false
set_option linter.unusedSimpArgs false
set_option maxRecDepth 100000
theorem wy (x : Int) : al (.int .i64 0) 1 1 [(0, iv x)] = some [iv x] := by kernel_rfl
theorem wQ {M0 : Store} {x0 : Value} {xs : List Int} (hx : LV iv Ty.b M0 x0 xs) (hl : xs.length ≤ 2 ^ 26) {b : Nat} (hb0 : M0.n ≤ b) {Q : Value → Store → Prop}
    (hQ : ∀ v M', Up M0 M' → NV iv Ty.b M0 M' v (unl xs) → (∀ q, bx v = some q → M0.n ≤ q ∧ q < M'.n) → Q v M') : ∀ (d i : Nat) (M : Store) (v : Value) (acc : List Int), d + i = xs.length → Up M0 M → NV iv Ty.b M0 M v acc →
     Mp iv M b (fun k => if k ∈ acc then some (iv 1) else none) → co acc (xs.drop i) = unl xs → acc.length ≤ i → (∀ q, bx v = some q → M0.n ≤ q ∧ q < M.n) → aU (.map (some b)) v x0 (iv xs.length) (iv i) M Q := by
 intro d
 induction d with
 | zero =>
  intro i M v acc hi hu hN hm ha _ hbx
  apply iU
  unfold eX
  rw [aQ, ae, if_neg (by omega)]
  apply qB
  rw [List.drop_of_length_le (by omega)] at ha
  exact ⟨eI hN.sl, hQ _ _ hu (ha ▸ hN) hbx⟩
 | succ d ih =>
  intro i M v acc hi hu hN hm ha hal hbx
  apply iU
  unfold eX
  rw [aQ, ae, if_pos (by omega)]
  apply qz
  unfold iS
  obtain ⟨p, h1, h2⟩ := (hx.up hu).at (i := i) (by omega) .i64
  rw [List.drop_eq_getElem_cons (by omega)] at ha
  generalize xs[i]'(by omega) = k at *
  rw [h1, ab, h2, ab, hm.look dD, ab, D5, ab, D6, ab]
  have hs : (if k ∈ acc then some (iv 1) else none).isSome = decide (k ∈ acc) := by by_cases h : k ∈ acc <;> simp [h]
  rw [hs, aM, au]
  simp only [co] at ha
  split
  ·rename_i hk
   have hk' : k ∉ acc := by simpa using hk
   rw [if_neg hk'] at ha
   obtain ⟨M1, e1, hm1, hc1, hk1⟩ := hm.put dD k (sN 1)
   rw [e1, ab, wy, ab, aY]
   have hu1 : Up M0 M1 := hu.ch hc1 (by simpa using hb0)
   refine NV.app1 hu1 (Nat.le_refl _) hu1.n (Nw.keepI hN hk1) k rfl (by omega) fun v' M' hu' hN' hc' hn' => ?_
   obtain ⟨b', hb1, hb2, hb3⟩ := hn'
   rw [eB, w64 (by omega) (by omega)]
   refine ih (i + 1) M' v' (acc ++ [k]) (by omega) hu' hN' ?_ ha (by simp; omega) fun q hq => by rw [hb1] at hq; injection hq with hq; have := hu1.n; omega
   have := hm1.app (Nw.keepI hN hk1) hc'
   refine cast ?_ this
   congr 1
   funext q
   by_cases hq : q = k <;> simp [hq]
  ·rename_i hk
   have hk' : k ∈ acc := by simpa using hk
   rw [if_pos hk'] at ha
   rw [eB, w64 (by omega) (by omega)]
   exact ih (i + 1) M v acc (by omega) hu hN hm ha (by omega) hbx
theorem oT {M : Store} {x0 : Value} {xs : List Int} (hx : LV iv Ty.b M x0 xs) (hl : xs.length ≤ 2 ^ 26) :
    R F.f #[x0] M fun v M' => Up M M' ∧ NV iv Ty.b M M' v (unl xs) ∧ ∀ q, bx v = some q → M.n ≤ q ∧ q < M'.n := by
 apply tj
 unfold kj
 rw [aY, hx.len, ab]
 exact wQ hx hl (Nat.le_refl _) (fun v M' h1 h2 h3 => ⟨h1, h2, h3⟩) xs.length 0 _ _ [] (by omega) (Up.push _ _) NV.nil (by simpa using Mp.new M) rfl (Nat.le_refl _) fun q hq => by cases hq
theorem y3 {M : Store} {x0 : Value} {xs : List Int} (hx : LV iv Ty.b M x0 xs) (hl : xs.length ≤ 2 ^ 26) :
    R F.f #[x0] M fun v M' => Up M M' ∧ NV iv Ty.b M M' v (unl xs) := (oT hx hl).mono fun v M' ⟨h1, h2, _⟩ => ⟨h1, h2⟩
end Go.G

namespace Go.G
open Go.Ab Go.Proofs Go.RowKit
set_option linter.unusedVariables false
set_option linter.unusedSimpArgs false
set_option maxRecDepth 100000
def plc (o : Option Nat) : Int := match o with
 | some i => i
 | none => -1
theorem qC {M0 : Store} {x0 g : Value} {xs : List Int} (hx : LV iv Ty.b M0 x0 xs) (hb : xs.length ≤ 2 ^ 40) (p : Int → Bool)
    (hg : ∀ M', Up M0 M' → ∀ x ∈ xs, KC g [iv x] M' fun v M'' => Up M' M'' ∧ v = tv (p x)) {Q : Value → Store → Prop} (hQ : ∀ M', Up M0 M' → Q (iv (plc (xs.findIdx? p))) M') :
    ∀ (d i : Nat) (M : Store), d + i = xs.length → Up M0 M → (∀ j, j < i → ∀ h : j < xs.length, p xs[j] = false) → cK x0 g (iv xs.length) (iv i) M Q := by
 intro d
 induction d with
 | zero =>
  intro i M hi hu hf
  apply mY
  unfold ix
  rw [aQ, ae, if_neg (by omega)]
  apply we
  have : xs.findIdx? p = none := by
   rw [List.findIdx?_eq_none_iff]
   intro x hm
   obtain ⟨j, hj, rfl⟩ := List.getElem_of_mem hm
   exact hf j (by omega) hj
  have hQ' := hQ M hu
  rw [this] at hQ'
  exact ⟨rfl, hQ'⟩
 | succ d ih =>
  intro i M hi hu hf
  apply mY
  unfold ix
  obtain ⟨q, h1, h2⟩ := (hx.up hu).at (i := i) (by omega) .i64
  rw [aQ, ae, if_pos (by omega), h1, ab, h2, ab]
  refine fU (hg M hu _ (List.getElem_mem (by omega))) fun v M1 ⟨hu1, hv⟩ => ?_
  subst hv
  rw [au]
  split
  ·rename_i hp
   have : xs.findIdx? p = some i := by
    rw [List.findIdx?_eq_some_iff_getElem]
    exact ⟨by omega, hp, fun j hj => by simpa using hf j hj (by omega)⟩
   have hQ' := hQ M1 (hu.trans hu1)
   rw [this] at hQ'
   exact ⟨rfl, hQ'⟩
  ·rename_i hp
   rw [eB, w64 (by omega) (by omega)]
   refine ih (i + 1) M1 (by omega) (hu.trans hu1) fun j hj h => ?_
   by_cases e : j = i
   ·subst e; simpa using hp
   ·exact hf j (by omega) h
theorem uv {M : Store} {x0 g : Value} {xs : List Int} (hx : LV iv Ty.b M x0 xs) (hb : xs.length ≤ 2 ^ 40) (p : Int → Bool)
    (hg : ∀ M', Up M M' → ∀ x ∈ xs, KC g [iv x] M' fun v M'' => Up M' M'' ∧ v = tv (p x)) :
    R F.y #[x0, g] M fun v M' => Up M M' ∧ v = iv (plc (xs.findIdx? p)) := by
 apply yW
 unfold qk
 rw [hx.len, ab]
 exact qC hx hb p hg (fun M' h => ⟨h, rfl⟩) xs.length 0 M rfl (Ch.refl _ _) fun j h => by omega
theorem eT {M : Store} {x0 g : Value} {xs : List Int} (hx : LV iv Ty.b M x0 xs) (hb : xs.length ≤ 2 ^ 40) (p : Int → Bool)
    (hg : ∀ M', Up M M' → ∀ x ∈ xs, KC g [iv x] M' fun v M'' => Up M' M'' ∧ v = tv (p x)) :
    R F.h #[x0, g] M fun v M' => Up M M' ∧ v = tv (xs.any p) := by
 apply uz
 unfold l8
 refine (uv hx hb p hg).mono fun v M1 ⟨hu, hv⟩ => ?_
 subst hv
 rw [ta]
 refine ⟨rfl, hu, ?_⟩
 congr 1
 cases h : xs.findIdx? p with
 | none =>
  have : xs.any p = false := by
   rw [List.any_eq_false]
   rw [List.findIdx?_eq_none_iff] at h
   intro x hx; simpa using h x hx
  rw [this]; simp [plc]
 | some i =>
  have : xs.any p = true := by
   rw [List.findIdx?_eq_some_iff_getElem] at h
   obtain ⟨h1, h2, _⟩ := h
   rw [List.any_eq_true]
   exact ⟨_, List.getElem_mem h1, h2⟩
  rw [this]; simp [plc]
abbrev LI (M : Store) (v : Value) (nss : List (List Int)) : Prop := Ls (LV iv Ty.b) Ty.i M v nss
theorem LV.up' {α : Type} {En : α → Value} {e : TypeId} (M M' : Store) (v : Value) (x : List α) (h : LV En e M v x) (k : Up M M') : LV En e M' v x := Sl.up h k
theorem DK {M : Store} {y : Value} {ds : List Bool} {b : Nat} (hb : Ob M b [y] Ty.r) (hy : LV tv Ty.j M y ds) {j : Int} (h0 : 0 ≤ j) (h1 : j < ds.length) :
    R F.d #[iv j, .pointer (some ⟨b, 0, none⟩)] M fun v M' => M' = M ∧ v = tv (!ds.getD j.toNat false) := by
 apply xf
 unfold oj
 rw [hb.ld (v := y) rfl, ab]
 obtain ⟨q, g1, g2⟩ := hy.at (i := j.toNat) (by omega) .i64
 have e : ((j.toNat : Nat) : Int) = j := by omega
 rw [e] at g1
 rw [g1, ab, g2, ab, aM]
 refine ⟨rfl, rfl, ?_⟩
 rw [List.getD_eq_getElem?_getD, List.getElem?_eq_getElem (by omega)]; rfl
theorem Ff {M0 : Store} {x y : Value} {nss : List (List Int)} {ds : List Bool} (hx : LI M0 x nss) (hy : LV tv Ty.j M0 y ds) (hl : nss.length = ds.length) (hb : nss.length ≤ 2 ^ 26)
    (hr : ∀ ns ∈ nss, ns.length ≤ 2 ^ 40 ∧ ∀ j ∈ ns, 0 ≤ j ∧ j < ds.length) {b : Nat} {Q : Value → Store → Prop} (hQ : ∀ M', Up M0 M' → Q (iv (plc (pL nss ds))) M') :
    ∀ (d i : Nat) (M : Store), d + i = nss.length → Up M0 M → Ob M b [y] Ty.r → (∀ j, j < i → okI nss ds j = false) → bW (.pointer (some ⟨b, 0, none⟩)) x (iv nss.length) (iv i) M Q := by
 intro d
 induction d with
 | zero =>
  intro i M hi hu hob hf
  apply qn
  unfold j5
  rw [aQ, ae, if_neg (by omega)]
  apply yJ
  have : pL nss ds = none := by
   unfold pL
   rw [List.find?_eq_none]
   intro j hj
   rw [List.mem_range] at hj
   simpa using hf j (by omega)
  have hQ' := hQ M hu
  rw [this] at hQ'
  exact ⟨rfl, hQ'⟩
 | succ d ih =>
  intro i M hi hu hob hf
  apply qn
  unfold j5
  rw [aQ, ae, if_pos (by omega)]
  apply yI
  unfold p5
  obtain ⟨p, w, h1, h2, h3⟩ := (hx.up LV.up' hu).at (i := i) (by omega) .i64
  have hy' := hy.up hu
  obtain ⟨q, g1, g2⟩ := hy'.at (i := i) (by omega) .i64
  rw [h1, ab, h2, ab, hob.ld (v := y) rfl, ab, g1, ab, g2, ab, aM, au]
  have hdi : ds.getD i false = ds[i]'(by omega) := by rw [List.getD_eq_getElem?_getD, List.getElem?_eq_getElem (by omega)]; rfl
  have hni : nss.getD i [] = nss[i]'(by omega) := by rw [List.getD_eq_getElem?_getD, List.getElem?_eq_getElem (by omega)]; rfl
  have hnext : ∀ M', Up M0 M' → Ob M' b [y] Ty.r → okI nss ds i = false → OP (ad .add (iv i) (iv 1)) fun t => bW (.pointer (some ⟨b, 0, none⟩)) x (iv nss.length) t M' Q := by
   intro M' hu' hob' hno
   rw [eB, w64 (by omega) (by omega)]
   refine ih (i + 1) M' (by omega) hu' hob' fun j hj => ?_
   by_cases e : j = i
   ·subst e; exact hno
   ·exact hf j (by omega)
  split
  ·rename_i hd
   have hd' : ds[i]'(by omega) = false := by simpa using hd
   have hm := List.getElem_mem (show i < nss.length by omega)
   obtain ⟨hlen, hjs⟩ := hr _ hm
   show OP (mkF (.func F.d) [] [.pointer (some ⟨b, 0, none⟩)]) _
   have hmk : mkF (.func F.d) [] [.pointer (some ⟨b, 0, none⟩)] = some (.func (.func F.d) #[] #[.pointer (some ⟨b, 0, none⟩)]) := rfl
   rw [hmk, ab]
   refine (eT h3 hlen (fun j => !ds.getD j.toNat false) fun M' hu' j hj => ?_).mono fun v M1 ⟨hu1, hv⟩ => ?_
   ·show R F.d #[iv j, .pointer (some ⟨b, 0, none⟩)] M' _
    exact (DK (hob.up hu') (hy'.up hu') (hjs j hj).1 (hjs j hj).2).mono fun v M'' ⟨e1, e2⟩ => ⟨e1 ▸ Ch.refl _ _, e2⟩
   ·subst hv
    have hall : (!(nss[i]'(by omega)).any fun j => !ds.getD j.toNat false) = (nss.getD i []).all fun j => ds.getD j.toNat false := by
     rw [hni, List.not_any_eq_all_not]
     simp
    rw [aM, au, hall]
    split
    ·rename_i hal
     have hok : okI nss ds i = true := by unfold okI; rw [hdi, hd', hal]; rfl
     have : pL nss ds = some i := by
      unfold pL
      rw [List.find?_range_eq_some]
      exact ⟨hok, by simp; omega, fun j hj => by simpa using hf j hj⟩
     have hQ' := hQ M1 (hu.trans hu1)
     rw [this] at hQ'
     exact ⟨rfl, hQ'⟩
    ·rename_i hal
     refine hnext M1 (hu.trans hu1) (hob.up hu1) ?_
     unfold okI
     have hal' : ((nss.getD i []).all fun j => ds.getD j.toNat false) = false := by simpa using hal
     rw [hal', Bool.and_false]
  ·rename_i hd
   refine hnext M hu hob ?_
   unfold okI
   have : ds[i]'(by omega) = true := by simpa using hd
   rw [hdi, this]; rfl
theorem HJ {M : Store} {x y : Value} {nss : List (List Int)} {ds : List Bool} (hx : LI M x nss) (hy : LV tv Ty.j M y ds) (hl : nss.length = ds.length) (hb : nss.length ≤ 2 ^ 26)
    (hr : ∀ ns ∈ nss, ns.length ≤ 2 ^ 40 ∧ ∀ j ∈ ns, 0 ≤ j ∧ j < ds.length) : R F.K #[x, y] M fun v M' => Up M M' ∧ v = iv (plc (pL nss ds)) := by
 apply Bd
 unfold tx
 obtain ⟨a, c, rfl⟩ := hy.slice
 have hbx : aX (.slice a ds.length c) = some [.slice a ds.length c] := by kernel_rfl
 rw [hbx, ab, aY, hx.lenV, ab]
 exact Ff (hx.up LV.up' (Up.push M _)) (hy.up (Up.push M _)) hl hb hr (fun M' h => ⟨Ch.up (Up.push M _) h, rfl⟩) nss.length 0 _ rfl (Ch.refl _ _) (Ob.new M _ _) fun j h => by omega
end Go.G

namespace Go.G
open Go.Ab Go.Proofs Go.RowKit
set_option linter.unusedVariables false
set_option linter.unusedSimpArgs false
set_option maxRecDepth 100000
theorem ze {M0 : Store} {x0 g : Value} {l : List Int} (hx : LV iv Ty.b M0 x0 l) (hn : l.Nodup) (hl : l.length ≤ 2 ^ 20) {b : Nat} (hb0 : M0.n ≤ b) {Q : Value → Store → Prop}
    (hQ : ∀ M, Up M0 M → Mp iv M b (atF l) → du x0 g (.map (some b)) M Q) : ∀ (d i : Nat) (M : Store), d + i = l.length → Up M0 M → Mp iv M b (atF (l.take i)) →
     bE x0 g (.map (some b)) x0 (iv l.length) (iv i) M Q := by
 intro d
 induction d with
 | zero =>
  intro i M hi hu hm
  apply jJ
  unfold fy
  rw [aQ, ae, if_neg (by omega)]
  rw [List.take_of_length_le (by omega)] at hm
  exact hQ M hu hm
 | succ d ih =>
  intro i M hi hu hm
  apply jJ
  unfold fy
  obtain ⟨p, h1, h2⟩ := (hx.up hu).at (i := i) (by omega) .i64
  rw [aQ, ae, if_pos (by omega), h1, ab, h2, ab]
  obtain ⟨M1, e1, hm1, hc1, hk1⟩ := hm.put dD (l[i]'(by omega)) (sN i)
  rw [e1, ab, eB, w64 (by omega) (by omega)]
  refine ih (i + 1) M1 (by omega) (hu.ch hc1 (by simpa using hb0)) (cast ?_ hm1)
  have hni : l[i]'(by omega) ∉ l.take i := fun hm => by
   obtain ⟨j, hj, he⟩ := List.getElem_of_mem hm
   rw [List.getElem_take] at he
   have := (List.getElem_inj hn).1 he
   simp at hj; omega
  have hll : (l.take i).length = i := by simp; omega
  rw [List.take_succ_eq_append_getElem (by omega), F4 hni, hll]
theorem wH : Ty.b ≠ Ty.i := by decide
theorem AM : Ty.b ≠ Ty.j := by decide
theorem yF {M0 Mn Mi : Store} (h0n : M0.n ≤ Mn.n) {x0 g x9 t45 : Value} {l ys : List Int} (hl : l.length ≤ 2 ^ 20) (hx : LV iv Ty.b Mi x0 l) (hys : LV iv Ty.b Mi t45 ys) (hyl : ys.length ≤ 2 ^ 20)
    {b : Nat} (hm : Mp iv Mi b (atF l)) {n i : Nat} (hi : i < n) (hin : n ≤ 2 ^ 20) {vs : List Value} {bN : Nat} (hbx : bx x9 = some bN) {cells : List Value} (hob : Ob Mi bN cells Ty.i) (hbN : Mn.n ≤ bN) {Q : Value → Store → Prop}
    (hQ : ∀ M w, Up M0 M → Ch [bN] Mi M → Nw 1 Ty.i Mn M x9 n (vs.set i w) → NV iv Ty.b Mi M w (fj l ys) →
     dy x0 g (.map (some b)) x9 x0 (iv l.length) (iv i) M Q) :
    ∀ (d k : Nat) (M : Store) (w : Value), d + k = ys.length → Up M0 M → Ch [bN] Mi M → Nw 1 Ty.i Mn M x9 n (vs.set i w) → NV iv Ty.b Mi M w (fj l (ys.take k)) → vs.length = n →
     ba x0 g (.map (some b)) x9 (iv i) x0 (iv l.length) (iv i) t45 (iv ys.length) (iv k) M Q := by
 intro d
 induction d with
 | zero =>
  intro k M w hk hu hc hN hw _
  apply jL
  unfold fA
  rw [aQ, ae, if_neg (by omega)]
  rw [List.take_of_length_le (by omega)] at hw
  exact hQ M w hu hc hN hw
 | succ d ih =>
  intro k M w hk hu hc hN hw hvs
  apply jL
  unfold fA
  rw [aQ, ae, if_pos (by omega)]
  apply rF
  unfold jC
  have hK := hc.keepT hob
  obtain ⟨p, h1, h2⟩ := LV.at (hys.keep wH hK) (i := k) (by omega) .i64
  rw [h1, ab, h2, ab, (hm.keep hK).look dD, ab, D5, ab, D6, ab, au]
  by_cases hin' : ys[k]'(by omega) ∈ l
  ·rw [Iy hin', if_pos (by rfl)]
   have htk := Gl l ys (by omega) hin'
   obtain ⟨p3, _, b3, h3, h4, _, _, h5, _⟩ := hN.put1 hi .i64 (w := w) (by obtain ⟨a, c, rfl⟩ := hw.sl.slice; exact bQ _ _ _) (by obtain ⟨a, c, rfl⟩ := hw.sl.slice; exact gG _ _ _)
   have hw4 : (vs.set i w).getD i undef = w := by rw [List.getD_eq_getElem?_getD, List.getElem?_set_self (by omega)]; rfl
   rw [hw4] at h4
   rw [h3, ab, h4, ab, Option.getD_some, wy, ab, aY]
   have hlw : (fj l (ys.take k)).length ≤ 2 ^ 20 := Nat.le_trans (AN _ _) (by simp; omega)
   have h0i : M0.n ≤ Mi.n := Nat.le_trans h0n (by have := hob.lt; omega)
   refine NV.app1 hu h0i hc.n hw _ rfl (by omega) fun w2 M2 hu2 hw2 hc2 hn2 => ?_
   have hk2 : Keep Ty.b M M2 := Nw.keepE hw hc2
   have hN2 := hN.keep (by decide) hk2
   obtain ⟨p4, M3, b4, h6, _, h7, hN3, h8, _, _, hc3⟩ := hN2.put1 hi .i64 (w := w2) (by obtain ⟨a, c, rfl⟩ := hw2.sl.slice; exact bQ _ _ _) (by obtain ⟨a, c, rfl⟩ := hw2.sl.slice; exact gG _ _ _)
   rw [hbx] at h8; injection h8 with h8; subst h8
   rw [h3] at h6; injection h6 with h6; subst h6
   rw [ab, h7, ab, eB, w64 (by omega) (by omega)]
   have hob2 : ∃ cells2, Ob M2 bN cells2 Ty.i := by
    obtain ⟨_, ⟨h9, a, rfl, _⟩ | ⟨b5, cs, c, rfl, _, h10, _⟩⟩ := hN2
    ·omega
    ·simp only [bx, Option.some.injEq] at hbx; subst hbx; exact ⟨_, h10⟩
   obtain ⟨cells2, hob2⟩ := hob2
   have hk3 := hc3.keepT hob2
   refine ih (k + 1) M3 w2 (by omega) (hu2.ch hc3 (by simp; omega)) ?_ ?_ ?_ hvs
   ·refine (hc.trans' hc2 fun q hq => .inr (Nw.bx_in hw (mo.1 hq)).1).trans hc3
   ·rw [List.set_set] at hN3; exact hN3
   ·rw [htk]; exact hw2.keep (by decide) hk3
  ·rw [Hm hin', if_neg (by simp)]
   have htk := Fc l ys (by omega) hin'
   rw [eB, w64 (by omega) (by omega)]
   exact ih (k + 1) M w (by omega) hu hc hN (htk ▸ hw) hvs
theorem wW {M0 Mn : Store} (h0n : M0.n ≤ Mn.n) {x0 g x9 : Value} {l : List Int} (hl : l.length ≤ 2 ^ 20) (A : Int → List Int)
    (hA : ∀ M', Up M0 M' → ∀ x ∈ l, KC g [iv x] M' fun v M'' => Up M' M'' ∧ LV iv Ty.b M'' v (A x)) (hAl : ∀ x ∈ l, (A x).length ≤ 2 ^ 20)
    {b bN : Nat} (hbx : bx x9 = some bN) (hbN : Mn.n ≤ bN) {Q : Value → Store → Prop}
    (hQ : ∀ M, Up M0 M → LV iv Ty.b M x0 l → LI M x9 (cD l A) → dw x0 x9 M Q) :
    ∀ (d i : Nat) (M : Store) (vs : List Value), d + i = l.length → Up M0 M → LV iv Ty.b M x0 l → Mp iv M b (atF l) → Nw 1 Ty.i Mn M x9 l.length vs → vs.length = l.length →
     (∀ j (h : j < l.length), j < i → LV iv Ty.b M (vs.getD j undef) (fj l (A l[j]))) → (∀ j, i ≤ j → j < l.length → vs.getD j undef = .slice none 0 0) →
     bF x0 g (.map (some b)) x9 x0 (iv l.length) (iv i) M Q := by
 intro d
 induction d with
 | zero =>
  intro i M vs hi hu hx hm hN hvs he _
  apply jK
  unfold fz
  rw [aQ, ae, if_neg (by omega)]
  refine hQ M hu hx ⟨vs, ?_, ?_⟩
  ·have : (cD l A).length = l.length := by simp [cD]
   rw [this]; exact hN.sl
  ·refine Each.of (by simp [cD]; omega) fun j h1 h2 => ?_
   have := he j (by omega) (by omega)
   rw [List.getD_eq_getElem?_getD, List.getElem?_eq_getElem h1] at this
   simpa [cD] using this
 | succ d ih =>
  intro i M vs hi hu hx hm hN hvs he hnil
  apply jK
  unfold fz
  obtain ⟨p, h1, h2⟩ := hx.at (i := i) (by omega) .i64
  have hmem : l[i]'(by omega) ∈ l := List.getElem_mem (by omega)
  rw [aQ, ae, if_pos (by omega), h1, ab, h2, ab]
  refine fU (hA M hu _ hmem) fun t45 Mi ⟨hui, hys⟩ => ?_
  rw [hys.len, ab]
  have hNi := Nw.up hN hui
  have hob : ∃ cells, Ob Mi bN cells Ty.i := by
   obtain ⟨_, ⟨h9, a, rfl, _⟩ | ⟨b5, cs, c, rfl, _, h10, _⟩⟩ := hNi
   ·omega
   ·simp only [bx, Option.some.injEq] at hbx; subst hbx; exact ⟨_, h10⟩
  obtain ⟨cells, hob⟩ := hob
  have hself : vs.set i (.slice none 0 0) = vs := by
   have := hnil i (Nat.le_refl _) (by omega)
   rw [List.getD_eq_getElem?_getD, List.getElem?_eq_getElem (by omega)] at this
   simp only [Option.getD_some] at this
   rw [← this, List.set_getElem_self]
  refine yF h0n hl (hx.up hui) hys (hAl _ hmem) (hm.up hui) (n := l.length) (i := i) (by omega) hl (vs := vs) hbx hob hbN ?_ (A (l[i]'(by omega))).length 0 Mi (.slice none 0 0) rfl (hu.trans hui) (Ch.refl _ _) (by rw [hself]; exact hNi) NV.nil hvs
  intro M3 w hu3 hc3 hN3 hw3
  apply rG
  unfold jD
  rw [eB, w64 (by omega) (by omega)]
  have hK := hc3.keepT hob
  refine ih (i + 1) M3 (vs.set i w) (by omega) hu3 ((hx.up hui).keep wH hK) ((hm.up hui).keep hK) hN3 (by simpa using hvs) ?_ ?_
  ·intro j h hj
   by_cases e : j = i
   ·subst e
    rw [List.getD_eq_getElem?_getD, List.getElem?_set_self (by omega)]
    exact hw3.lv
   ·rw [List.getD_eq_getElem?_getD, List.getElem?_set_ne (by omega), ← List.getD_eq_getElem?_getD]
    exact ((he j h (by omega)).up hui).keep (by decide) hK
  ·intro j h1 h2
   rw [List.getD_eq_getElem?_getD, List.getElem?_set_ne (by omega), ← List.getD_eq_getElem?_getD]
   exact hnil j (by omega) h2
theorem wV {M0 Mo : Store} (h0o : M0.n ≤ Mo.n) {x0 x9 x16 : Value} {l : List Int} (hn : l.Nodup) (hl : l.length ≤ 2 ^ 20) (A : Int → List Int) (hAl : ∀ x ∈ l, (A x).length ≤ 2 ^ 20) (hx : LV iv Ty.b Mo x0 l) (hN : LI Mo x9 (cD l A))
    {Md : Store} {bD : Nat} (hbx : bx x16 = some bD) {cells : List Value} (hob : Ob Mo bD cells Ty.j) (h0D : M0.n ≤ bD) {Q : Value → Store → Prop}
    (hQ : ∀ v M, Up M0 M → NV iv Ty.b Mo M v ((mt l A l.length []).getD []) → Q (.tuple #[v, tv (mt l A l.length []).isSome]) M) :
    ∀ (k i : Nat) (M : Store) (x17 : Value) (d : List Int), k + i = l.length → d.length = i → Up M0 M → Ch [bD] Mo M → NV tv Ty.j Md M x16 (dnF l d) → NV iv Ty.b Mo M x17 d → mt l A k d = mt l A l.length [] →
     bG x0 x9 x16 x17 (iv l.length) (iv i) M Q := by
 intro k
 induction k with
 | zero =>
  intro i M x17 d hi hd hu hc hD hO ho
  apply fC
  unfold dB
  rw [aQ, ae, if_neg (by omega)]
  apply iT
  have := hQ x17 M hu
  rw [← ho] at this
  obtain ⟨a, c, rfl⟩ := hO.sl.slice
  exact ⟨rfl, this hO⟩
 | succ k ih =>
  intro i M x17 d hi hd hu hc hD hO ho
  apply fC
  unfold dB
  rw [aQ, ae, if_pos (by omega)]
  apply rH
  unfold jE
  have hK := hc.keepT hob
  have hEk : ∀ (M M' : Store) (v : Value) (x : List Int), LV iv Ty.b M v x → Keep Ty.j M M' → LV iv Ty.b M' v x := fun _ _ _ _ h k => Sl.keep h (by decide) k
  have hdl : (dnF l d).length = l.length := by simp [dnF]
  refine (HJ (hN.keep hEk (by decide) hK) hD.lv (by simp [cD, dnF]) (by simp [cD]; omega) fun ns hns => ?_).mono fun v M1 ⟨hu1, hv⟩ => ?_
  ·have := Fe hns hAl
   rw [hdl]; exact this
  subst hv
  rw [aQ, ae]
  have hx1 := HK l A d
  simp only [mt] at ho
  cases hnx : pL (cD l A) (dnF l d) with
  | none =>
   rw [hnx] at hx1
   simp only at hx1
   rw [hx1] at ho
   have h4 : plc none < 0 := by decide
   rw [if_pos h4]
   have := hQ (.slice none 0 0) M1 (hu.trans hu1)
   rw [← ho] at this
   exact ⟨rfl, this NV.nil⟩
  | some j =>
   rw [hnx] at hx1
   obtain ⟨hj, hx1⟩ := hx1
   rw [hx1] at ho
   have hp : plc (some j) = (j : Int) := rfl
   rw [hp, if_neg (by omega)]
   have hD1 := Nw.up hD hu1
   rw [hdl] at hD1
   obtain ⟨p2, M2, b2, e1, _, e2, hD2, hb2, _, _, hc2⟩ := hD1.put1 hj .i64 (mf true) (DN true)
   rw [hbx] at hb2; injection hb2 with hb2; subst hb2
   have hcM1 : Ch [bD] Mo M1 := hc.up hu1
   have hcM2 : Ch [bD] Mo M2 := hcM1.trans hc2
   have hob1 : ∃ cells1, Ob M1 bD cells1 Ty.j := by
    obtain ⟨_, ⟨h9, a, rfl, _⟩ | ⟨b5, cs, c, rfl, _, h10, _⟩⟩ := hD1
    ·omega
    ·simp only [bx, Option.some.injEq] at hbx; subst hbx; exact ⟨_, h10⟩
   obtain ⟨cells1, hob1⟩ := hob1
   obtain ⟨p3, e3, e4⟩ := LV.at (hx.keep AM (hcM2.keepT hob)) hj .i64
   rw [e1, ab, e2, ab, e3, ab, e4, ab, wy, ab, aY]
   have hu2 : Up M0 M2 := Up.ch (hu.trans hu1) hc2 (by simpa using h0D)
   have hO2 : NV iv Ty.b Mo M2 x17 d := (Nw.up hO hu1).keep AM (hc2.keepT hob1)
   refine NV.app1 hu2 h0o hcM2.n hO2 (l[j]) rfl (by omega) fun v3 M3 hu3 hO3 hc3 hn3 => ?_
   rw [eB, w64 (by omega) (by omega)]
   refine ih (i + 1) M3 v3 (d ++ [l[j]]) (by omega) (by simp; omega) hu3 ?_ ?_ hO3 ho
   ·exact hcM2.trans' hc3 fun q hq => .inr (Nw.bx_in hO2 (mo.1 hq)).1
   ·have e5 : (dnF l d).set j true = dnF l (d ++ [l[j]]) := Hu hn hj
    have h6 : NV tv Ty.j Md M2 x16 (dnF l (d ++ [l[j]])) := by
     rw [← e5]
     have : ((dnF l d).map tv).set j (tv true) = ((dnF l d).set j true).map tv := by rw [List.map_set]
     unfold NV
     rw [← this, List.length_set, hdl]; exact hD2
    exact h6.keep (by decide) (Nw.keepE hO2 hc3)
theorem zf {M : Store} {x0 g : Value} {xs : List Int} (hx : LV iv Ty.b M x0 xs) (hl : xs.length ≤ 2 ^ 20) (A : Int → List Int)
    (hA : ∀ M', Up M M' → ∀ x ∈ xs, KC g [iv x] M' fun v M'' => Up M' M'' ∧ LV iv Ty.b M'' v (A x)) (hAl : ∀ x ∈ xs, (A x).length ≤ 2 ^ 20) :
    R F.o #[x0, g] M fun r M' => Up M M' ∧ ∃ v, r = .tuple #[v, tv (mt (unl xs) A (unl xs).length []).isSome] ∧ NV iv Ty.b M M' v ((mt (unl xs) A (unl xs).length []).getD []) := by
 refine R.cps fun Q hQ => ?_
 apply ux
 unfold lF
 refine (y3 hx (by omega)).mono fun t20 M1 ⟨hu1, h1⟩ => ?_
 have hlen := wP xs
 have hnd := yy xs
 have hmem := xH xs
 generalize unl xs = l at *
 rw [aY, h1.lv.len, ab]
 refine ze (M0 := M1) h1.lv hnd (by omega) (Nat.le_refl _) (fun M2 hu2 hm2 => ?_) l.length 0 _ rfl (Up.push _ _) (by rw [List.take_zero, Hl]; exact Mp.new M1)
 apply rD
 unfold jA
 have h2 := h1.lv.up hu2
 rw [h2.len, ab]
 refine AL (En := id) (x0 := .slice none 0 0) (bQ none 0 0) rfl (by omega) (by omega) fun x9 M3 hu3 hN3 hb3 => ?_
 rw [ab]
 have hu02 : Up M M2 := hu1.trans hu2
 have hN3' : Nw 1 Ty.i M2 M3 x9 l.length (List.replicate l.length (.slice none 0 0)) := by simpa [NV] using hN3
 refine wW (M0 := M) (Mn := M2) hu02.n (by omega) A (fun M' hu' x hx' => hA M' hu' x ((hmem x).1 hx')) (fun x hx' => hAl x ((hmem x).1 hx')) hb3 (Nat.le_refl _) (fun M5 hu5 h5 hN5 => ?_) l.length 0 M3 _ rfl (hu02.trans hu3) (h2.up hu3) (hm2.up hu3) hN3' (by simp) (fun j h hj => by omega) fun j _ h => ?_
 ·apply rE
  unfold jB
  rw [h5.len, ab]
  refine AL (En := tv) (x0 := false) (mf false) rfl (by omega) (by omega) fun x16 M6 hu6 hD6 hb6 => ?_
  rw [ab]
  have hD6' : NV tv Ty.j M5 M6 x16 (dnF l []) := by
   have : dnF l [] = List.replicate l.length false := by
    rw [List.eq_replicate_iff]; simp [dnF]
   rw [this]; exact hD6
  by_cases h0 : l.length = 0
  ·have hl0 : l = [] := List.length_eq_zero_iff.1 h0
   subst hl0
   apply fC
   unfold dB
   rw [aQ, ae, if_neg (by simp)]
   apply iT
   exact ⟨rfl, hQ _ _ ⟨hu5.trans hu6, _, rfl, NV.nil⟩⟩
  ·have hob : ∃ cells, Ob M6 M5.n cells Ty.j := by
     obtain ⟨_, ⟨h9, a, rfl, _⟩ | ⟨b5, cs, c, rfl, _, h10, _⟩⟩ := hD6
     ·have := List.length_replicate (n := l.length) (a := false); omega
     ·simp only [bx, Option.some.injEq] at hb6; subst hb6; exact ⟨_, h10⟩
   obtain ⟨cells, hob⟩ := hob
   refine wV (M0 := M) (Mo := M6) (hu5.trans hu6).n hnd (by omega) A (fun x hx' => hAl x ((hmem x).1 hx')) (h5.up hu6) (hN5.up LV.up' hu6) hb6 hob hu5.n (fun v M7 hu7 h7 => ?_) l.length 0 M6 (.slice none 0 0) [] rfl rfl (hu5.trans hu6) (Ch.refl _ _) hD6' NV.nil rfl
   exact hQ _ _ ⟨hu7, v, rfl, Nw.base h7 (hu5.trans hu6).n⟩
 ·rw [List.getD_eq_getElem?_getD, List.getElem?_replicate, if_pos h]; rfl
end Go.G
