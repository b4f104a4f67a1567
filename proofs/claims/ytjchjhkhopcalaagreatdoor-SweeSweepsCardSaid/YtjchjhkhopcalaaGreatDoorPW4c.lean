/- Layer 4: whose a file is, by the document. -/
import Derived.Test.YtjchjhkhopcalaaGreatDoorPW4b
namespace Go.G
open Go.Ab Go.Proofs Go.RowKit
set_option linter.unusedVariables false
set_option linter.unusedSimpArgs false
set_option maxRecDepth 100000
theorem Ch.tdx' {M M' : Store} {b : Nat} (h : Ch [b] M M') (o : (M.get b).isSome = true) {bs Ns : List Nat} {i : Nat} (hb : b < Ns.getD 0 0) : TDx bs Ns i M M' :=
 ⟨h.n, fun c hc => by
  rcases h.tdiff c hc with hc | hc
  ·exact .inl hc
  ·have : c = b := by simpa using hc
   subst this
   refine .inr ⟨o, ?_⟩
   unfold dw
   rw [Bool.or_eq_true]
   exact .inl (by simpa using hb)⟩
def p9 : Option Nat → Value
 | none => .tuple #[iv 0, tv false]
 | some n => .tuple #[iv (n : Int), tv true]
theorem kI {d : Nat} {x : List UInt8} {i : Nat} (h : i < x.length) (hb : bF x[i] = false ∨ d ≤ i) : cE d x = none := by
 unfold cE
 rw [if_neg]
 rintro ⟨h1, h2, _⟩
 rcases hb with hb | hb
 ·have := List.all_eq_true.1 h1 _ (List.getElem_mem h)
  rw [hb] at this; cases this
 ·omega
theorem ot {M : Store} {x : List UInt8} {d : Nat} (hx : x.length ≤ 2 ^ 40) (hd : d ≤ 9) {Q : Value → Store → Prop} (hQ : Q (p9 (cE d x)) M) :
    ∀ (k i : Nat), k + i = x.length → i ≤ d → (x.take i).all bF = true → bY (sv x) (iv (d : Int)) (iv ((cS 0 (x.take i) : Nat) : Int)) (iv (i : Int)) M Q := by
 intro k
 induction k with
 | zero =>
  intro i hi hid ha
  apply iR
  unfold fm
  rw [aY, bm, ag, if_neg (by omega)]
  rw [List.take_of_length_le (by omega)] at ha ⊢
  apply mW
  unfold iO
  unfold cE at hQ
  show OP (al .eql (sv x) (sv [])) _
  rw [fE, ag]
  split
  ·rename_i he
   rw [if_neg (by rintro ⟨_, _, h, _⟩; exact h he)] at hQ
   exact ⟨rfl, hQ⟩
  ·rename_i he
   show OP (al .neq (sv x) (sv [48])) _
   rw [jP, sO]
   split
   ·rename_i h48
    cases x with
    | nil => exact absurd rfl he
    | cons c r =>
     rw [k8, jp (d := 48) (n := 48) rfl, ag]
     split
     ·rename_i hc
      rw [if_neg (by
       rintro ⟨_, _, _, h⟩
       rcases h with h | h
       ·exact h48 h
       ·simp at h; exact h hc)] at hQ
      exact ⟨rfl, hQ⟩
     ·rename_i hc
      rw [if_pos ⟨ha, by omega, he, .inr (by simpa using hc)⟩] at hQ
      exact ⟨rfl, hQ⟩
   ·rename_i h48
    have h48 : x = [48] := by simpa using h48
    rw [if_pos ⟨ha, by omega, he, .inl h48⟩] at hQ
    exact ⟨rfl, hQ⟩
 | succ k ih =>
  intro i hi hid ha
  have hil : i < x.length := by omega
  apply iR
  unfold fm
  rw [aY, bm, ag, if_pos hil]
  apply mV
  unfold iN
  rw [jI x i hil, tP (d := 48) (n := 48) rfl, ag]
  split
  ·rename_i hlo
   rw [kI hil (.inl (by unfold bF; rw [decide_eq_false (by rw [UInt8.le_iff_toNat_le]; rw [UInt8.lt_iff_toNat_lt] at hlo; omega), Bool.false_and]))] at hQ
   exact ⟨rfl, hQ⟩
  ·rename_i hlo
   rw [jI x i hil, tN (d := 57) (n := 57) rfl, ag]
   split
   ·rename_i hhi
    rw [kI hil (.inl (by unfold bF; rw [decide_eq_false (p := x[i] ≤ 57) (by rw [UInt8.le_iff_toNat_le]; rw [UInt8.lt_iff_toNat_lt] at hhi; omega), Bool.and_false]))] at hQ
    exact ⟨rfl, hQ⟩
   ·rename_i hhi
    have hdg : bF x[i] = true := by
     rw [b5]
     rw [UInt8.lt_iff_toNat_lt] at hlo hhi
     have e1 : (48 : UInt8).toNat = 48 := rfl
     have e2 : (57 : UInt8).toNat = 57 := rfl
     omega
    rw [m9, ag]
    split
    ·rename_i hdi
     rw [kI hil (.inr hdi)] at hQ
     exact ⟨rfl, hQ⟩
    ·rename_i hdi
     have hv := fO (x.take i) 0 ha
     have htl : (x.take i).length = i := by rw [List.length_take]; omega
     rw [htl] at hv
     have hp : 10 ^ i ≤ 10 ^ 8 := Nat.pow_le_pow_right (by decide) (by omega)
     have hcd := b5.1 hdg
     have em : ∀ (a : Nat) (K : Value → Prop), a ≤ 10 ^ 9 → OP (ab .mul (.int .i64 10) (iv (a : Int))) K = K (iv ((10 * a : Nat) : Int)) := by
      intro a K ha
      show OP (ab .mul (.int .i64 10) (.int .i64 (a : Int))) K = _
      rw [su, w64 (by omega) (by omega)]
      rfl
     rw [em _ _ (by omega), jI x i hil]
     have es : ∀ (c : UInt8) (K : Value → Prop), 48 ≤ c.toNat → OP (ab .sub (bv c) (.int .u8 48)) K = K (.int .u8 ((c.toNat - 48 : Nat) : Int)) := by
      intro c K hc
      show OP (ab .sub (.int .u8 (c.toNat : Int)) (.int .u8 48)) K = _
      rw [lf]
      have h1 : IntKind.wrap .u8 ((c.toNat : Int) - 48) = ((c.toNat - 48 : Nat) : Int) := by
       have h : IntKind.wrap .u8 ((c.toNat : Int) - 48) = ((c.toNat : Int) - 48) % 256 := by simp [IntKind.wrap, IntKind.bits, IntKind.signed]
       have := c.toNat_lt
       rw [h]; omega
      rw [h1]
     rw [es _ _ hcd.1, pT, w64 (by omega) (by omega)]
     show OP (ab .add (iv _) (iv ((x[i].toNat - 48 : Nat) : Int))) _
     rw [gl _ _ (by omega), aP _ (by omega)]
     have hsn := gH (x.take i) 0 x[i]
     rw [← List.take_succ_eq_append_getElem hil] at hsn
     rw [← hsn]
     refine ih (i + 1) (by omega) (by omega) ?_
     rw [List.take_succ_eq_append_getElem hil, List.all_append, ha]
     simpa using hdg
theorem i3 {M : Store} {x : List UInt8} {d : Nat} (hx : x.length ≤ 2 ^ 40) (hd : d ≤ 9) {Q : Value → Store → Prop} (hQ : Q (p9 (cE d x)) M) : R F.G #[sv x, iv (d : Int)] M Q := by
 apply oC
 unfold jX
 exact ot hx hd hQ x.length 0 rfl (Nat.zero_le _) rfl
theorem tp {M : Store} {x5 : Value} {ps : List (List UInt8)} (hL : LV sv Ty.a M x5 ps) (hps : ∀ p ∈ ps, p.length ≤ 2 ^ 40) {Q : Value → Store → Prop}
    (hQ : Q (ofR (match ps with | [x, y, z] => (match cE 3 x, cE 5 y, cE 5 z with | some a, some b, some _ => some ((a : Int), (b : Int)) | _, _, _ => none) | _ => none)) M) : eO x5 M Q := by
 apply qA
 unfold mo
 rw [hL.len, ae, sE 3 3 rfl, ag]
 split
 ·rename_i h3
  refine ⟨rfl, ?_⟩
  match ps, h3, hQ with
  | [], _, hQ => exact hQ
  | [_], _, hQ => exact hQ
  | [_, _], _, hQ => exact hQ
  | [_, _, _], h3, _ => exact absurd rfl h3
  | _ :: _ :: _ :: _ :: _, _, hQ => exact hQ
 ·rename_i h3
  have h3 : ps.length = 3 := by simpa using h3
  match ps, h3, hL, hps, hQ with
  | [x, y, z], _, hL, hps, hQ =>
   obtain ⟨p0, a0, b0⟩ := hL.at (i := 0) (by simp) .i64
   obtain ⟨p1, a1, b1⟩ := hL.at (i := 1) (by simp) .i64
   obtain ⟨p2, a2, b2⟩ := hL.at (i := 2) (by simp) .i64
   have b0 : ld 1 false p0 M = some (sv x) := b0
   have b1 : ld 1 false p1 M = some (sv y) := b1
   have b2 : ld 1 false p2 M = some (sv z) := b2
   rw [show (Value.int .i64 0) = .int .i64 ((0 : Nat) : Int) from rfl, a0, ae, b0, ae]
   refine i3 (d := 3) (hps x (by simp)) (by decide) ?_
   have t0 : ∀ (o : Option Nat) (K : Value → Prop), OP (tup (p9 o) 0) K = K (iv ((o.getD 0 : Nat) : Int)) := fun o K => by cases o <;> rfl
   have t1 : ∀ (o : Option Nat) (K : Value → Prop), OP (tup (p9 o) 1) K = K (tv o.isSome) := fun o K => by cases o <;> rfl
   rw [t0, t1, show (Value.int .i64 1) = .int .i64 ((1 : Nat) : Int) from rfl, a1, ae, b1, ae]
   refine i3 (d := 5) (hps y (by simp)) (by decide) ?_
   rw [t0, t1, show (Value.int .i64 2) = .int .i64 ((2 : Nat) : Int) from rfl, a2, ae, b2, ae]
   refine i3 (d := 5) (hps z (by simp)) (by decide) ?_
   rw [t0, t1, bE, bl]
   simp only at hQ
   cases h1 : cE 3 x with
   | none => rw [h1] at hQ; rw [if_pos (by rfl)]; exact ⟨rfl, hQ⟩
   | some a =>
    rw [h1] at hQ
    rw [if_neg (by simp), bE, bl]
    cases h2 : cE 5 y with
    | none => rw [h2] at hQ; rw [if_pos (by rfl)]; exact ⟨rfl, hQ⟩
    | some b =>
     rw [h2] at hQ
     rw [if_neg (by simp), bE, bl]
     cases h4 : cE 5 z with
     | none => rw [h4] at hQ; rw [if_pos (by rfl)]; exact ⟨rfl, hQ⟩
     | some c => rw [h4] at hQ; rw [if_neg (by simp)]; exact ⟨rfl, hQ⟩
theorem rV {M0 : Store} {s : List UInt8} (hs : s.length ≤ 2 ^ 20) {L : List (List UInt8)} {Q : Value → Store → Prop} (hQ : ∀ v M, Up M0 M → LV sv Ty.a M v L → eO v M Q) :
    ∀ (d i : Nat) (D : List (List UInt8)) (cur : List UInt8) (x5 : Value) (M : Store), d + i = s.length → D.length ≤ i → cur.length ≤ i → (∀ c ∈ cur, c ≠ 46) → Up M0 M → NV sv Ty.a M0 M x5 (D ++ [cur]) → D ++ aR 46 (cur ++ s.drop i) = L →
     c9 (sv s) x5 (iv (i : Int)) M Q := by
 intro d
 induction d with
 | zero =>
  intro i D cur x5 M hi hD hcl hcur hu hN hL
  apply mt
  unfold i5
  rw [aY, bm, ag, if_neg (by omega)]
  rw [List.drop_of_length_le (by omega), List.append_nil, gz _ hcur] at hL
  subst hL
  exact hQ _ _ hu hN.lv
 | succ d ih =>
  intro i D cur x5 M hi hD hcl hcur hu hN hL
  have hil : i < s.length := by omega
  apply mt
  unfold i5
  rw [aY, bm, ag, if_pos hil]
  apply qz
  unfold mn
  rw [List.drop_eq_getElem_cons hil] at hL
  rw [jI s i hil, jp (d := 46) (n := 46) rfl, ag]
  split
  ·rename_i h46
   rw [h46, fe _ _ hcur] at hL
   have ebl : ∀ K : List Value → Prop, OP (bd (.string ⟨#[]⟩) 1 1 [(0, (.string ⟨#[]⟩))]) K = K [sv []] := fun K => by kernel_rfl
   rw [ebl, jG]
   refine NV.app1 hu (Nat.le_refl _) hu.n hN [] rfl (by simp; omega) fun v' M' hu' hN' _ _ => ?_
   rw [aP _ (by omega)]
   exact ih (i + 1) (D ++ [cur]) [] v' M' (by omega) (by simp; omega) (by simp) (fun c hc => by cases hc) hu' hN' (by rw [← hL]; simp)
  ·rename_i h46
   have hlen : (D ++ [cur]).length = D.length + 1 := by simp
   rw [hN.lv.len, ae, hlen, sM 1 1 rfl (by omega) (by omega), Nat.add_sub_cancel, ae, sM 1 1 rfl (by omega) (by omega), Nat.add_sub_cancel]
   obtain ⟨p, M', b, e1, e2, e3, e4, e5, e6, e7, e8⟩ := Nw.put1 hN (i := D.length) (by simp) .i64 (nK (cur ++ [s[i]])) (sH _)
   have hcur' : ((D ++ [cur]).map sv).getD D.length undef = sv cur := by
    rw [List.getD_eq_getElem?_getD]
    simp
   rw [hcur'] at e2
   rw [e1, ae, e2, ae, aP _ (by omega), un (by omega) (by omega)]
   have hmid : (s.take (i + 1)).drop i = [s[i]] := by
    rw [List.take_succ_eq_append_getElem hil, List.drop_append, List.drop_of_length_le (by rw [List.length_take]; omega), show i - (s.take i).length = 0 by rw [List.length_take]; omega]; rfl
   rw [hmid, bT _ _ (by simp; omega), ae, e3, ae]
   refine ⟨?_, ?_⟩
   ·refine Ch.tdx' e8 ?_ e7
    obtain ⟨_, h | ⟨b', cells, c, hv, _, hg, _⟩⟩ := hN
    ·have := h.1; simp at this
    ·rw [hv] at e5
     simp only [bx, Option.some.injEq] at e5
     subst e5; rw [hg]; rfl
   ·have hset : ((D ++ [cur]).map sv).set D.length (sv (cur ++ [s[i]])) = (D ++ [cur ++ [s[i]]]).map sv := by
      rw [List.map_append, List.set_append_right _ _ (by simp)]
      simp
    rw [hset] at e4
    have hll : (D ++ [cur]).length = (D ++ [cur ++ [s[i]]]).length := by simp
    rw [hll] at e4
    rw [aP _ (by omega)]
    refine ih (i + 1) D (cur ++ [s[i]]) x5 M' (by omega) (by omega) (by simp; omega) (fun c hc => ?_) (hu.ch e8 (by simpa using e6)) e4 ?_
    ·rcases List.mem_append.1 hc with hc | hc
     ·exact hcur c hc
     ·have : c = s[i] := by simpa using hc
      rw [this]; exact h46
    ·rw [← hL]; simp
theorem ul {M : Store} {s : List UInt8} (hs : s.length ≤ 2 ^ 20) : R F.d1 #[sv s] M fun v M' => Up M M' ∧ v = ofR (qd s) := by
 refine R.cps fun Q hQ => ?_
 apply sT
 unfold oX
 unfold qd at hQ
 rw [aY, lu 4 4 rfl, ag]
 split
 ·rename_i h4
  have he : ¬ s.take 4 = bt := fun e => by
   have := congrArg List.length e
   rw [List.length_take] at this
   have h4' : bt.length = 4 := rfl
   omega
  rw [if_neg he] at hQ
  exact ⟨rfl, hQ _ _ ⟨Ch.refl _ _, rfl⟩⟩
 ·rename_i h4
  rw [show (Value.int .i64 4) = iv ((4 : Nat) : Int) from rfl, lC (by omega)]
  show OP (al .neq (sv _) (sv bt)) _
  rw [jP, ag]
  split
  ·rename_i he
   rw [if_neg he] at hQ
   exact ⟨rfl, hQ _ _ ⟨Ch.refl _ _, rfl⟩⟩
  ·rename_i he
   have he : s.take 4 = bt := by simpa using he
   rw [if_pos he] at hQ
   have ebl : ∀ K : List Value → Prop, OP (bd (.string ⟨#[]⟩) 1 1 [(0, (.string ⟨#[]⟩))]) K = K [sv []] := fun K => by kernel_rfl
   rw [ebl]
   refine sJ (s := 1) rfl fun M1 u1 hN o1 n1 => ?_
   refine rV (M0 := M) hs (L := aR 46 (s.drop 4)) (fun v M' hu hL => ?_) (s.length - 4) 4 [] [] _ M1 (by omega) (by simp) (by simp) (fun c hc => by cases hc) u1 hN (by simp)
   refine tp hL (fun p hp => by have := lR 46 _ p hp; rw [List.length_drop] at this; omega) ?_
   exact hQ _ _ ⟨hu, rfl⟩
end Go.G
