/- ... -/
import Derived.Test.YtnonfejhkbaikaaPR9
import Derived.Test.YtnonfejhkbaikaaPA6a
namespace Go.G
open Go.Ab Go.Proofs Go.RowKit
set_option linter.unusedVariables false
set_option linter.unusedSimpArgs false
set_option maxRecDepth 100000
theorem yK (w : Ww) (r : List Ww) (hq : ¬ w.2.2.2 = true) : mj (w :: r) = (match pV w.1 1 (fD.drop 1) with
    | none => none
    | some k => fi k r) := by
 rw [mj, if_neg hq]; rfl
section
variable {M0 : Store} {v x4 : Value} {w : Ww} {r : List Ww} {b : Nat} {Q : Value → Store → Prop}
theorem FE (h : WW M0 v (w :: r)) (hw : ∀ x ∈ w :: r, x.1.length ≤ 2 ^ 40) (hb : M0.n ≤ b) (hq : ¬ w.2.2.2 = true) (hQ : ∀ q M, Up M0 M → Dd q (mj (w :: r)) → Q q M) {M : Store} (hu : Up M0 M) (oA : Ob M b [iv 0, iv 0, sv []] Ty.f) (hL : LV sv Ty.a M x4 fD) :
    ∀ (k i : Nat), k + i = 12 → pV w.1 1 (fD.drop 1) = pV w.1 i (fD.drop i) → fH v (pt b) x4 (iv (i : Int)) M Q := by
 have hlen : fD.length = 12 := rfl
 have hone := yK w r hq
 intro k
 induction k with
 | zero =>
  intro i hi he
  apply wH
  unfold pC
  rw [hL.len, ab, hlen]
  show OP (ad .lss (iv (i : Int)) (iv ((12 : Nat) : Int))) _
  rw [ai, ae, if_neg (by omega)]
  apply Dq
  unfold vV
  have e0 : fD.drop i = [] := List.drop_of_length_le (by omega)
  rw [e0] at he
  have he : pV w.1 1 (fD.drop 1) = none := he
  rw [he] at hone
  rw [AU, ab]
  refine bq (vs := [iv 0, iv 0, sv []]) oA rfl rfl rfl fun M2 c2 o2 n2 => ?_
  rw [o2.ldA (s := 3) rfl, ab]
  exact ⟨rfl, hQ _ _ (hu.ch c2 (by simpa using hb)) (by rw [hone]; exact ⟨(0, 0, []), rfl⟩)⟩
 | succ k ih =>
  intro i hi he
  apply wH
  unfold pC
  rw [hL.len, ab, hlen]
  show OP (ad .lss (iv (i : Int)) (iv ((12 : Nat) : Int))) _
  rw [ai, ae, if_pos (by omega)]
  apply Dp
  unfold vU
  have hil : i < fD.length := by omega
  obtain ⟨p, e1, e2⟩ := hL.at hil .i64
  show OP (ixA 1 x4 (.int .i64 (i : Int))) _
  rw [e1, ab, e2, ab]
  show OP (ixA 4 v (iv ((0 : Nat) : Int))) _
  rw [iM (Sl.up h hu) (by simp) (f := 0) (w := sv w.1) rfl]
  rw [Ey, ae]
  rw [List.drop_eq_getElem_cons hil, pV] at he
  split
  ·rename_i hne
   rw [if_neg hne] at he
   rw [ag _ (by omega)]
   exact ih (i + 1) (by omega) he
  ·rename_i hne
   rw [if_pos (Decidable.not_not.1 hne)] at he
   rw [he] at hone
   exact Io h hw hb (by omega) (fun q M' hu' hr => hQ q M' hu' (by rw [hone]; exact hr)) hu oA
end
theorem Ip {M : Store} {v : Value} {ws : List Ww} (h : WW M v ws) (hw : ∀ w ∈ ws, w.1.length ≤ 2 ^ 40) (hwl : ws.length ≤ 2 ^ 40) : R F.e1 #[v] M fun r M' => Up M M' ∧ Dd r (mj ws) := by
 refine R.cps fun Q hQ => ?_
 apply Gf
 unfold zO
 refine au fun M1 u1 oA n1 => ?_
 have oA : Ob M1 M.n [iv 0, iv 0, sv []] Ty.f := oA
 have bad : mj ws = none →
     OP (bE #[(.int .i64 0), (.int .i64 0), (.string ⟨#[]⟩)] [(0, 1), (1, 1), (2, 1)] []) fun t14 => OP (st 3 (.pointer (some ⟨M.n, 0, none⟩)) t14 M1) fun M2 => OP (ld 3 true (.pointer (some ⟨M.n, 0, none⟩)) M2) fun r2 => NTs [r2, (.bool false)] ∧ Q (.tuple #[r2, (.bool false)]) M2 := by
  intro he
  rw [AU, ab]
  refine bq (vs := [iv 0, iv 0, sv []]) oA rfl rfl rfl fun M2 c2 o2 n2 => ?_
  rw [o2.ldA (s := 3) rfl, ab]
  exact ⟨rfl, hQ _ _ ⟨u1.ch c2 (by simp), by rw [he]; exact ⟨(0, 0, []), rfl⟩⟩⟩
 rw [h.len, ab]
 show OP (ad .eql (iv (ws.length : Int)) _) _
 rw [bR 0 0 rfl, ae]
 split
 ·rename_i h0
  have : ws = [] := List.length_eq_zero_iff.1 h0
  exact bad (by rw [this]; rfl)
 rename_i h0
 have hlen : 0 < ws.length := by omega
 obtain ⟨w, r, rfl⟩ : ∃ w r, ws = w :: r := by
  cases ws with
  | nil => simp at hlen
  | cons w r => exact ⟨w, r, rfl⟩
 show OP (ixA 4 v (iv ((0 : Nat) : Int))) _
 rw [iM (h.up u1) hlen (f := 3) (w := tv w.2.2.2) rfl]
 show BR (.bool w.2.2.2) _ _
 rw [aw]
 split
 ·rename_i hq
  exact bad (by rw [mj, if_pos hq])
 ·rename_i hq
  refine F2 fun t M4 u4 hL => ?_
  exact FE (M0 := M) h hw (Nat.le_refl _) hq (fun q M' hu hr => hQ q M' ⟨hu, hr⟩) (u1.trans u4) (oA.up u4) hL 11 1 rfl rfl
theorem fe {M : Store} {w : Ww} {t : List UInt8} {Q : Value → Store → Prop} (hQ : ∀ M', Up M M' → Q (tv (decide (w.1 = t) && !w.2.2.2)) M') : R F.j #[.agg (wws w).toArray, sv t] M Q := by
 apply HD
 unfold CB
 rw [Ga, ab]
 refine au fun M1 u1 o1 n1 => ?_
 have o1 : Ob M1 M.n [sv w.1, iv w.2.1, iv w.2.2.1, tv w.2.2.2] Ty.c := o1
 simp only [aU, o1.l4]
 have hQ := hQ M1 u1
 show OP (aq .eql (sv w.1) (sv t)) _
 rw [jr, ae]
 split
 ·rename_i h
  rw [decide_eq_true h, Bool.true_and] at hQ
  rw [aI]
  exact ⟨rfl, hQ⟩
 ·rename_i h
  rw [decide_eq_false h, Bool.false_and] at hQ
  exact ⟨rfl, hQ⟩
end Go.G

namespace Go.G
open Go.Ab Go.Proofs Go.RowKit
set_option linter.unusedVariables false
set_option linter.unusedSimpArgs false
set_option maxRecDepth 100000
def jc (k : Int) : Int := if k = 7 ∨ k = 8 then 999 else if k = 2 then 15 else 0
theorem tz (k : Int) : cV k = true ↔ k = 1 ∨ k = 10 := by unfold cV; simp
theorem IA (k : Int) : (if 0 > Bt k then 0 else Bt k) = jc k := by
 unfold Bt jc
 by_cases h2 : k = 2
 ·subst h2; decide
 ·by_cases h7 : k = 7
  ·subst h7; decide
  ·by_cases h8 : k = 8
   ·subst h8; decide
   ·simp [h2, h7, h8]
theorem GH (first : Bool) (k n : Int) (s : List UInt8) : fP first (k, n, s) = true ↔ (1 ≤ k ∧ k ≤ 11) ∧ eP k = first ∧ (0 ≤ n ∧ n ≤ jc k) ∧ jn s = true ∧ (cV k = true ∨ s = []) := by
 unfold fP FX
 simp only
 rw [Bool.and_eq_true, beq_iff_eq, IA]
 by_cases h1 : k < 1
 ·rw [if_pos h1]
  constructor
  ·intro h; cases h.1
  ·intro h; omega
 ·rw [if_neg h1]
  by_cases h2 : 11 < k
  ·rw [if_pos h2]
   constructor
   ·intro h; cases h.1
   ·intro h; omega
  ·rw [if_neg h2]
   by_cases ht : cV k = true
   ·rw [if_pos ht]
    have h0 : jc k = 0 := by
     rcases (tz k).1 ht with rfl | rfl <;> rfl
    by_cases hn : n = 0
    ·rw [if_pos hn]
     exact ⟨fun h => ⟨by omega, h.2, by omega, h.1, .inl ht⟩, fun h => ⟨h.2.2.2.1, h.2.1⟩⟩
    ·rw [if_neg hn]
     exact ⟨fun h => (by cases h.1), fun h => (by omega)⟩
   ·rw [if_neg ht]
    by_cases hs : s = []
    ·rw [if_pos hs]
     by_cases hn : 0 ≤ n
     ·rw [if_pos hn]
      exact ⟨fun h => ⟨by omega, h.2, ⟨hn, of_decide_eq_true h.1⟩, by rw [hs]; rfl, .inr hs⟩, fun h => ⟨decide_eq_true h.2.2.1.2, h.2.1⟩⟩
     ·rw [if_neg hn]
      exact ⟨fun h => (by cases h.1), fun h => (by omega)⟩
    ·rw [if_neg hs]
     exact ⟨fun h => (by cases h.1), fun h => absurd h.2.2.2.2 (fun e => e.elim ht hs)⟩
section
variable {x0 : Value} {b i : Nat} {k n : Int} {s : List UInt8} {Q : Value → Store → Prop}
theorem Jn {M : Store} (o : Ob M b [iv k, iv n, sv s] Ty.f) (hs : s.length ≤ 2 ^ 40) (hno : fP (decide (i = 0)) (k, n, s) = false → ∀ M', Up M M' → Q (tv false) M') (hyes : fP (decide (i = 0)) (k, n, s) = true → ∀ M', Up M M' → bf x0 (iv (i : Int)) M' Q) :
    dQ x0 (iv (i : Int)) (pt b) (tv (eP k)) (tv (cV k)) (iv (jc k)) M Q := by
 have hg := GH (decide (i = 0)) k n s
 have no : ∀ M', Up M M' → ¬ ((1 ≤ k ∧ k ≤ 11) ∧ eP k = decide (i = 0) ∧ (0 ≤ n ∧ n ≤ jc k) ∧ jn s = true ∧ (cV k = true ∨ s = [])) → NTs [(.bool false)] ∧ Q (.bool false) M' := fun M' hu hc => ⟨rfl, hno (by
  cases hgg : fP (decide (i = 0)) (k, n, s) with
  | false => rfl
  | true => exact absurd (hg.1 hgg) hc) M' hu⟩
 have u0 : Up M M := Ch.refl _ _
 apply Ad
 unfold rD
 simp only [aU, o.l3]
 show OP (ad .lss (.int .i64 k) (.int .i64 1)) _
 rw [aR, ae]
 split
 ·exact no M u0 (by omega)
 show OP (ad .gtr (.int .i64 k) (.int .i64 11)) _
 rw [tH, ae]
 split
 ·exact no M u0 (by omega)
 rw [bR 0 0 rfl, Gy, aw]
 split
 ·rename_i hb
  exact no M u0 (fun h => by rw [h.2.1] at hb; simp at hb)
 rename_i hb
 have hb : eP k = decide (i = 0) := by simpa using hb
 show OP (ad .lss (.int .i64 n) (.int .i64 0)) _
 rw [aR, ae]
 split
 ·exact no M u0 (by omega)
 show OP (ad .gtr (.int .i64 n) (.int .i64 (jc k))) _
 rw [tH, ae]
 split
 ·exact no M u0 (by omega)
 refine FY hs ?_
 simp only [aU, o.l3]
 rw [aI, aw]
 split
 ·rename_i hf
  exact no M u0 (fun h => by rw [h.2.2.2.1] at hf; simp at hf)
 rename_i hf
 have hf : jn s = true := by simpa using hf
 have yes : (cV k = true ∨ s = []) → bf x0 (iv (i : Int)) M Q := fun h => hyes (hg.2 ⟨by omega, hb, by omega, hf, h⟩) M u0
 rw [aI]
 cases ht : cV k with
 | true =>
  show BR3 (.bool (decide False)) _ _ _
  rw [nT, if_neg (fun h => h)]
  exact yes (.inl ht)
 | false =>
  show BR3 (.bool (decide True)) _ _ _
  rw [nT, if_pos trivial]
  show OP (aq .neq (sv s) (sv [])) _
  rw [Ey, ae]
  split
  ·rename_i hne
   exact no M u0 (fun h => by rcases h.2.2.2.2 with h | h; rw [ht] at h; cases h; exact hne h)
  ·rename_i he
   exact yes (.inr (Decidable.not_not.1 he))
end
end Go.G

namespace Go.G
open Go.Ab Go.Proofs Go.RowKit
set_option linter.unusedVariables false
set_option linter.unusedSimpArgs false
set_option maxRecDepth 100000
section
variable {x0 : Value} {b i : Nat} {k n : Int} {s : List UInt8} {Q : Value → Store → Prop}
theorem FM {M : Store} {tp : Int} (htp : tp = if k = 2 then 15 else 0) (o : Ob M b [iv k, iv n, sv s] Ty.f) (hs : s.length ≤ 2 ^ 40) (hno : fP (decide (i = 0)) (k, n, s) = false → ∀ M', Up M M' → Q (tv false) M') (hyes : fP (decide (i = 0)) (k, n, s) = true → ∀ M', Up M M' → bf x0 (iv (i : Int)) M' Q) :
    az x0 (iv (i : Int)) (pt b) (tv (eP k)) (tv (cV k)) (iv tp) M Q := by
 have h5 := Jn (x0 := x0) (i := i) o hs hno hyes
 apply Ac
 unfold rC
 simp only [aU, o.l3]
 show OP (ad .eql (.int .i64 k) (.int .i64 7)) _
 rw [de, ae]
 split
 ·rename_i h7
  have : jc k = 999 := by unfold jc; rw [if_pos (.inl h7)]
  rw [this] at h5
  exact h5
 ·rename_i h7
  show OP (ad .eql (.int .i64 k) (.int .i64 8)) _
  rw [de, ae]
  split
  ·rename_i h8
   have : jc k = 999 := by unfold jc; rw [if_pos (.inr h8)]
   rw [this] at h5
   exact h5
  ·rename_i h8
   have : jc k = tp := by unfold jc; rw [if_neg (fun h => h.elim h7 h8), htp]
   rw [this] at h5
   exact h5
theorem Jm {M : Store} (o : Ob M b [iv k, iv n, sv s] Ty.f) (hs : s.length ≤ 2 ^ 40) (hno : fP (decide (i = 0)) (k, n, s) = false → ∀ M', Up M M' → Q (tv false) M') (hyes : fP (decide (i = 0)) (k, n, s) = true → ∀ M', Up M M' → bf x0 (iv (i : Int)) M' Q) :
    ∀ (bb : Bool), bb = eP k → ((k = 1 → cV k = true) ∧ True) → ∀ (tt : Bool), tt = cV k → (OP (ad .eql (iv k) (.int .i64 2)) fun t41 => BR t41 (az x0 (iv (i : Int)) (pt b) (.bool bb) (.bool tt) (.int .i64 15) M Q) (az x0 (iv (i : Int)) (pt b) (.bool bb) (.bool tt) (.int .i64 0) M Q)) := by
 intro bb hbb _ tt htt
 subst hbb; subst htt
 show OP (ad .eql (.int .i64 k) (.int .i64 2)) _
 rw [de, ae]
 split
 ·rename_i h2; exact FM (tp := 15) (by rw [if_pos h2]) o hs hno hyes
 ·rename_i h2; exact FM (tp := 0) (by rw [if_neg h2]) o hs hno hyes
end
theorem Gd {M0 : Store} {v : Value} {l : List Dw} (h : DS M0 v l) (hl : l.length ≤ 2 ^ 40) (hs : ∀ d ∈ l, d.2.2.length ≤ 2 ^ 40) {Q : Value → Store → Prop} (hQ : ∀ M, Up M0 M → Q (tv (okA l)) M) :
    ∀ (k i : Nat) (M : Store), k + i = l.length → Up M0 M → jG 0 l = jG i (l.drop i) → dP v (iv (i : Int)) M Q := by
 intro k
 induction k with
 | zero =>
  intro i M hi hu ho
  apply sy
  unfold lE
  rw [(Sl.up h hu).lenV, ab]
  show OP (ad .lss (iv (i : Int)) (iv (l.length : Int))) _
  rw [ai, ae, if_neg (by omega)]
  apply z9
  unfold rB
  have hQ := hQ M hu
  unfold okA at hQ
  rw [ho, List.drop_of_length_le (by omega)] at hQ
  have : jG i ([] : List Dw) = true := rfl
  rw [this, Bool.true_and] at hQ
  rw [(Sl.up h hu).lenV, ab]
  show OP (ad .geq (iv (l.length : Int)) _) _
  rw [tI 1 1 rfl, ae]
  split
  ·rename_i h1
   rw [decide_eq_true h1, Bool.true_and] at hQ
   rw [ab]
   show OP (ad .leq (iv (l.length : Int)) _) _
   rw [D7 8 8 rfl]
   exact ⟨rfl, hQ⟩
  ·rename_i h1
   rw [decide_eq_false h1, Bool.false_and] at hQ
   exact ⟨rfl, hQ⟩
 | succ k ih =>
  intro i M hi hu ho
  have hil : i < l.length := by omega
  apply sy
  unfold lE
  rw [(Sl.up h hu).lenV, ab]
  show OP (ad .lss (iv (i : Int)) (iv (l.length : Int))) _
  rw [ai, ae, if_pos hil]
  apply z8
  unfold rA
  rw [JO (Sl.up h hu) hil]
  have hsl := hs _ (List.getElem_mem hil)
  rw [Cd, dif_pos hil] at ho
  generalize l[i] = d at *
  refine au fun M1 u1 o1 n1 => ?_
  refine bq (vs := dcs d) o1 rfl rfl (tE _) fun M2 c2 o2 n2 => ?_
  have hu2 : Up M0 M2 := hu.trans (u1.ch c2 (by simp))
  obtain ⟨k1, n, s⟩ := d
  have o2 : Ob M2 M.n [iv k1, iv n, sv s] Ty.f := o2
  have hno : fP (decide (i = 0)) (k1, n, s) = false → ∀ M', Up M2 M' → Q (tv false) M' := fun hg M' hu' => by
   have hQ := hQ M' (hu2.trans hu')
   unfold okA at hQ
   rw [ho, hg, Bool.false_and, Bool.false_and] at hQ
   exact hQ
  have hyes : fP (decide (i = 0)) (k1, n, s) = true → ∀ M', Up M2 M' → bf v (iv (i : Int)) M' Q := fun hg M' hu' => by
   apply Ae
   unfold rE
   rw [ag _ (by omega)]
   exact ih (i + 1) M' (by omega) (hu2.trans hu') (by rw [ho, hg, Bool.true_and])
  have main := Jm (x0 := v) (i := i) o2 hsl hno hyes
  simp only [aU, o2.l3]
  show OP (ad .eql (.int .i64 k1) (.int .i64 1)) _
  have hE : ∀ (c : Int) (K : Value → Prop), OP (ad .eql (iv k1) (.int .i64 c)) K = K (.bool (decide (k1 = c))) := fun c K => de .i64 k1 c K
  have e1 := hE 1; have e2 := hE 2; have e3 := hE 3; have e10 := hE 10
  rw [de, ae]
  split
  ·rename_i h1
   rw [e1, ae, if_pos h1]
   exact main true (by unfold eP; rw [decide_eq_true h1]; rfl) ⟨fun _ => (tz k1).2 (.inl h1), trivial⟩ true ((tz k1).2 (.inl h1)).symm
  ·rename_i h1
   have ht : decide (k1 = 10) = cV k1 := by unfold cV; rw [decide_eq_false h1, Bool.false_or]
   rw [e2, ae]
   split
   ·rename_i h2
    rw [e1, ae, if_neg h1, e10]
    exact main true (by unfold eP; rw [decide_eq_true h2, Bool.true_or, Bool.or_true]) ⟨fun e => absurd e h1, trivial⟩ _ ht
   ·rename_i h2
    rw [e3, e1, ae, if_neg h1, e10]
    exact main _ (by unfold eP; rw [decide_eq_false h1, decide_eq_false h2, Bool.false_or, Bool.false_or]) ⟨fun e => absurd e h1, trivial⟩ _ ht
theorem IK {M : Store} {v : Value} {l : List Dw} (h : DS M v l) (hl : l.length ≤ 2 ^ 40) (hs : ∀ d ∈ l, d.2.2.length ≤ 2 ^ 40) : R F.V #[v] M fun r M' => Up M M' ∧ r = tv (okA l) := by
 refine R.cps fun Q hQ => ?_
 apply Di
 unfold vM
 exact Gd h hl hs (fun M' hu => hQ _ _ ⟨hu, rfl⟩) l.length 0 M rfl (Ch.refl _ _) rfl
end Go.G

namespace Go.G
open Go.Ab Go.Proofs Go.RowKit
set_option linter.unusedVariables false
set_option linter.unusedSimpArgs false
set_option maxRecDepth 100000
def jH : Nat → List Ww → List Dw → Option (List Dw)
 | 0, _, _ => none
 | k + 1, ws, acc => match mj (ws.takeWhile fun w => !dH w) with
  | none => none
  | some d => match ws.dropWhile fun w => !dH w with
   | [] => GG (acc ++ [d])
   | _ :: r => jH k r (acc ++ [d])
theorem C5 {p : Ww → Bool} : ∀ (l : List Ww) (j : Nat), (∀ q (h : q < j) (h2 : q < l.length), p l[q] = true) → j ≤ l.length → (∀ h : j < l.length, p l[j] = false) → l.takeWhile p = l.take j ∧ l.dropWhile p = l.drop j
 | [], j, _, hj, _ => by simp at hj; subst hj; exact ⟨rfl, rfl⟩
 | x :: l, 0, _, _, h0 => by
  have : p x = false := h0 (by simp)
  simp [this]
 | x :: l, j + 1, hp, hj, h0 => by
  have hx : p x = true := hp 0 (by omega) (by simp)
  have ih := C5 (p := p) l j (fun q h h2 => by have := hp (q + 1) (by omega) (by simpa using h2); simpa using this) (by simpa using hj) (fun h => by have := h0 (by simpa using h); simpa using this)
  simp [hx, ih.1, ih.2]
section
variable {M0 : Store} {v : Value} {ws : List Ww} {o : Option (List Dw)} {Q : Value → Store → Prop}
theorem Ep (hQ : ∀ r M, Up M0 M → vI M0 M r o → Q r M) {M : Store} {x4 : Value} {acc : List Dw} (hu : Up M0 M) (hN : NDS M0 M x4 acc) (hl : acc.length ≤ 2 ^ 30) (hs : ∀ d ∈ acc, d.2.2.length ≤ 2 ^ 40) (ho : GG acc = o) : e9 x4 M Q := by
 apply wF
 unfold mN
 unfold GG at ho
 refine (IK hN.lv (by omega) hs).mono fun r M1 ⟨u1, hr⟩ => ?_
 subst hr
 rw [aI, aw]
 split
 ·rename_i h
  rw [if_neg (by simpa using h)] at ho
  exact ⟨rfl, hQ _ _ (hu.trans u1) (by rw [← ho]; rfl)⟩
 ·rename_i h
  rw [if_pos (by simpa using h)] at ho
  have hN1 := Nw.up hN u1
  refine ⟨?_, hQ _ _ (hu.trans u1) (by rw [← ho]; exact ⟨x4, rfl, hN1⟩)⟩
  obtain ⟨a, c, rfl⟩ := hN1.sl.slice
  rfl
end
end Go.G

namespace Go.G
open Go.Ab Go.Proofs Go.RowKit
set_option linter.unusedVariables false
set_option linter.unusedSimpArgs false
set_option maxRecDepth 100000
theorem Em {k : Nat} {r : List Ww} {d : Dw} {m : Nat} (h : fi k r = some d) (hw : ∀ w ∈ r, w.1.length ≤ m) : d.2.2.length ≤ m := by
 unfold fi at h
 split at h
 ·match r, h, hw with
  | [], h, _ => cases h
  | [x], h, hw =>
   simp only [Bu] at h
   split at h
   ·injection h with h; subst h; exact hw x (by simp)
   ·cases h
  | _ :: _ :: _, h, _ => cases h
 ·split at h
  ·match r, h with
   | [], h => cases h
   | [x], h =>
    simp only [Bf] at h
    split at h
    ·cases h
    ·split at h
     ·injection h with h; subst h; simp
     ·cases h
   | _ :: _ :: _, h => cases h
  ·split at h
   ·injection h with h; subst h; simp
   ·cases h
theorem FN {ws : List Ww} {d : Dw} {m : Nat} (h : mj ws = some d) (hw : ∀ w ∈ ws, w.1.length ≤ m) : d.2.2.length ≤ m := by
 match ws, h, hw with
 | [], h, _ => cases h
 | w :: r, h, hw =>
  by_cases hq : w.2.2.2 = true
  ·rw [mj, if_pos hq] at h; cases h
  ·rw [yK w r hq] at h
   split at h
   ·cases h
   ·exact Em h fun x hx => hw x (by simp [hx])
theorem Jv {M0 : Store} {v : Value} {ws : List Ww} {o : Option (List Dw)} {Q : Value → Store → Prop} (h : WW M0 v ws) (hl : ws.length ≤ 2 ^ 20) (hw : ∀ w ∈ ws, w.1.length ≤ 2 ^ 30) (hQ : ∀ r M, Up M0 M → vI M0 M r o → Q r M)
    {from_ i k : Nat} {acc : List Dw} {x4 : Value} {M1 : Store} (hi : i ≤ ws.length) (hf : from_ ≤ i) (hs : (ws.take i).drop from_ = (ws.drop from_).takeWhile (fun w => !dH w)) (hu1 : Up M0 M1) (hN : NDS M0 M1 x4 acc) (hal : acc.length ≤ from_) (hat : ∀ d ∈ acc, d.2.2.length ≤ 2 ^ 40) (ho : jH (k + 1) (ws.drop from_) acc = o)
    (hgo : ∀ d, mj ((ws.drop from_).takeWhile fun w => !dH w) = some d → ∀ (x4' : Value) (M' : Store), Up M0 M' → NDS M0 M' x4' (acc ++ [d]) → (∀ e ∈ acc ++ [d], e.2.2.length ≤ 2 ^ 40) → cF v x4' (iv ((i + 1 : Nat) : Int)) (iv (i : Int)) M' Q) :
    dw v x4 (iv (from_ : Int)) (iv (i : Int)) M1 Q := by
 apply wG
 unfold mO
 have hu0 : WW M1 v ws := Sl.up h hu1
 obtain ⟨v2, e2, g2⟩ := LK.cut jd hu0 (lo := some (.int .i64 (from_ : Int))) (hi := some (.int .i64 (i : Int))) (a := from_) (r := i) (by simp only [av]; rw [if_pos ⟨by omega, by omega⟩]; rfl) (by simp only [av]; rw [if_pos ⟨by omega, by omega⟩]; rfl) hi hf
 show OP (slV 4 Ty.c v (some (.int .i64 (from_ : Int))) (some (.int .i64 (i : Int))) M1) _
 rw [e2, ab]
 rw [hs] at g2
 have hsub : ∀ w ∈ (ws.drop from_).takeWhile (fun w => !dH w), w ∈ ws := fun w hm => List.mem_of_mem_drop ((List.takeWhile_prefix _).subset hm)
 have hsl := (List.takeWhile_prefix (l := ws.drop from_) (fun w => !dH w)).length_le
 rw [List.length_drop] at hsl
 refine (Ip g2 (fun w hm => by have := hw w (hsub w hm); omega) (by omega)).mono fun r M2 ⟨u2, hr⟩ => ?_
 rw [jH] at ho
 cases hone : mj ((ws.drop from_).takeWhile fun w => !dH w) with
 | none =>
  rw [hone] at hr ho
  obtain ⟨d, rfl⟩ := hr
  rw [(tp2 _ _).1, (tp2 _ _).2]
  refine au fun M3 u3 o3 n3 => ?_
  refine bq (vs := dcs d) o3 rfl rfl (tE d) fun M4 c4 o4 n4 => ?_
  rw [aI]
  show BR (.bool true) _ _
  rw [bG]
  exact ⟨rfl, hQ _ _ ((hu1.trans u2).trans (u3.ch c4 (by simp))) (by rw [← ho]; rfl)⟩
 | some d =>
  rw [hone] at hr
  have hr : r = .tuple #[dv d, .bool true] := hr
  subst hr
  rw [(tp2 _ _).1, (tp2 _ _).2]
  refine au fun M3 u3 o3 n3 => ?_
  refine bq (vs := dcs d) o3 rfl rfl (tE d) fun M4 c4 o4 n4 => ?_
  have hu4 := (hu1.trans u2).trans (u3.ch c4 (by simp))
  have hN4 : NDS M0 M4 x4 acc := Nw.up (Nw.up hN u2) (u3.ch c4 (by simp))
  rw [aI]
  show BR (.bool false) _ _
  rw [aE, o4.ldA (s := 3) rfl, ab]
  rw [show an (.agg #[(.int .i64 0), (.int .i64 0), (.string ⟨#[]⟩)]) 3 1 [(0, .agg (dcs d).toArray)] = some (dcs d) from JE d, ab, aY]
  refine NK.app1 (M0 := M0) (Mb := M0) CK hu4 (Nat.le_refl _) hu4.n hN4 d rfl (by omega) fun x4' M' hu' hN' _ _ => ?_
  rw [ag _ (by omega)]
  refine hgo d hone x4' M' hu' hN' fun e he => ?_
  rcases List.mem_append.1 he with he | he
  ·exact hat e he
  ·have : e = d := by simpa using he
   subst this
   have := FN hone (m := 2 ^ 30) fun w hm => hw w (hsub w hm)
   omega
end Go.G

namespace Go.G
open Go.Ab Go.Proofs Go.RowKit
set_option linter.unusedVariables false
set_option linter.unusedSimpArgs false
set_option maxRecDepth 100000
theorem F3 {ws : List Ww} {from_ i : Nat} (hf : from_ ≤ i) (hi : i ≤ ws.length) (hsem : ∀ q (h1 : from_ ≤ q) (h2 : q < i) (h3 : q < ws.length), dH ws[q] = false) (hend : ∀ h : i < ws.length, dH ws[i] = true) :
    (ws.drop from_).takeWhile (fun w => !dH w) = (ws.take i).drop from_ ∧ (ws.drop from_).dropWhile (fun w => !dH w) = ws.drop i := by
 have h := C5 (p := fun w => !dH w) (ws.drop from_) (i - from_) (fun q h h2 => by
  rw [List.length_drop] at h2
  rw [List.getElem_drop, hsem (from_ + q) (by omega) (by omega) (by omega)]; rfl) (by rw [List.length_drop]; omega) (fun h => by
  rw [List.length_drop] at h
  have e : from_ + (i - from_) = i := by omega
  have := hend (by omega)
  simp only [List.getElem_drop, e, this]; rfl)
 refine ⟨by rw [h.1, List.drop_take], ?_⟩
 rw [h.2, List.drop_drop, show from_ + (i - from_) = i by omega]
theorem Cg {M0 : Store} {v : Value} {ws : List Ww} {o : Option (List Dw)} {Q : Value → Store → Prop} (h : WW M0 v ws) (hl : ws.length ≤ 2 ^ 20) (hw : ∀ w ∈ ws, w.1.length ≤ 2 ^ 30) (hQ : ∀ r M, Up M0 M → vI M0 M r o → Q r M) :
    ∀ (n from_ i k : Nat) (acc : List Dw) (x4 : Value) (M : Store), n + i = ws.length → from_ ≤ i → (∀ q (h1 : from_ ≤ q) (h2 : q < i) (h3 : q < ws.length), dH ws[q] = false) → ws.length - from_ < k → Up M0 M → NDS M0 M x4 acc → acc.length ≤ from_ → (∀ d ∈ acc, d.2.2.length ≤ 2 ^ 40) → jH k (ws.drop from_) acc = o →
     cE v x4 (iv (from_ : Int)) (iv (i : Int)) M Q := by
 intro n
 induction n with
 | zero =>
  intro from_ i k acc x4 M hn hf hsem hk hu hN hal hat ho
  obtain ⟨k, rfl⟩ : ∃ k', k = k' + 1 := ⟨k - 1, by omega⟩
  apply iw
  unfold fa
  rw [(Sl.up h hu).lenV, ab]
  show OP (ad .leq (iv (i : Int)) (iv (ws.length : Int))) _
  rw [kp, ae, if_pos (by omega)]
  apply mT
  unfold il
  rw [(Sl.up h hu).lenV, ab]
  show OP (ad .lss (iv (i : Int)) (iv (ws.length : Int))) _
  rw [ai, ae, if_neg (by omega)]
  obtain ⟨s1, s2⟩ := F3 hf (by omega) hsem (fun hh => by omega)
  refine Jv h hl hw hQ (k := k) (by omega) hf s1.symm hu hN hal hat ho fun d hone x4' M' hu' hN' hat' => ?_
  rw [jH, hone] at ho
  simp only [s2] at ho
  rw [List.drop_of_length_le (by omega)] at ho
  apply ix
  unfold fb
  rw [ag _ (by omega)]
  apply iw
  unfold fa
  rw [(Sl.up h hu').lenV, ab]
  show OP (ad .leq (iv ((i + 1 : Nat) : Int)) (iv (ws.length : Int))) _
  rw [kp, ae, if_neg (by omega)]
  exact Ep hQ hu' hN' (by simp; omega) hat' ho
 | succ n ih =>
  intro from_ i k acc x4 M hn hf hsem hk hu hN hal hat ho
  obtain ⟨k, rfl⟩ : ∃ k', k = k' + 1 := ⟨k - 1, by omega⟩
  have hil : i < ws.length := by omega
  apply iw
  unfold fa
  rw [(Sl.up h hu).lenV, ab]
  show OP (ad .leq (iv (i : Int)) (iv (ws.length : Int))) _
  rw [kp, ae, if_pos (by omega)]
  apply mT
  unfold il
  rw [(Sl.up h hu).lenV, ab]
  show OP (ad .lss (iv (i : Int)) (iv (ws.length : Int))) _
  rw [ai, ae, if_pos hil, dI (Sl.up h hu) hil]
  refine fe (t := [59]) fun M1 u1 => ?_
  have hu1 := hu.trans u1
  have hN1 : NDS M0 M1 x4 acc := Nw.up hN u1
  show OP (aun .not (.bool (dH ws[i]))) _
  rw [aI, aw]
  split
  ·rename_i hs
   have hs : dH ws[i] = false := by simpa using hs
   apply ix
   unfold fb
   rw [ag _ (by omega)]
   refine ih from_ (i + 1) (k + 1) acc x4 M1 (by omega) (by omega) (fun q h1 h2 h3 => ?_) hk hu1 hN1 hal hat ho
   by_cases e : q = i
   ·subst e; exact hs
   ·exact hsem q h1 (by omega) h3
  ·rename_i hs
   have hs : dH ws[i] = true := by simpa using hs
   obtain ⟨s1, s2⟩ := F3 hf (by omega) hsem (fun _ => hs)
   refine Jv h hl hw hQ (k := k) (by omega) hf s1.symm hu1 hN1 hal hat ho fun d hone x4' M' hu' hN' hat' => ?_
   rw [jH, hone] at ho
   rw [List.drop_eq_getElem_cons hil] at s2
   simp only [s2] at ho
   apply ix
   unfold fb
   rw [ag _ (by omega)]
   exact ih (i + 1) (i + 1) k (acc ++ [d]) x4' M' (by omega) (Nat.le_refl _) (fun q h1 h2 h3 => by omega) (by omega) hu' hN' (by simp; omega) hat' ho
theorem Bz {M : Store} {v : Value} {ws : List Ww} (h : WW M v ws) (hl : ws.length ≤ 2 ^ 20) (hw : ∀ w ∈ ws, w.1.length ≤ 2 ^ 30) : R F.y #[v] M fun r M' => Up M M' ∧ vI M M' r (jH (ws.length + 1) ws []) := by
 refine R.cps fun Q hQ => ?_
 apply zg
 unfold qy
 exact Cg (M0 := M) h hl hw (fun r M' hu hr => hQ _ _ ⟨hu, hr⟩) ws.length 0 0 (ws.length + 1) [] _ M rfl (Nat.le_refl _) (fun q h1 h2 h3 => by omega) (by omega) (Ch.refl _ _) NK.nil (by simp) (by simp) (by rw [List.drop_zero])
end Go.G
