/- ... -/
import Derived.Test.YtnonfejhkbaikaaPR9
import Derived.Test.YtnonfejhkbaikaaPA6a
namespace Go.G
open Go.Ab Go.Proofs Go.RowKit
set_option linter.unusedVariables false
set_option linter.unusedSimpArgs false
set_option maxRecDepth 100000
theorem ym (w : Ww) (r : List Ww) (hq : ¬ w.2.2.2 = true) : mr (w :: r) = (match pE w.1 1 (fI.drop 1) with
    | none => none
    | some k => fl k r) := by
 rw [mr, if_neg hq]; rfl
section
variable {M0 : Store} {v x4 : Value} {w : Ww} {r : List Ww} {b : Nat} {Q : Value → Store → Prop}
theorem E8 (h : WW M0 v (w :: r)) (hw : ∀ x ∈ w :: r, x.1.length ≤ 2 ^ 40) (hb : M0.n ≤ b) (hq : ¬ w.2.2.2 = true) (hQ : ∀ q M, Up M0 M → CI q (mr (w :: r)) → Q q M) {M : Store} (hu : Up M0 M) (oA : Ob M b [iv 0, iv 0, sv []] Ty.f) (hL : LV sv Ty.a M x4 fI) :
    ∀ (k i : Nat), k + i = 12 → pE w.1 1 (fI.drop 1) = pE w.1 i (fI.drop i) → fL v (pt b) x4 (iv (i : Int)) M Q := by
 have hlen : fI.length = 12 := rfl
 have hone := ym w r hq
 intro k
 induction k with
 | zero =>
  intro i hi he
  apply v7
  unfold pc
  rw [hL.len, ab, hlen]
  show OP (ad .lss (iv (i : Int)) (iv ((12 : Nat) : Int))) _
  rw [ag, ae, if_neg (by omega)]
  apply CV
  unfold vq
  have e0 : fI.drop i = [] := List.drop_of_length_le (by omega)
  rw [e0] at he
  have he : pE w.1 1 (fI.drop 1) = none := he
  rw [he] at hone
  rw [Av, ab]
  refine bp (vs := [iv 0, iv 0, sv []]) oA rfl rfl rfl fun M2 c2 o2 n2 => ?_
  rw [o2.ldA (s := 3) rfl, ab]
  exact ⟨rfl, hQ _ _ (hu.ch c2 (by simpa using hb)) (by rw [hone]; exact ⟨(0, 0, []), rfl⟩)⟩
 | succ k ih =>
  intro i hi he
  apply v7
  unfold pc
  rw [hL.len, ab, hlen]
  show OP (ad .lss (iv (i : Int)) (iv ((12 : Nat) : Int))) _
  rw [ag, ae, if_pos (by omega)]
  apply CU
  unfold vp
  have hil : i < fI.length := by omega
  obtain ⟨p, e1, e2⟩ := hL.at hil .i64
  show OP (ixA 1 x4 (.int .i64 (i : Int))) _
  rw [e1, ab, e2, ab]
  show OP (ixA 4 v (iv ((0 : Nat) : Int))) _
  rw [iP (Sl.up h hu) (by simp) (f := 0) (w := sv w.1) rfl]
  rw [D3, ae]
  rw [List.drop_eq_getElem_cons hil, pE] at he
  split
  ·rename_i hne
   rw [if_neg hne] at he
   rw [ah _ (by omega)]
   exact ih (i + 1) (by omega) he
  ·rename_i hne
   rw [if_pos (Decidable.not_not.1 hne)] at he
   rw [he] at hone
   exact HZ h hw hb (by omega) (fun q M' hu' hr => hQ q M' hu' (by rw [hone]; exact hr)) hu oA
end
theorem H0 {M : Store} {v : Value} {ws : List Ww} (h : WW M v ws) (hw : ∀ w ∈ ws, w.1.length ≤ 2 ^ 40) (hwl : ws.length ≤ 2 ^ 40) : R F.c1 #[v] M fun r M' => Up M M' ∧ CI r (mr ws) := by
 refine R.cps fun Q hQ => ?_
 apply FO
 unfold zq
 refine aq fun M1 u1 oA n1 => ?_
 have oA : Ob M1 M.n [iv 0, iv 0, sv []] Ty.f := oA
 have bad : mr ws = none →
     OP (bB #[(.int .i64 0), (.int .i64 0), (.string ⟨#[]⟩)] [(0, 1), (1, 1), (2, 1)] []) fun t14 => OP (st 3 (.pointer (some ⟨M.n, 0, none⟩)) t14 M1) fun M2 => OP (ld 3 true (.pointer (some ⟨M.n, 0, none⟩)) M2) fun r2 => NTs [r2, (.bool false)] ∧ Q (.tuple #[r2, (.bool false)]) M2 := by
  intro he
  rw [Av, ab]
  refine bp (vs := [iv 0, iv 0, sv []]) oA rfl rfl rfl fun M2 c2 o2 n2 => ?_
  rw [o2.ldA (s := 3) rfl, ab]
  exact ⟨rfl, hQ _ _ ⟨u1.ch c2 (by simp), by rw [he]; exact ⟨(0, 0, []), rfl⟩⟩⟩
 rw [h.len, ab]
 show OP (ad .eql (iv (ws.length : Int)) _) _
 rw [bZ 0 0 rfl, ae]
 split
 ·rename_i h0
  have : ws = [] := List.length_eq_zero_iff.1 h0
  exact bad (by rw [this]; rfl)
 rename_i h0
 have hlen : 0 < ws.length := by omega
 obtain ⟨w, r, rfl⟩ : ∃ w r, ws = w :: r := by
  cases ws with
  | nil => simp at hlen
  | cons w r => exact ⟨w, r, rfl⟩
 show OP (ixA 4 v (iv ((0 : Nat) : Int))) _
 rw [iP (h.up u1) hlen (f := 3) (w := tv w.2.2.2) rfl]
 show BR (.bool w.2.2.2) _ _
 rw [au]
 split
 ·rename_i hq
  exact bad (by rw [mr, if_pos hq])
 ·rename_i hq
  refine Fz fun t M4 u4 hL => ?_
  exact E8 (M0 := M) h hw (Nat.le_refl _) hq (fun q M' hu hr => hQ q M' ⟨hu, hr⟩) (u1.trans u4) (oA.up u4) hL 11 1 rfl rfl
theorem fi {M : Store} {w : Ww} {t : List UInt8} {Q : Value → Store → Prop} (hQ : ∀ M', Up M M' → Q (tv (decide (w.1 = t) && !w.2.2.2)) M') : R F.j #[.agg (wws w).toArray, sv t] M Q := by
 apply Hc
 unfold Ca
 rw [FJ, ab]
 refine aq fun M1 u1 o1 n1 => ?_
 have o1 : Ob M1 M.n [sv w.1, iv w.2.1, iv w.2.2.1, tv w.2.2.2] Ty.c := o1
 simp only [aS, o1.l4]
 have hQ := hQ M1 u1
 show OP (ao .eql (sv w.1) (sv t)) _
 rw [jz, ae]
 split
 ·rename_i h
  rw [decide_eq_true h, Bool.true_and] at hQ
  rw [aM]
  exact ⟨rfl, hQ⟩
 ·rename_i h
  rw [decide_eq_false h, Bool.false_and] at hQ
  exact ⟨rfl, hQ⟩
end Go.G

namespace Go.G
open Go.Ab Go.Proofs Go.RowKit
set_option linter.unusedVariables false
set_option linter.unusedSimpArgs false
set_option maxRecDepth 100000
def jh (k : Int) : Int := if k = 7 ∨ k = 8 then 999 else if k = 2 then 15 else 0
theorem sW (k : Int) : cZ k = true ↔ k = 1 ∨ k = 10 := by unfold cZ; simp
theorem Ia (k : Int) : (if 0 > A8 k then 0 else A8 k) = jh k := by
 unfold A8 jh
 by_cases h2 : k = 2
 ·subst h2; decide
 ·by_cases h7 : k = 7
  ·subst h7; decide
  ·by_cases h8 : k = 8
   ·subst h8; decide
   ·simp [h2, h7, h8]
theorem Gf (first : Bool) (k n : Int) (s : List UInt8) : fT first (k, n, s) = true ↔ (1 ≤ k ∧ k ≤ 11) ∧ eS k = first ∧ (0 ≤ n ∧ n ≤ jh k) ∧ jt s = true ∧ (cZ k = true ∨ s = []) := by
 unfold fT Fu
 simp only
 rw [Bool.and_eq_true, beq_iff_eq, Ia]
 by_cases h1 : k < 1
 ·rw [if_pos h1]
  constructor
  ·intro h; cases h.1
  ·intro h; omega
 ·rw [if_neg h1]
  by_cases h2 : 11 < k
  ·rw [if_pos h2]
   constructor
   ·intro h; cases h.1
   ·intro h; omega
  ·rw [if_neg h2]
   by_cases ht : cZ k = true
   ·rw [if_pos ht]
    have h0 : jh k = 0 := by
     rcases (sW k).1 ht with rfl | rfl <;> rfl
    by_cases hn : n = 0
    ·rw [if_pos hn]
     exact ⟨fun h => ⟨by omega, h.2, by omega, h.1, .inl ht⟩, fun h => ⟨h.2.2.2.1, h.2.1⟩⟩
    ·rw [if_neg hn]
     exact ⟨fun h => (by cases h.1), fun h => (by omega)⟩
   ·rw [if_neg ht]
    by_cases hs : s = []
    ·rw [if_pos hs]
     by_cases hn : 0 ≤ n
     ·rw [if_pos hn]
      exact ⟨fun h => ⟨by omega, h.2, ⟨hn, of_decide_eq_true h.1⟩, by rw [hs]; rfl, .inr hs⟩, fun h => ⟨decide_eq_true h.2.2.1.2, h.2.1⟩⟩
     ·rw [if_neg hn]
      exact ⟨fun h => (by cases h.1), fun h => (by omega)⟩
    ·rw [if_neg hs]
     exact ⟨fun h => (by cases h.1), fun h => absurd h.2.2.2.2 (fun e => e.elim ht hs)⟩
section
variable {x0 : Value} {b i : Nat} {k n : Int} {s : List UInt8} {Q : Value → Store → Prop}
theorem IY {M : Store} (o : Ob M b [iv k, iv n, sv s] Ty.f) (hs : s.length ≤ 2 ^ 40) (hno : fT (decide (i = 0)) (k, n, s) = false → ∀ M', Up M M' → Q (tv false) M') (hyes : fT (decide (i = 0)) (k, n, s) = true → ∀ M', Up M M' → bd x0 (iv (i : Int)) M' Q) :
    dX x0 (iv (i : Int)) (pt b) (tv (eS k)) (tv (cZ k)) (iv (jh k)) M Q := by
 have hg := Gf (decide (i = 0)) k n s
 have no : ∀ M', Up M M' → ¬ ((1 ≤ k ∧ k ≤ 11) ∧ eS k = decide (i = 0) ∧ (0 ≤ n ∧ n ≤ jh k) ∧ jt s = true ∧ (cZ k = true ∨ s = [])) → NTs [(.bool false)] ∧ Q (.bool false) M' := fun M' hu hc => ⟨rfl, hno (by
  cases hgg : fT (decide (i = 0)) (k, n, s) with
  | false => rfl
  | true => exact absurd (hg.1 hgg) hc) M' hu⟩
 have u0 : Up M M := Ch.refl _ _
 apply zM
 unfold q6
 simp only [aS, o.l3]
 show OP (ad .lss (.int .i64 k) (.int .i64 1)) _
 rw [aQ, ae]
 split
 ·exact no M u0 (by omega)
 show OP (ad .gtr (.int .i64 k) (.int .i64 11)) _
 rw [tc, ae]
 split
 ·exact no M u0 (by omega)
 rw [bZ 0 0 rfl, F6, au]
 split
 ·rename_i hb
  exact no M u0 (fun h => by rw [h.2.1] at hb; simp at hb)
 rename_i hb
 have hb : eS k = decide (i = 0) := by simpa using hb
 show OP (ad .lss (.int .i64 n) (.int .i64 0)) _
 rw [aQ, ae]
 split
 ·exact no M u0 (by omega)
 show OP (ad .gtr (.int .i64 n) (.int .i64 (jh k))) _
 rw [tc, ae]
 split
 ·exact no M u0 (by omega)
 refine Fv hs ?_
 simp only [aS, o.l3]
 rw [aM, au]
 split
 ·rename_i hf
  exact no M u0 (fun h => by rw [h.2.2.2.1] at hf; simp at hf)
 rename_i hf
 have hf : jt s = true := by simpa using hf
 have yes : (cZ k = true ∨ s = []) → bd x0 (iv (i : Int)) M Q := fun h => hyes (hg.2 ⟨by omega, hb, by omega, hf, h⟩) M u0
 rw [aM]
 cases ht : cZ k with
 | true =>
  show BR3 (.bool (decide False)) _ _ _
  rw [nY, if_neg (fun h => h)]
  exact yes (.inl ht)
 | false =>
  show BR3 (.bool (decide True)) _ _ _
  rw [nY, if_pos trivial]
  show OP (ao .neq (sv s) (sv [])) _
  rw [D3, ae]
  split
  ·rename_i hne
   exact no M u0 (fun h => by rcases h.2.2.2.2 with h | h; rw [ht] at h; cases h; exact hne h)
  ·rename_i he
   exact yes (.inr (Decidable.not_not.1 he))
end
end Go.G

namespace Go.G
open Go.Ab Go.Proofs Go.RowKit
set_option linter.unusedVariables false
set_option linter.unusedSimpArgs false
set_option maxRecDepth 100000
section
variable {x0 : Value} {b i : Nat} {k n : Int} {s : List UInt8} {Q : Value → Store → Prop}
theorem Fg {M : Store} {tp : Int} (htp : tp = if k = 2 then 15 else 0) (o : Ob M b [iv k, iv n, sv s] Ty.f) (hs : s.length ≤ 2 ^ 40) (hno : fT (decide (i = 0)) (k, n, s) = false → ∀ M', Up M M' → Q (tv false) M') (hyes : fT (decide (i = 0)) (k, n, s) = true → ∀ M', Up M M' → bd x0 (iv (i : Int)) M' Q) :
    ax x0 (iv (i : Int)) (pt b) (tv (eS k)) (tv (cZ k)) (iv tp) M Q := by
 have h5 := IY (x0 := x0) (i := i) o hs hno hyes
 apply zL
 unfold qZ
 simp only [aS, o.l3]
 show OP (ad .eql (.int .i64 k) (.int .i64 7)) _
 rw [dN, ae]
 split
 ·rename_i h7
  have : jh k = 999 := by unfold jh; rw [if_pos (.inl h7)]
  rw [this] at h5
  exact h5
 ·rename_i h7
  show OP (ad .eql (.int .i64 k) (.int .i64 8)) _
  rw [dN, ae]
  split
  ·rename_i h8
   have : jh k = 999 := by unfold jh; rw [if_pos (.inr h8)]
   rw [this] at h5
   exact h5
  ·rename_i h8
   have : jh k = tp := by unfold jh; rw [if_neg (fun h => h.elim h7 h8), htp]
   rw [this] at h5
   exact h5
theorem IX {M : Store} (o : Ob M b [iv k, iv n, sv s] Ty.f) (hs : s.length ≤ 2 ^ 40) (hno : fT (decide (i = 0)) (k, n, s) = false → ∀ M', Up M M' → Q (tv false) M') (hyes : fT (decide (i = 0)) (k, n, s) = true → ∀ M', Up M M' → bd x0 (iv (i : Int)) M' Q) :
    ∀ (bb : Bool), bb = eS k → ((k = 1 → cZ k = true) ∧ True) → ∀ (tt : Bool), tt = cZ k → (OP (ad .eql (iv k) (.int .i64 2)) fun t41 => BR t41 (ax x0 (iv (i : Int)) (pt b) (.bool bb) (.bool tt) (.int .i64 15) M Q) (ax x0 (iv (i : Int)) (pt b) (.bool bb) (.bool tt) (.int .i64 0) M Q)) := by
 intro bb hbb _ tt htt
 subst hbb; subst htt
 show OP (ad .eql (.int .i64 k) (.int .i64 2)) _
 rw [dN, ae]
 split
 ·rename_i h2; exact Fg (tp := 15) (by rw [if_pos h2]) o hs hno hyes
 ·rename_i h2; exact Fg (tp := 0) (by rw [if_neg h2]) o hs hno hyes
end
theorem FM {M0 : Store} {v : Value} {l : List Dw} (h : DS M0 v l) (hl : l.length ≤ 2 ^ 40) (hs : ∀ d ∈ l, d.2.2.length ≤ 2 ^ 40) {Q : Value → Store → Prop} (hQ : ∀ M, Up M0 M → Q (tv (okA l)) M) :
    ∀ (k i : Nat) (M : Store), k + i = l.length → Up M0 M → jQ 0 l = jQ i (l.drop i) → dW v (iv (i : Int)) M Q := by
 intro k
 induction k with
 | zero =>
  intro i M hi hu ho
  apply rS
  unfold lO
  rw [(Sl.up h hu).lenV, ab]
  show OP (ad .lss (iv (i : Int)) (iv (l.length : Int))) _
  rw [ag, ae, if_neg (by omega)]
  apply zK
  unfold qY
  have hQ := hQ M hu
  unfold okA at hQ
  rw [ho, List.drop_of_length_le (by omega)] at hQ
  have : jQ i ([] : List Dw) = true := rfl
  rw [this, Bool.true_and] at hQ
  rw [(Sl.up h hu).lenV, ab]
  show OP (ad .geq (iv (l.length : Int)) _) _
  rw [wD 1 1 rfl, ae]
  split
  ·rename_i h1
   rw [decide_eq_true h1, Bool.true_and] at hQ
   rw [ab]
   show OP (ad .leq (iv (l.length : Int)) _) _
   rw [DE 8 8 rfl]
   exact ⟨rfl, hQ⟩
  ·rename_i h1
   rw [decide_eq_false h1, Bool.false_and] at hQ
   exact ⟨rfl, hQ⟩
 | succ k ih =>
  intro i M hi hu ho
  have hil : i < l.length := by omega
  apply rS
  unfold lO
  rw [(Sl.up h hu).lenV, ab]
  show OP (ad .lss (iv (i : Int)) (iv (l.length : Int))) _
  rw [ag, ae, if_pos hil]
  apply zJ
  unfold qX
  rw [Jq (Sl.up h hu) hil]
  have hsl := hs _ (List.getElem_mem hil)
  rw [BM, dif_pos hil] at ho
  generalize l[i] = d at *
  refine aq fun M1 u1 o1 n1 => ?_
  refine bp (vs := dcs d) o1 rfl rfl (s4 _) fun M2 c2 o2 n2 => ?_
  have hu2 : Up M0 M2 := hu.trans (u1.ch c2 (by simp))
  obtain ⟨k1, n, s⟩ := d
  have o2 : Ob M2 M.n [iv k1, iv n, sv s] Ty.f := o2
  have hno : fT (decide (i = 0)) (k1, n, s) = false → ∀ M', Up M2 M' → Q (tv false) M' := fun hg M' hu' => by
   have hQ := hQ M' (hu2.trans hu')
   unfold okA at hQ
   rw [ho, hg, Bool.false_and, Bool.false_and] at hQ
   exact hQ
  have hyes : fT (decide (i = 0)) (k1, n, s) = true → ∀ M', Up M2 M' → bd v (iv (i : Int)) M' Q := fun hg M' hu' => by
   apply zN
   unfold q7
   rw [ah _ (by omega)]
   exact ih (i + 1) M' (by omega) (hu2.trans hu') (by rw [ho, hg, Bool.true_and])
  have main := IX (x0 := v) (i := i) o2 hsl hno hyes
  simp only [aS, o2.l3]
  show OP (ad .eql (.int .i64 k1) (.int .i64 1)) _
  have hE : ∀ (c : Int) (K : Value → Prop), OP (ad .eql (iv k1) (.int .i64 c)) K = K (.bool (decide (k1 = c))) := fun c K => dN .i64 k1 c K
  have e1 := hE 1; have e2 := hE 2; have e3 := hE 3; have e10 := hE 10
  rw [dN, ae]
  split
  ·rename_i h1
   rw [e1, ae, if_pos h1]
   exact main true (by unfold eS; rw [decide_eq_true h1]; rfl) ⟨fun _ => (sW k1).2 (.inl h1), trivial⟩ true ((sW k1).2 (.inl h1)).symm
  ·rename_i h1
   have ht : decide (k1 = 10) = cZ k1 := by unfold cZ; rw [decide_eq_false h1, Bool.false_or]
   rw [e2, ae]
   split
   ·rename_i h2
    rw [e1, ae, if_neg h1, e10]
    exact main true (by unfold eS; rw [decide_eq_true h2, Bool.true_or, Bool.or_true]) ⟨fun e => absurd e h1, trivial⟩ _ ht
   ·rename_i h2
    rw [e3, e1, ae, if_neg h1, e10]
    exact main _ (by unfold eS; rw [decide_eq_false h1, decide_eq_false h2, Bool.false_or, Bool.false_or]) ⟨fun e => absurd e h1, trivial⟩ _ ht
theorem Ik {M : Store} {v : Value} {l : List Dw} (h : DS M v l) (hl : l.length ≤ 2 ^ 40) (hs : ∀ d ∈ l, d.2.2.length ≤ 2 ^ 40) : R F.T #[v] M fun r M' => Up M M' ∧ r = tv (okA l) := by
 refine R.cps fun Q hQ => ?_
 apply CN
 unfold vi
 exact FM h hl hs (fun M' hu => hQ _ _ ⟨hu, rfl⟩) l.length 0 M rfl (Ch.refl _ _) rfl
end Go.G

namespace Go.G
open Go.Ab Go.Proofs Go.RowKit
set_option linter.unusedVariables false
set_option linter.unusedSimpArgs false
set_option maxRecDepth 100000
def jR : Nat → List Ww → List Dw → Option (List Dw)
 | 0, _, _ => none
 | k + 1, ws, acc => match mr (ws.takeWhile fun w => !dO w) with
  | none => none
  | some d => match ws.dropWhile fun w => !dO w with
   | [] => Ge (acc ++ [d])
   | _ :: r => jR k r (acc ++ [d])
theorem CC {p : Ww → Bool} : ∀ (l : List Ww) (j : Nat), (∀ q (h : q < j) (h2 : q < l.length), p l[q] = true) → j ≤ l.length → (∀ h : j < l.length, p l[j] = false) → l.takeWhile p = l.take j ∧ l.dropWhile p = l.drop j
 | [], j, _, hj, _ => by simp at hj; subst hj; exact ⟨rfl, rfl⟩
 | x :: l, 0, _, _, h0 => by
  have : p x = false := h0 (by simp)
  simp [this]
 | x :: l, j + 1, hp, hj, h0 => by
  have hx : p x = true := hp 0 (by omega) (by simp)
  have ih := CC (p := p) l j (fun q h h2 => by have := hp (q + 1) (by omega) (by simpa using h2); simpa using this) (by simpa using hj) (fun h => by have := h0 (by simpa using h); simpa using this)
  simp [hx, ih.1, ih.2]
section
variable {M0 : Store} {v : Value} {ws : List Ww} {o : Option (List Dw)} {Q : Value → Store → Prop}
theorem DW (hQ : ∀ r M, Up M0 M → ve M0 M r o → Q r M) {M : Store} {x4 : Value} {acc : List Dw} (hu : Up M0 M) (hN : NDS M0 M x4 acc) (hl : acc.length ≤ 2 ^ 30) (hs : ∀ d ∈ acc, d.2.2.length ≤ 2 ^ 40) (ho : Ge acc = o) : fc x4 M Q := by
 apply v5
 unfold mR
 unfold Ge at ho
 refine (Ik hN.lv (by omega) hs).mono fun r M1 ⟨u1, hr⟩ => ?_
 subst hr
 rw [aM, au]
 split
 ·rename_i h
  rw [if_neg (by simpa using h)] at ho
  exact ⟨rfl, hQ _ _ (hu.trans u1) (by rw [← ho]; rfl)⟩
 ·rename_i h
  rw [if_pos (by simpa using h)] at ho
  have hN1 := Nw.up hN u1
  refine ⟨?_, hQ _ _ (hu.trans u1) (by rw [← ho]; exact ⟨x4, rfl, hN1⟩)⟩
  obtain ⟨a, c, rfl⟩ := hN1.sl.slice
  rfl
end
end Go.G

namespace Go.G
open Go.Ab Go.Proofs Go.RowKit
set_option linter.unusedVariables false
set_option linter.unusedSimpArgs false
set_option maxRecDepth 100000
theorem DU {k : Nat} {r : List Ww} {d : Dw} {m : Nat} (h : fl k r = some d) (hw : ∀ w ∈ r, w.1.length ≤ m) : d.2.2.length ≤ m := by
 unfold fl at h
 split at h
 ·match r, h, hw with
  | [], h, _ => cases h
  | [x], h, hw =>
   simp only [A9] at h
   split at h
   ·injection h with h; subst h; exact hw x (by simp)
   ·cases h
  | _ :: _ :: _, h, _ => cases h
 ·split at h
  ·match r, h with
   | [], h => cases h
   | [x], h =>
    simp only [AQ] at h
    split at h
    ·cases h
    ·split at h
     ·injection h with h; subst h; simp
     ·cases h
   | _ :: _ :: _, h => cases h
  ·split at h
   ·injection h with h; subst h; simp
   ·cases h
theorem Fh {ws : List Ww} {d : Dw} {m : Nat} (h : mr ws = some d) (hw : ∀ w ∈ ws, w.1.length ≤ m) : d.2.2.length ≤ m := by
 match ws, h, hw with
 | [], h, _ => cases h
 | w :: r, h, hw =>
  by_cases hq : w.2.2.2 = true
  ·rw [mr, if_pos hq] at h; cases h
  ·rw [ym w r hq] at h
   split at h
   ·cases h
   ·exact DU h fun x hx => hw x (by simp [hx])
theorem I5 {M0 : Store} {v : Value} {ws : List Ww} {o : Option (List Dw)} {Q : Value → Store → Prop} (h : WW M0 v ws) (hl : ws.length ≤ 2 ^ 20) (hw : ∀ w ∈ ws, w.1.length ≤ 2 ^ 30) (hQ : ∀ r M, Up M0 M → ve M0 M r o → Q r M)
    {from_ i k : Nat} {acc : List Dw} {x4 : Value} {M1 : Store} (hi : i ≤ ws.length) (hf : from_ ≤ i) (hs : (ws.take i).drop from_ = (ws.drop from_).takeWhile (fun w => !dO w)) (hu1 : Up M0 M1) (hN : NDS M0 M1 x4 acc) (hal : acc.length ≤ from_) (hat : ∀ d ∈ acc, d.2.2.length ≤ 2 ^ 40) (ho : jR (k + 1) (ws.drop from_) acc = o)
    (hgo : ∀ d, mr ((ws.drop from_).takeWhile fun w => !dO w) = some d → ∀ (x4' : Value) (M' : Store), Up M0 M' → NDS M0 M' x4' (acc ++ [d]) → (∀ e ∈ acc ++ [d], e.2.2.length ≤ 2 ^ 40) → cJ v x4' (iv ((i + 1 : Nat) : Int)) (iv (i : Int)) M' Q) :
    dA v x4 (iv (from_ : Int)) (iv (i : Int)) M1 Q := by
 apply v6
 unfold mS
 have hu0 : WW M1 v ws := Sl.up h hu1
 obtain ⟨v2, e2, g2⟩ := LK.cut ji hu0 (lo := some (.int .i64 (from_ : Int))) (hi := some (.int .i64 (i : Int))) (a := from_) (r := i) (by simp only [ar]; rw [if_pos ⟨by omega, by omega⟩]; rfl) (by simp only [ar]; rw [if_pos ⟨by omega, by omega⟩]; rfl) hi hf
 show OP (slV 4 Ty.c v (some (.int .i64 (from_ : Int))) (some (.int .i64 (i : Int))) M1) _
 rw [e2, ab]
 rw [hs] at g2
 have hsub : ∀ w ∈ (ws.drop from_).takeWhile (fun w => !dO w), w ∈ ws := fun w hm => List.mem_of_mem_drop ((List.takeWhile_prefix _).subset hm)
 have hsl := (List.takeWhile_prefix (l := ws.drop from_) (fun w => !dO w)).length_le
 rw [List.length_drop] at hsl
 refine (H0 g2 (fun w hm => by have := hw w (hsub w hm); omega) (by omega)).mono fun r M2 ⟨u2, hr⟩ => ?_
 rw [jR] at ho
 cases hone : mr ((ws.drop from_).takeWhile fun w => !dO w) with
 | none =>
  rw [hone] at hr ho
  obtain ⟨d, rfl⟩ := hr
  rw [(tp2 _ _).1, (tp2 _ _).2]
  refine aq fun M3 u3 o3 n3 => ?_
  refine bp (vs := dcs d) o3 rfl rfl (s4 d) fun M4 c4 o4 n4 => ?_
  rw [aM]
  show BR (.bool true) _ _
  rw [bC]
  exact ⟨rfl, hQ _ _ ((hu1.trans u2).trans (u3.ch c4 (by simp))) (by rw [← ho]; rfl)⟩
 | some d =>
  rw [hone] at hr
  have hr : r = .tuple #[dv d, .bool true] := hr
  subst hr
  rw [(tp2 _ _).1, (tp2 _ _).2]
  refine aq fun M3 u3 o3 n3 => ?_
  refine bp (vs := dcs d) o3 rfl rfl (s4 d) fun M4 c4 o4 n4 => ?_
  have hu4 := (hu1.trans u2).trans (u3.ch c4 (by simp))
  have hN4 : NDS M0 M4 x4 acc := Nw.up (Nw.up hN u2) (u3.ch c4 (by simp))
  rw [aM]
  show BR (.bool false) _ _
  rw [aI, o4.ldA (s := 3) rfl, ab]
  rw [show al (.agg #[(.int .i64 0), (.int .i64 0), (.string ⟨#[]⟩)]) 3 1 [(0, .agg (dcs d).toArray)] = some (dcs d) from Jg d, ab, aY]
  refine NK.app1 (M0 := M0) (Mb := M0) Ck hu4 (Nat.le_refl _) hu4.n hN4 d rfl (by omega) fun x4' M' hu' hN' _ _ => ?_
  rw [ah _ (by omega)]
  refine hgo d hone x4' M' hu' hN' fun e he => ?_
  rcases List.mem_append.1 he with he | he
  ·exact hat e he
  ·have : e = d := by simpa using he
   subst this
   have := Fh hone (m := 2 ^ 30) fun w hm => hw w (hsub w hm)
   omega
end Go.G

namespace Go.G
open Go.Ab Go.Proofs Go.RowKit
set_option linter.unusedVariables false
set_option linter.unusedSimpArgs false
set_option maxRecDepth 100000
theorem FA {ws : List Ww} {from_ i : Nat} (hf : from_ ≤ i) (hi : i ≤ ws.length) (hsem : ∀ q (h1 : from_ ≤ q) (h2 : q < i) (h3 : q < ws.length), dO ws[q] = false) (hend : ∀ h : i < ws.length, dO ws[i] = true) :
    (ws.drop from_).takeWhile (fun w => !dO w) = (ws.take i).drop from_ ∧ (ws.drop from_).dropWhile (fun w => !dO w) = ws.drop i := by
 have h := CC (p := fun w => !dO w) (ws.drop from_) (i - from_) (fun q h h2 => by
  rw [List.length_drop] at h2
  rw [List.getElem_drop, hsem (from_ + q) (by omega) (by omega) (by omega)]; rfl) (by rw [List.length_drop]; omega) (fun h => by
  rw [List.length_drop] at h
  have e : from_ + (i - from_) = i := by omega
  have := hend (by omega)
  simp only [List.getElem_drop, e, this]; rfl)
 refine ⟨by rw [h.1, List.drop_take], ?_⟩
 rw [h.2, List.drop_drop, show from_ + (i - from_) = i by omega]
theorem BP {M0 : Store} {v : Value} {ws : List Ww} {o : Option (List Dw)} {Q : Value → Store → Prop} (h : WW M0 v ws) (hl : ws.length ≤ 2 ^ 20) (hw : ∀ w ∈ ws, w.1.length ≤ 2 ^ 30) (hQ : ∀ r M, Up M0 M → ve M0 M r o → Q r M) :
    ∀ (n from_ i k : Nat) (acc : List Dw) (x4 : Value) (M : Store), n + i = ws.length → from_ ≤ i → (∀ q (h1 : from_ ≤ q) (h2 : q < i) (h3 : q < ws.length), dO ws[q] = false) → ws.length - from_ < k → Up M0 M → NDS M0 M x4 acc → acc.length ≤ from_ → (∀ d ∈ acc, d.2.2.length ≤ 2 ^ 40) → jR k (ws.drop from_) acc = o →
     cI v x4 (iv (from_ : Int)) (iv (i : Int)) M Q := by
 intro n
 induction n with
 | zero =>
  intro from_ i k acc x4 M hn hf hsem hk hu hN hal hat ho
  obtain ⟨k, rfl⟩ : ∃ k', k = k' + 1 := ⟨k - 1, by omega⟩
  apply iA
  unfold fe
  rw [(Sl.up h hu).lenV, ab]
  show OP (ad .leq (iv (i : Int)) (iv (ws.length : Int))) _
  rw [kL, ae, if_pos (by omega)]
  apply mX
  unfold iq
  rw [(Sl.up h hu).lenV, ab]
  show OP (ad .lss (iv (i : Int)) (iv (ws.length : Int))) _
  rw [ag, ae, if_neg (by omega)]
  obtain ⟨s1, s2⟩ := FA hf (by omega) hsem (fun hh => by omega)
  refine I5 h hl hw hQ (k := k) (by omega) hf s1.symm hu hN hal hat ho fun d hone x4' M' hu' hN' hat' => ?_
  rw [jR, hone] at ho
  simp only [s2] at ho
  rw [List.drop_of_length_le (by omega)] at ho
  apply iB
  unfold ff
  rw [ah _ (by omega)]
  apply iA
  unfold fe
  rw [(Sl.up h hu').lenV, ab]
  show OP (ad .leq (iv ((i + 1 : Nat) : Int)) (iv (ws.length : Int))) _
  rw [kL, ae, if_neg (by omega)]
  exact DW hQ hu' hN' (by simp; omega) hat' ho
 | succ n ih =>
  intro from_ i k acc x4 M hn hf hsem hk hu hN hal hat ho
  obtain ⟨k, rfl⟩ : ∃ k', k = k' + 1 := ⟨k - 1, by omega⟩
  have hil : i < ws.length := by omega
  apply iA
  unfold fe
  rw [(Sl.up h hu).lenV, ab]
  show OP (ad .leq (iv (i : Int)) (iv (ws.length : Int))) _
  rw [kL, ae, if_pos (by omega)]
  apply mX
  unfold iq
  rw [(Sl.up h hu).lenV, ab]
  show OP (ad .lss (iv (i : Int)) (iv (ws.length : Int))) _
  rw [ag, ae, if_pos hil, dP (Sl.up h hu) hil]
  refine fi (t := [59]) fun M1 u1 => ?_
  have hu1 := hu.trans u1
  have hN1 : NDS M0 M1 x4 acc := Nw.up hN u1
  show OP (aun .not (.bool (dO ws[i]))) _
  rw [aM, au]
  split
  ·rename_i hs
   have hs : dO ws[i] = false := by simpa using hs
   apply iB
   unfold ff
   rw [ah _ (by omega)]
   refine ih from_ (i + 1) (k + 1) acc x4 M1 (by omega) (by omega) (fun q h1 h2 h3 => ?_) hk hu1 hN1 hal hat ho
   by_cases e : q = i
   ·subst e; exact hs
   ·exact hsem q h1 (by omega) h3
  ·rename_i hs
   have hs : dO ws[i] = true := by simpa using hs
   obtain ⟨s1, s2⟩ := FA hf (by omega) hsem (fun _ => hs)
   refine I5 h hl hw hQ (k := k) (by omega) hf s1.symm hu1 hN1 hal hat ho fun d hone x4' M' hu' hN' hat' => ?_
   rw [jR, hone] at ho
   rw [List.drop_eq_getElem_cons hil] at s2
   simp only [s2] at ho
   apply iB
   unfold ff
   rw [ah _ (by omega)]
   exact ih (i + 1) (i + 1) k (acc ++ [d]) x4' M' (by omega) (Nat.le_refl _) (fun q h1 h2 h3 => by omega) (by omega) hu' hN' (by simp; omega) hat' ho
theorem Bc {M : Store} {v : Value} {ws : List Ww} (h : WW M v ws) (hl : ws.length ≤ 2 ^ 20) (hw : ∀ w ∈ ws, w.1.length ≤ 2 ^ 30) : R F.x #[v] M fun r M' => Up M M' ∧ ve M M' r (jR (ws.length + 1) ws []) := by
 refine R.cps fun Q hQ => ?_
 apply yT
 unfold qh
 exact BP (M0 := M) h hl hw (fun r M' hu hr => hQ _ _ ⟨hu, hr⟩) ws.length 0 0 (ws.length + 1) [] _ M rfl (Nat.le_refl _) (fun q h1 h2 h3 => by omega) (by omega) (Ch.refl _ _) NK.nil (by simp) (by simp) (by rw [List.drop_zero])
end Go.G
