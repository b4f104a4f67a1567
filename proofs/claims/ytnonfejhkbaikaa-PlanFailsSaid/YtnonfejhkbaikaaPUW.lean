/- ... -/
import Derived.Test.YtnonfejhkbaikaaPGN
import Derived.Test.YtnonfejhkbaikaaPN1
import Derived.Test.YtnonfejhkbaikaaPAbVec2
import Derived.Test.YtnonfejhkbaikaaPAbStep
import Derived.Test.YtnonfejhkbaikaaPUQ
import Derived.Test.YtnonfejhkbaikaaPUG
import Derived.Test.YtnonfejhkbaikaaPQ4
namespace Go.G
open Go.Ab Go.Proofs Go.RowKit
set_option linter.unusedVariables false
set_option linter.unusedSimpArgs false
set_option maxRecDepth 100000
def wcs (w : Wd) : List Value := [sv w.1, iv (w.2.1 : Int), iv (w.2.2.1 : Int), tv w.2.2.2]
def wv (w : Wd) : Value := .agg (wcs w).toArray
def fcs (f : Ft) : List Value := [iv (f.1 : Int), iv (f.2.1 : Int), iv (f.2.2 : Int)]
def fv (f : Ft) : Value := .agg (fcs f).toArray
def wv0 : Wd := ([], 0, 0, false)
def fv0 : Ft := (0, 0, 0)
theorem Id0 (w : Wd) : (wcs w).length = 4 := rfl
theorem oU (w : Wd) : (wcs w).all (·.oneCell') = true := by obtain ⟨a, b, c, d⟩ := w; kernel_rfl
theorem kU (f : Ft) : (fcs f).all (·.oneCell') = true := by obtain ⟨a, b, c⟩ := f; kernel_rfl
theorem ldF {M : Store} {b : Nat} {f : Ft} {T : TypeId} (h : Ob M b (fcs f) T) : ld 3 true (.pointer (some ⟨b, 0, none⟩)) M = some (fv f) := h.ldA rfl
theorem ldW {M : Store} {b : Nat} {w : Wd} {T : TypeId} (h : Ob M b (wcs w) T) : ld 4 true (.pointer (some ⟨b, 0, none⟩)) M = some (wv w) := h.ldA rfl
theorem GU (K : Value → Prop) : OP (bB #[(.int .i64 0), (.int .i64 0), (.int .i64 0)] [(0, 1), (1, 1), (2, 1)] []) K = K (fv fv0) := by kernel_rfl
theorem JN (a b c : Int) (K : Value → Prop) : OP (bB #[(.int .i64 0), (.int .i64 0), (.int .i64 0)] [(0, 1), (1, 1), (2, 1)] [(0, .int .i64 a), (1, .int .i64 b), (2, .int .i64 c)]) K = K (.agg #[.int .i64 a, .int .i64 b, .int .i64 c]) := by kernel_rfl
theorem mB {p : UInt8 → Bool} : ∀ (l : List UInt8) (i : Nat), (∀ j (hj : j < i) (h : j < l.length), p l[j] = true) → i ≤ l.length → (i = l.length ∨ ∃ h : i < l.length, p l[i] = false) → l.takeWhile p = l.take i
 | [], i, _, h, _ => by simp
 | c :: l, 0, _, _, h => by
  rcases h with h | ⟨_, h⟩
  ·simp at h
  ·rw [List.takeWhile_cons]; simp at h; simp [h]
 | c :: l, i + 1, hp, hl, h => by
  have hc : p c = true := hp 0 (by omega) (by simp)
  rw [List.takeWhile_cons, if_pos hc, List.take_succ_cons, mB l i (fun j hj hh => hp (j + 1) (by omega) (by simp; omega)) (by simpa using hl)]
  rcases h with h | ⟨h1, h2⟩
  ·exact .inl (by simpa using h)
  ·exact .inr ⟨by simpa using h1, by simpa using h2⟩
theorem Jw : Ty.c ≠ Ty.h := by decide
theorem IT : Ty.c ≠ Ty.e := by decide
theorem IR : Ty.h ≠ Ty.e := by decide
theorem IS : Ty.o ≠ Ty.e := by decide
abbrev WS (M : Store) (v : Value) (ws : List Wd) : Prop := LK 4 wcs Ty.c M v ws
abbrev NWS (M0 M : Store) (v : Value) (ws : List Wd) : Prop := NK 4 wcs Ty.c M0 M v ws
theorem JO (w : Wd) (K : List Value → Prop) : OP (al (.agg #[(.string ⟨#[]⟩), (.int .i64 0), (.int .i64 0), (.bool false)]) 4 1 [(0, wv w)]) K = K (wcs w) := by
 obtain ⟨a, b, c, d⟩ := w; kernel_rfl
theorem JS {s e M v n cs} (h : Sl s e M v n cs) (f : Ft) : NTs [v, .agg (fcs f).toArray] := by obtain ⟨a, c, rfl⟩ := h.slice; rfl
end Go.G

namespace Go.G
open Go.Ab Go.Proofs Go.RowKit
set_option linter.unusedVariables false
set_option linter.unusedSimpArgs false
set_option maxRecDepth 100000
theorem uR {M : Store} {c : UInt8} {Q : Value → Store → Prop} (hQ : Q (tv (eF c)) M) : R F.z #[bv c] M Q := by
 apply Ew
 unfold xO
 rw [cU (d := 58) (n := 58) rfl, ae]
 split
 ·rename_i h; subst h; exact ⟨rfl, hQ⟩
 ·rename_i h1
  rw [cU (d := 124) (n := 124) rfl, ae]
  split
  ·rename_i h; subst h; exact ⟨rfl, hQ⟩
  ·rename_i h2
   rw [cU (d := 61) (n := 61) rfl, ae]
   split
   ·rename_i h; subst h; exact ⟨rfl, hQ⟩
   ·rename_i h3
    rw [cU (d := 59) (n := 59) rfl, ae]
    split
    ·rename_i h; subst h; exact ⟨rfl, hQ⟩
    ·rename_i h4
     rw [cU (d := 44) (n := 44) rfl]
     have e : eF c = decide (c = 44) := by
      unfold eF
      have e1 : (c == 58) = false := by simpa using h1
      have e2 : (c == 124) = false := by simpa using h2
      have e3 : (c == 61) = false := by simpa using h3
      have e4 : (c == 59) = false := by simpa using h4
      rw [e1, e2, e3, e4]; rfl
     rw [e] at hQ
     exact ⟨rfl, hQ⟩
theorem Fs {M : Store} {k l c : Nat} {Q : Value → Store → Prop} (hQ : ∀ M', Up M M' → Q (fv (k, l, c)) M') : R F.i #[iv (k : Int), iv (l : Int), iv (c : Int)] M Q := by
 apply CS
 unfold vo
 refine aq fun M1 u1 o1 n1 => ?_
 rw [JN]
 exact HO (v2 := fcs (k, l, c)) u1 o1 (Nat.le_refl _) rfl rfl (kU _) fun M' hu' _ _ => hQ M' hu'
def pP (line col i : Nat) (t : List UInt8) : Value → Prop := fun r => match aR line col 34 t with
 | .inl f => ∃ (w : Wd) (p : Nat), r = .tuple #[wv w, iv 0, iv (f.1 : Int), iv (p : Int)] ∧ p + col = f.2.2 + i ∧ f.2.1 = line ∧ i ≤ p
 | .inr (w, n) => r = .tuple #[wv w, iv ((i + n : Nat) : Int), iv 0, iv 0]
section
variable {M0 M : Store} {v : Value} {b t : List UInt8} {i line col b5 b6 : Nat}
def Ds (i : Nat) : Option Nat → Int
 | none => -1
 | some q => ((i + 1 + q : Nat) : Int)
theorem yZ (x : List UInt8) (c : UInt8) : dg (x ++ [c]) = match dg x with
    | some q => some q
    | none => if fH c then none else some x.length := by
 unfold dg
 rw [List.findIdx?_append]
 cases List.findIdx? (fun d => !fH d) x with
 | some q => rfl
 | none =>
  cases h : fH c <;> simp [h]
theorem th (hu : Up M0 M) {w w6 : Wd} (o5 : Ob M b5 (wcs w) Ty.c) (o6 : Ob M b6 (wcs w6) Ty.c) (hb6 : M0.n ≤ b6) {x y z : Int} {Q : Value → Store → Prop} (hQ : ∀ M', Up M0 M' → Q (.tuple #[wv w, iv x, iv y, iv z]) M') :
    OP (ld 4 true (.pointer (some ⟨b5, 0, none⟩)) M) fun t62 => OP (st 4 (.pointer (some ⟨b6, 0, none⟩)) t62 M) fun M1 => OP (ld 4 true (.pointer (some ⟨b6, 0, none⟩)) M1) fun r6 => NTs [r6, iv x, iv y, iv z] ∧ Q (.tuple #[r6, iv x, iv y, iv z]) M1 := by
 rw [ldW o5, ab]
 refine bp (vs := wcs w) o6 rfl rfl (oU _) fun M1 c1 o61 n1 => ?_
 rw [ldW o61, ab]
 exact ⟨rfl, hQ M1 (hu.ch c1 (by simpa using hb6))⟩
theorem pQ (h : B M v b) (hl : b.length ≤ 2 ^ 27) (hi : i < b.length) (ht : b.drop (i + 1) = t) {j : Nat} (hj : i + 1 + j ≤ b.length) (htw : t.takeWhile inQ = t.take j) (hu : Up M0 M) (hb5 : M0.n ≤ b5) (hb6 : M0.n ≤ b6) (hne : b5 ≠ b6)
    (o5 : Ob M b5 (wcs ([], line, col, false)) Ty.c) (o6 : Ob M b6 (wcs wv0) Ty.c) {Q : Value → Store → Prop} (hQ : ∀ r M', Up M0 M' → pP line col i t r → Q r M') :
    dq v (iv (i : Int)) (.pointer (some ⟨b5, 0, none⟩)) (.pointer (some ⟨b6, 0, none⟩)) (iv ((i + 1 + j : Nat) : Int)) (iv (Ds i (dg (t.take j)))) M Q := by
 apply yV
 unfold qj
 have htl : t.length = b.length - (i + 1) := by rw [← ht, List.length_drop]
 have hdw : t.dropWhile inQ = t.drop j := by
  have h1 := List.takeWhile_append_dropWhile (p := inQ) (l := t)
  have h2 := List.take_append_drop j t
  rw [htw] at h1
  exact List.append_cancel_left (h1.trans h2.symm)
 have hxl : (t.take j).length = j := by rw [List.length_take]; omega
 have quote : ∀ M' : Store, (t.drop j).head? ≠ some 34 → pP line col i t (.tuple #[wv ([], line, col, false), iv 0, iv 2, iv (i : Int)]) := by
  intro M' hq
  unfold pP
  have : aR line col 34 t = .inl (2, line, col) := by
   unfold aR
   rw [if_pos rfl, hdw, if_neg hq]
  rw [this]
  exact ⟨_, i, rfl, by simp only; omega, rfl, Nat.le_refl _⟩
 rw [gq h, wB, ae]
 split
 ·rename_i he
  refine th hu o5 o6 hb6 fun M' hu' => hQ _ _ hu' (quote M' ?_)
  rw [List.drop_of_length_le (by omega)]; simp
 ·rename_i he
  have hlt : i + 1 + j < b.length := by omega
  have hjt : j < t.length := by omega
  have hel : b[i + 1 + j] = t[j] := by
   have h1 : (b.drop (i + 1))[j]? = t[j]? := by rw [ht]
   rw [List.getElem?_drop, List.getElem?_eq_getElem hlt, List.getElem?_eq_getElem hjt] at h1
   exact Option.some.inj h1
  rw [gB h hlt, hel, cU (d := 10) (n := 10) rfl, ae]
  have hd := List.drop_eq_getElem_cons hjt
  split
  ·rename_i h10
   refine th hu o5 o6 hb6 fun M' hu' => hQ _ _ hu' (quote M' ?_)
   rw [hd, h10]; simp
  ·rename_i h10
   have h34 : t[j] = 34 := by
    have h1 := List.takeWhile_append_dropWhile (p := inQ) (l := t)
    have h2 : inQ t[j] = false := by
     cases hq : inQ t[j] with
     | false => rfl
     | true =>
      have : (t.dropWhile inQ) = t[j] :: t.drop (j + 1) := by rw [hdw, hd]
      have h3 := List.dropWhile_cons (p := inQ) (x := t[j]) (xs := t.drop (j + 1))
      rw [← this] at h3
      exfalso
      have h4 : ∀ (l : List UInt8) (c : UInt8) (r : List UInt8), l.dropWhile inQ = c :: r → inQ c = false := by
       intro l
       induction l with
       | nil => intro c r h; cases h
       | cons a l ih =>
        intro c r h
        rw [List.dropWhile_cons] at h
        cases ha : inQ a with
        | true => rw [ha] at h; exact ih c r h
        | false => rw [ha] at h; injection h with h _; rw [← h]; exact ha
      rw [h4 t _ _ this] at hq; cases hq
    unfold inQ at h2
    simp only [Bool.and_eq_false_iff, bne_eq_false_iff_eq] at h2
    rcases h2 with h2 | h2
    ·exact h2
    ·exact absurd h2 h10
   have hhd : (t.dropWhile inQ).head? = some 34 := by rw [hdw, hd, h34]; rfl
   rw [ah _ (by omega), Aw h (by omega) (by omega)]
   have hmid : (b.take (i + 1 + j)).drop (i + 1) = t.take j := by rw [List.drop_take, ht, Nat.add_sub_cancel_left]
   rw [hmid, aS]
   refine cY (i := 0) o5 (by simp [wcs]) (uE _) (DM _) fun M3 c3 o53 n3 => ?_
   have o53 : Ob M3 b5 (wcs (t.take j, line, col, false)) Ty.c := o53
   rw [aS]
   refine cY (i := 3) o53 (by simp [wcs]) (mf _) (DN _) fun M4 c4 o54 n4 => ?_
   have o54 : Ob M4 b5 (wcs (t.take j, line, col, true)) Ty.c := o54
   have o64 := (o6.fr c3 (by simpa using Ne.symm hne)).fr c4 (by simpa using Ne.symm hne)
   have hu4 : Up M0 M4 := (hu.ch c3 (by simpa using hb5)).ch c4 (by simpa using hb5)
   rw [aS, Ob.ld (o := 0) (v := sv (t.take j)) o54 rfl, ab, eK, hxl, wF 64 64 rfl, ae]
   split
   ·rename_i hlong
    refine th hu4 o54 o64 hb6 fun M' hu' => hQ _ _ hu' ?_
    unfold pP
    have : aR line col 34 t = .inl (3, line, col) := by
     unfold aR
     rw [if_pos rfl, if_pos hhd, htw, hxl, if_pos hlong]
    rw [this]
    exact ⟨_, i, rfl, by simp only; omega, rfl, Nat.le_refl _⟩
   ·rename_i hlong
    cases hfb : dg (t.take j) with
    | some q =>
     rw [show (iv (Ds i (some q))) = iv ((i + 1 + q : Nat) : Int) from rfl, wD 0 0 rfl, ae, if_pos (by omega)]
     refine th hu4 o54 o64 hb6 fun M' hu' => hQ _ _ hu' ?_
     unfold pP
     have : aR line col 34 t = .inl (1, line, col + 1 + q) := by
      unfold aR
      rw [if_pos rfl, if_pos hhd, htw, hxl, if_neg hlong, hfb]
     rw [this]
     exact ⟨_, i + 1 + q, rfl, by simp only; omega, rfl, by omega⟩
    | none =>
     show OP (ad .geq (.int .i64 (-1)) (.int .i64 0)) _
     rw [ta, ae, if_neg (by decide)]
     rw [ldW o54, ab, ah _ (by omega)]
     refine bp (vs := wcs (t.take j, line, col, true)) o64 rfl rfl (oU _) fun M7 c7 o67 n7 => ?_
     rw [ldW o67, ab]
     refine ⟨rfl, hQ _ _ (hu4.ch c7 (by simpa using hb6)) ?_⟩
     unfold pP
     have : aR line col 34 t = .inr ((t.take j, line, col, true), j + 2) := by
      unfold aR
      rw [if_pos rfl, if_pos hhd, htw, hxl, if_neg hlong, hfb]
     rw [this]
     show Value.tuple #[_, iv ((i + 1 + j + 1 : Nat) : Int), _, _] = .tuple #[_, iv ((i + (j + 2) : Nat) : Int), _, _]
     rw [show i + 1 + j + 1 = i + (j + 2) by omega]
theorem BN (h : B M v b) (hl : b.length ≤ 2 ^ 27) (hi : i < b.length) (ht : b.drop (i + 1) = t) (hu : Up M0 M) (hb5 : M0.n ≤ b5) (hb6 : M0.n ≤ b6) (hne : b5 ≠ b6)
    (o5 : Ob M b5 (wcs ([], line, col, false)) Ty.c) (o6 : Ob M b6 (wcs wv0) Ty.c) {Q : Value → Store → Prop} (hQ : ∀ r M', Up M0 M' → pP line col i t r → Q r M') :
    ∀ (d j : Nat), i + 1 + j + d = b.length → (∀ k (hk : k < j) (h : k < t.length), inQ t[k] = true) →
    aN v (iv (i : Int)) (.pointer (some ⟨b5, 0, none⟩)) (.pointer (some ⟨b6, 0, none⟩)) (iv ((i + 1 + j : Nat) : Int)) (iv (Ds i (dg (t.take j)))) M Q := by
 have htl : t.length = b.length - (i + 1) := by rw [← ht, List.length_drop]
 intro d
 induction d with
 | zero =>
  intro j hj hp
  apply qs
  unfold ka
  rw [gq h, ag, ae, if_neg (by omega)]
  exact pQ h hl hi ht (by omega) (mB t j hp (by omega) (.inl (by omega))) hu hb5 hb6 hne o5 o6 hQ
 | succ d ih =>
  intro j hj hp
  have hlt : i + 1 + j < b.length := by omega
  have hjt : j < t.length := by omega
  have hel : b[i + 1 + j] = t[j] := by
   have h1 : (b.drop (i + 1))[j]? = t[j]? := by rw [ht]
   rw [List.getElem?_drop, List.getElem?_eq_getElem hlt, List.getElem?_eq_getElem hjt] at h1
   exact Option.some.inj h1
  apply qs
  unfold ka
  rw [gq h, ag, ae, if_pos hlt, gB h hlt, hel, sz (d := 34) (n := 34) rfl, ae]
  split
  ·rename_i h34
   rw [gB h hlt, hel, sz (d := 10) (n := 10) rfl, ae]
   split
   ·rename_i h10
    have hin : inQ t[j] = true := by simp only [inQ, Bool.and_eq_true, bne_iff_ne]; exact ⟨h34, h10⟩
    have hnext := ih (j + 1) (by omega) fun k hk hk2 => by
     by_cases e : k = j
     ·subst e; exact hin
     ·exact hp k (by omega) hk2
    rw [List.take_succ_eq_append_getElem hjt, yZ, show i + 1 + (j + 1) = i + 1 + j + 1 by omega, show (t.take j).length = j by rw [List.length_take]; omega] at hnext
    apply yU
    unfold qi
    cases hfb : dg (t.take j) with
    | some q =>
     rw [hfb] at hnext
     rw [show (iv (Ds i (some q))) = iv ((i + 1 + q : Nat) : Int) from rfl, eD 0 0 rfl, ae, if_neg (by omega), ah _ (by omega)]
     exact hnext
    | none =>
     rw [hfb] at hnext
     simp only at hnext
     show OP (ad .lss (.int .i64 (-1)) (.int .i64 0)) _
     rw [aQ, ae, if_pos (by decide), gB h hlt, hel, sy (d := 32) (n := 32) rfl, nY]
     split
     ·rename_i hlo
      have : fH t[j] = false := by
       unfold fH
       rw [decide_eq_false (by rw [UInt8.le_iff_toNat_le]; rw [UInt8.lt_iff_toNat_lt] at hlo; omega), Bool.false_and]
      rw [this, if_neg (by decide)] at hnext
      rw [ah _ (by omega)]
      exact hnext
     ·rename_i hlo
      rw [gB h hlt, hel, sw (d := 126) (n := 126) rfl, ae]
      split
      ·rename_i hhi
       have : fH t[j] = false := by
        unfold fH
        rw [decide_eq_false (p := t[j] ≤ 126) (by rw [UInt8.le_iff_toNat_le]; rw [UInt8.lt_iff_toNat_lt] at hhi; omega), Bool.and_false]
       rw [this, if_neg (by decide)] at hnext
       rw [ah _ (by omega)]
       exact hnext
      ·rename_i hhi
       have : fH t[j] = true := by
        unfold fH
        rw [decide_eq_true (by rw [UInt8.le_iff_toNat_le]; rw [UInt8.lt_iff_toNat_lt] at hlo; omega), decide_eq_true (by rw [UInt8.le_iff_toNat_le]; rw [UInt8.lt_iff_toNat_lt] at hhi; omega)]; rfl
       rw [this, if_pos rfl] at hnext
       rw [ah _ (by omega)]
       exact hnext
   ·rename_i h10
    have h10 : t[j] = 10 := by simpa using h10
    exact pQ h hl hi ht (by omega) (mB t j hp (by omega) (.inr ⟨hjt, by rw [h10]; rfl⟩)) hu hb5 hb6 hne o5 o6 hQ
  ·rename_i h34
   have h34 : t[j] = 34 := by simpa using h34
   exact pQ h hl hi ht (by omega) (mB t j hp (by omega) (.inr ⟨hjt, by rw [h34]; rfl⟩)) hu hb5 hb6 hne o5 o6 hQ
theorem Fp (h : B M v b) (hl : b.length ≤ 2 ^ 27) (hi : i < b.length) (ht : b.drop (i + 1) = t) : R F.N #[v, iv (i : Int), wv ([], line, col, false)] M fun r M' => Up M M' ∧ pP line col i t r := by
 refine R.cps fun Q hQ => ?_
 apply Bh
 unfold tC
 have eb : aX (wv ([], line, col, false)) = some (wcs ([], line, col, false)) := by kernel_rfl
 rw [eb, ab]
 refine aq fun M1 u1 o1 n1 => ?_
 refine aq fun M2 u2 o2 n2 => ?_
 rw [ah _ (by omega)]
 exact BN (M0 := M) (Sl.up h (u1.trans u2)) hl hi ht (u1.trans u2) (Nat.le_refl _) (by omega) (by omega) (o1.up u2) o2 (fun r M' hu hr => hQ _ _ ⟨hu, hr⟩) (b.length - (i + 1)) 0 (by omega) fun k hk => by omega
end
end Go.G

namespace Go.G
open Go.Ab Go.Proofs Go.RowKit
set_option linter.unusedVariables false
set_option linter.unusedSimpArgs false
set_option maxRecDepth 100000
theorem WS.keep' (M M' : Store) (v : Value) (x : List Wd) (h : WS M v x) (k : Keep Ty.e M M') : WS M' v x := Sl.keep h IT k
theorem WS.up' (M M' : Store) (v : Value) (x : List Wd) (h : WS M v x) (k : Up M M') : WS M' v x := Sl.up h k
abbrev NRW (M0 M : Store) (w : Value) (rows : List (List Wd)) : Prop := NLs WS Ty.e M0 M w rows
def xb (M0 : Store) (r : Value) (M' : Store) : Sum Ft (List (List Wd)) → Prop
 | .inl f => r = .tuple #[.slice none 0 0, fv f]
 | .inr rows => ∃ w, r = .tuple #[w, fv fv0] ∧ NRW M0 M' w rows
theorem D1 {k line col col' : Nat} {row : List Wd} {r : List UInt8} (h : ∀ c t, r = c :: t → c = 10) : aH k line col row r = aH k line col' row r := by
 cases k with
 | zero => rfl
 | succ k =>
  cases r with
  | nil => rfl
  | cons c t =>
   have := h c t rfl
   subst this
   simp only [aH, if_true]
section
variable {M0 : Store} {v : Value} {b : List UInt8} {b3 : Nat} {res : Sum Ft (List (List Wd))} {Q : Value → Store → Prop}
structure SI (M0 : Store) (v : Value) (b : List UInt8) (b3 : Nat) (Mb M : Store) (x4 x5 : Value) (out : List (List Wd)) (row : List Wd) : Prop where
 u0 : Up M0 Mb
 ub : Up Mb M
 hb : B Mb v b
 o3 : Ob Mb b3 (fcs fv0) Ty.h
 hx4 : NRW M0 Mb x4 out
 hx5 : NWS Mb M x5 row
theorem SI.up {Mb M M' : Store} {x4 x5 : Value} {out : List (List Wd)} {row : List Wd} (h : SI M0 v b b3 Mb M x4 x5 out row) (k : Up M M') : SI M0 v b b3 Mb M' x4 x5 out row :=
 ⟨h.u0, h.ub.trans k, h.hb, h.o3, h.hx4, h.hx5.up k⟩
theorem SI.bb {Mb M : Store} {x4 x5 : Value} {out : List (List Wd)} {row : List Wd} (h : SI M0 v b b3 Mb M x4 x5 out row) : B M v b := Sl.up h.hb h.ub
theorem SI.o {Mb M : Store} {x4 x5 : Value} {out : List (List Wd)} {row : List Wd} (h : SI M0 v b b3 Mb M x4 x5 out row) : Ob M b3 (fcs fv0) Ty.h := h.o3.up h.ub
theorem SI.u {Mb M : Store} {x4 x5 : Value} {out : List (List Wd)} {row : List Wd} (h : SI M0 v b b3 Mb M x4 x5 out row) : Up M0 M := h.u0.trans h.ub
theorem SI.len {Mb M : Store} {x4 x5 : Value} {out : List (List Wd)} {row : List Wd} (h : SI M0 v b b3 Mb M x4 x5 out row) : lenV x5 = some (iv (row.length : Int)) := h.hx5.sl.lenV
def iG (out : List (List Wd)) : Sum Ft (List (List Wd)) → Sum Ft (List (List Wd))
 | .inl f => .inl f
 | .inr rs => .inr (out ++ rs)
theorem DD (out : List (List Wd)) (row : List Wd) (hne : row ≠ []) (x : Sum Ft (List (List Wd))) : iG out (sT (gH row) x) = iG (out ++ [row]) x := by
 cases x with
 | inl f => rfl
 | inr rs => simp [iG, gH, hne]
theorem DC (out : List (List Wd)) (x : Sum Ft (List (List Wd))) : iG out (sT (gH []) x) = iG out x := by
 cases x with
 | inl f => rfl
 | inr rs => simp [iG, gH]
theorem wL {Mb M : Store} {x4 x5 : Value} {out : List (List Wd)} {row : List Wd} {i line : Nat} (hl : b.length ≤ 2 ^ 27) (hi : i ≤ b.length) (hline : line ≤ i + 1) (hout : out.length ≤ i) (hs : SI M0 v b b3 Mb M x4 x5 out row)
    (hgo : ∀ (M' : Store) (x4' x5' : Value) (out' : List (List Wd)), out'.length ≤ i + 1 → out' = (if row = [] then out else out ++ [row]) → (∃ Mb', SI M0 v b b3 Mb' M' x4' x5' out' []) →
     an v (.pointer (some ⟨b3, 0, none⟩)) x4' x5' (iv ((line + 1 : Nat) : Int)) (iv ((i + 1 : Nat) : Int)) (iv ((i + 1 : Nat) : Int)) M' Q) :
    OP (lenV x5) fun t32 => OP (ad .gtr t32 (.int .i64 0)) fun t33 => BR t33 (
     OP (al (.slice none 0 0) 1 1 [(0, x5)]) fun c => LT (.slice (some ⟨M.n, 0, none⟩) 1 1) (M.push (some (.inl (c, Ty.e, true)))) fun t36 M1 => OP2 (appV 1 Ty.e x4 t36 M1) fun t37 M2 =>
     OP (ad .add (iv (line : Int)) (.int .i64 1)) fun t39 => OP (ad .add (iv (i : Int)) (.int .i64 1)) fun t41 => an v (.pointer (some ⟨b3, 0, none⟩)) t37 (.slice none 0 0) t39 t41 t41 M2 Q) (
     OP (ad .add (iv (line : Int)) (.int .i64 1)) fun t39_1 => OP (ad .add (iv (i : Int)) (.int .i64 1)) fun t41_1 => an v (.pointer (some ⟨b3, 0, none⟩)) x4 x5 t39_1 t41_1 t41_1 M Q) := by
 rw [hs.len, ab, wF 0 0 rfl, ae]
 split
 ·rename_i hpos
  have hne : row ≠ [] := fun h => by rw [h] at hpos; simp at hpos
  obtain ⟨a, c, e5⟩ := hs.hx5.sl.slice
  have hx5 := hs.hx5.sl
  rw [e5] at hx5 ⊢
  rw [ET, aY]
  obtain ⟨v', M', e1, hu', hN, hk⟩ := NLs.app1 WS.keep' hs.u (hs.hx4.up WS.up' hs.ub) hx5 (by omega)
  rw [e1, ey, ah _ (by omega), ah _ (by omega)]
  exact hgo M' v' _ (out ++ [row]) (by simp; omega) (by rw [if_neg hne]) ⟨M', hu', Ch.refl _ _, Sl.keep hs.bb IS hk, hs.o.keep IR hk, hN, NK.nil⟩
 ·rename_i hpos
  have hne : row = [] := List.length_eq_zero_iff.1 (by omega)
  rw [ah _ (by omega), ah _ (by omega)]
  refine hgo M x4 x5 out (by omega) (by rw [if_pos hne]) ⟨Mb, ?_⟩
  subst hne; exact hs
theorem pR {Mb M : Store} {x4 x5 : Value} {out : List (List Wd)} {row : List Wd} {b10 : Nat} (w : Wd) (hz : row.length + 1 ≤ 2 ^ 28) (hs : SI M0 v b b3 Mb M x4 x5 out row) (o10 : Ob M b10 (wcs w) Ty.c) {K : Value → Store → Prop}
    (hgo : ∀ x5' M', SI M0 v b b3 Mb M' x4 x5' out (row ++ [w]) → K x5' M') :
    OP (ld 4 true (.pointer (some ⟨b10, 0, none⟩)) M) fun t146 => OP (al (.agg #[(.string ⟨#[]⟩), (.int .i64 0), (.int .i64 0), (.bool false)]) 4 1 [(0, t146)]) fun c =>
     LT (.slice (some ⟨M.n, 0, none⟩) 1 1) (M.push (some (.inl (c, Ty.c, true)))) fun t147 M5 => OP2 (appV 4 Ty.c x5 t147 M5) K := by
 rw [ldW o10, ab]
 show OP (al _ 4 1 [(0, wv w)]) _
 rw [JO, aY]
 exact NK.app1 Id0 hs.ub (Nat.le_refl _) hs.ub.n hs.hx5 w rfl hz fun v' M' hu' hN' hc' _ => hgo v' M' ⟨hs.u0, hu', hs.hb, hs.o3, hs.hx4, hN'⟩
theorem kM {Mb M : Store} {x4 x5 : Value} {out : List (List Wd)} {row : List Wd} {k line i from_ : Nat} (hs : SI M0 v b b3 Mb M x4 x5 out row) (hb3 : M0.n ≤ b3) (hi : from_ ≤ i) (hi2 : i ≤ 2 ^ 28) (hQ : ∀ r M', Up M0 M' → xb M0 r M' (.inl (k, line, i - from_ + 1)) → Q r M') :
    OP (ad .sub (iv (i : Int)) (iv (from_ : Int))) fun t169 => OP (ad .add t169 (.int .i64 1)) fun t170 => R F.i #[iv (k : Int), iv (line : Int), t170] M fun t171 M10 => OP (st 3 (.pointer (some ⟨b3, 0, none⟩)) t171 M10) fun M11 =>
     OP (ld 3 true (.pointer (some ⟨b3, 0, none⟩)) M11) fun r3 => NTs [(.slice none 0 0), r3] ∧ Q (.tuple #[(.slice none 0 0), r3]) M11 := by
 rw [wO _ _ hi (by omega), ah _ (by omega)]
 refine Fs fun M1 u1 => ?_
 refine bp (vs := fcs (k, line, i - from_ + 1)) (hs.o.up u1) rfl rfl (kU _) fun M2 c2 o2 n2 => ?_
 rw [ldF o2, ab]
 exact ⟨rfl, hQ _ _ ((hs.u.trans u1).ch c2 (by simpa using hb3)) rfl⟩
set_option maxHeartbeats 1000000 in
theorem BS (hl : b.length ≤ 2 ^ 27) (hb3 : M0.n ≤ b3) (hQ : ∀ r M', Up M0 M' → xb M0 r M' res → Q r M') :
    ∀ (k i from_ line : Nat) (out : List (List Wd)) (row : List Wd) (x4 x5 : Value) (Mb M : Store), b.length - i < k → i ≤ b.length → from_ ≤ i → line ≤ i + 1 → out.length ≤ i → row.length ≤ i → SI M0 v b b3 Mb M x4 x5 out row →
     iG out (aH k line (i - from_ + 1) row (b.drop i)) = res →
     an v (.pointer (some ⟨b3, 0, none⟩)) x4 x5 (iv (line : Int)) (iv (from_ : Int)) (iv (i : Int)) M Q := by
 intro k
 induction k with
 | zero => intro i _ _ _ _ _ _ _ _ h; omega
 | succ k ih =>
  intro i from_ line out row x4 x5 Mb M hk hi hf hline hout hrow hs hres
  apply rX
  unfold lU
  rw [gq hs.bb, kL, ae, if_pos hi]
  apply zY
  unfold rp
  rw [gq hs.bb, wB, ae]
  split
  ·rename_i he
   subst he
   refine wL hl hi hline hout hs fun M' x4' x5' out' ho1 ho2 ⟨Mb', hs'⟩ => ?_
   apply rX
   unfold lU
   rw [gq hs'.bb, kL, ae, if_neg (by omega)]
   apply zZ
   unfold rq
   rw [GU]
   refine bp (vs := fcs fv0) hs'.o rfl rfl (kU _) fun M1 c1 o1 n1 => ?_
   rw [ldF o1, ab]
   have hN' := hs'.hx4.up WS.up' hs'.ub
   refine ⟨?_, hQ _ _ (hs'.u.ch c1 (by simpa using hb3)) ?_⟩
   ·obtain ⟨vs, h1, h2⟩ := hN'
    exact JS h1.sl _
   ·rw [List.drop_of_length_le (Nat.le_refl _)] at hres
    have : res = .inr out' := by
     rw [← hres, ho2]
     simp only [aH, iG, gH]
     split <;> simp
    rw [this]
    obtain ⟨vs, h1, h2⟩ := hN'
    have hkp := c1.keepT hs'.o
    exact ⟨_, rfl, vs, h1.keep (by decide) hkp, h2.mono fun v x h => Sl.keep h Jw hkp⟩
  ·rename_i he
   have hlt : i < b.length := by omega
   have hd := List.drop_eq_getElem_cons hlt
   rw [gB hs.bb hlt, cU (d := 10) (n := 10) rfl, ae]
   rw [hd] at hres
   generalize hc : b[i] = c at *
   split
   ·rename_i h10
    refine wL hl hi hline hout hs fun M' x4' x5' out' ho1 ho2 ⟨Mb', hs'⟩ => ?_
    refine ih (i + 1) (i + 1) (line + 1) out' [] x4' x5' Mb' M' (by omega) (by omega) (by omega) (by omega) ho1 (by simp) hs' ?_
    rw [← hres, ho2, Nat.sub_self]
    simp only [aH, if_pos h10]
    split
    ·rename_i hr; rw [hr, DC]
    ·rename_i hr; rw [DD _ _ hr]
   ·rename_i h10
    apply z0
    unfold rr
    rw [gB hs.bb hlt, hc, wO _ _ hf (by omega), ah _ (by omega)]
    have eb : ∀ (x y : Int) (K : Value → Prop), OP (bB #[(.string ⟨#[]⟩), (.int .i64 0), (.int .i64 0), (.bool false)] [(0, 1), (1, 1), (2, 1), (3, 1)] [(1, iv x), (2, iv y)]) K = K (.agg #[sv [], iv x, iv y, tv false]) := fun x y K => by kernel_rfl
    rw [eb]
    refine aq fun M1 u1 o1 n1 => ?_
    refine bp (vs := wcs ([], line, i - from_ + 1, false)) o1 rfl rfl (oU _) fun M2 c2 o2 n2 => ?_
    have hs2 := hs.up (u1.ch c2 (by simp))
    have hnext : ∀ (j : Nat) (row' : List Wd) (x5' : Value) (M' : Store), i < j → j ≤ b.length → row'.length ≤ j → SI M0 v b b3 Mb M' x4 x5' out row' → iG out (aH k line (j - from_ + 1) row' (b.drop j)) = res →
        an v (.pointer (some ⟨b3, 0, none⟩)) x4 x5' (iv (line : Int)) (iv (from_ : Int)) (iv (j : Int)) M' Q := fun j row' x5' M' h1 h2 h3 h4 h5 =>
     ih j from_ line out row' x4 x5' Mb M' (by omega) h2 (by omega) (by omega) (by omega) h3 h4 h5
    have hblank : iE c = true → an v (.pointer (some ⟨b3, 0, none⟩)) x4 x5 (iv (line : Int)) (iv (from_ : Int)) (iv ((i + 1 : Nat) : Int)) M2 Q := fun hbl => by
     refine hnext (i + 1) row x5 M2 (by omega) (by omega) (by omega) hs2 ?_
     rw [← hres]
     simp only [aH, if_neg h10, if_pos hbl]
     rw [show i + 1 - from_ + 1 = i - from_ + 1 + 1 by omega]
    rw [cU (d := 32) (n := 32) rfl, ae]
    split
    ·rename_i h
     rw [ah _ (by omega)]
     exact hblank (by rw [h]; rfl)
    ·rename_i h32
     rw [cU (d := 9) (n := 9) rfl, ae]
     split
     ·rename_i h
      rw [ah _ (by omega)]
      exact hblank (by rw [h]; rfl)
     ·rename_i h9
      have hbl : iE c = false := by
       have e1 : (c == 32) = false := by simpa using h32
       have e2 : (c == 9) = false := by simpa using h9
       unfold iE; rw [e1, e2]; rfl
      rw [cU (d := 35) (n := 35) rfl, ae]
      split
      ·rename_i h35
       have skip : ∀ (d j : Nat), d + j = b.length → i < j ∨ j = i → (b.drop j).dropWhile fk = (b.drop (i + 1)).dropWhile fk →
           d4 v (.pointer (some ⟨b3, 0, none⟩)) x4 x5 (iv (line : Int)) (iv (from_ : Int)) (iv (j : Int)) M2 Q := by
        have stop : ∀ j, j ≤ b.length → i < j → (b.drop j).dropWhile fk = (b.drop (i + 1)).dropWhile fk → (∀ c t, b.drop j = c :: t → c = 10) →
            an v (.pointer (some ⟨b3, 0, none⟩)) x4 x5 (iv (line : Int)) (iv (from_ : Int)) (iv (j : Int)) M2 Q := by
         intro j hj hij hdw h
         refine hnext j row x5 M2 hij hj (by omega) hs2 ?_
         rw [← hres]
         simp only [aH, if_neg h10, hbl, if_pos h35]
         rw [if_neg (by decide), ← hdw]
         have hdj : (b.drop j).dropWhile fk = b.drop j := by
          cases hq : b.drop j with
          | nil => rfl
          | cons c t =>
           have := h c t hq
           subst this; rfl
         rw [hdj, D1 h]
        intro d
        induction d with
        | zero =>
         intro j hj hij hdw
         apply rY
         unfold lV
         rw [gq hs2.bb, ag, ae, if_neg (by omega)]
         exact stop j (by omega) (by omega) hdw fun c t h => by rw [List.drop_of_length_le (by omega)] at h; cases h
        | succ d ihd =>
         intro j hj hij hdw
         apply rY
         unfold lV
         have hjl : j < b.length := by omega
         have hdj := List.drop_eq_getElem_cons hjl
         rw [gq hs2.bb, ag, ae, if_pos hjl, gB hs2.bb hjl, sz (d := 10) (n := 10) rfl, ae]
         split
         ·rename_i hne
          rw [ah _ (by omega)]
          refine ihd (j + 1) (by omega) (by omega) ?_
          rw [← hdw, hdj, List.dropWhile_cons, if_pos (by simpa [fk] using hne)]
         ·rename_i hne
          have hne : b[j] = 10 := by simpa using hne
          refine stop j (by omega) ?_ hdw fun c t h => ?_
          ·rcases hij with h | h
           ·exact h
           ·subst h; rw [hc] at hne; exact absurd hne h10
          ·rw [hdj] at h; injection h with h _; rw [← h, hne]
       refine skip (b.length - i) i (by omega) (.inr rfl) ?_
       rw [hd, List.dropWhile_cons, if_pos (by simpa [fk] using h10)]
      ·rename_i h35
       have htok : iG out (match aR line (i - from_ + 1) c (b.drop (i + 1)) with | .inl f => .inl f | .inr (w, n) => aH k line (i - from_ + 1 + n) (row ++ [w]) ((c :: b.drop (i + 1)).drop n)) = res := by
        rw [← hres]
        simp only [aH, if_neg h10, hbl, if_neg h35]
        rw [if_neg (by decide)]
        cases aR line (i - from_ + 1) c (b.drop (i + 1)) <;> rfl
       have hwd : ∀ (w : Wd) (n : Nat) (x5' : Value) (M' : Store), aR line (i - from_ + 1) c (b.drop (i + 1)) = .inr (w, n) → SI M0 v b b3 Mb M' x4 x5' out (row ++ [w]) →
           an v (.pointer (some ⟨b3, 0, none⟩)) x4 x5' (iv (line : Int)) (iv (from_ : Int)) (iv ((i + n : Nat) : Int)) M' Q := by
        intro w n x5' M' ht hs'
        have h1 := pV ht
        have h2 := A7 ht
        rw [List.length_drop] at h2
        refine hnext (i + n) (row ++ [w]) x5' M' (by omega) (by omega) (by simp; omega) hs' ?_
        rw [← htok, ht]
        simp only
        rw [show i + n - from_ + 1 = i - from_ + 1 + n by omega, ← hd, List.drop_drop]
       have hft : ∀ f : Ft, aR line (i - from_ + 1) c (b.drop (i + 1)) = .inl f → res = .inl f := by
        intro f ht
        rw [← htok, ht]; rfl
       refine uR ?_
       rw [au]
       split
       ·rename_i hsg
        have h34 : c ≠ 34 := fun h => by rw [h] at hsg; revert hsg; decide
        have ht : aR line (i - from_ + 1) c (b.drop (i + 1)) = .inr (([c], line, i - from_ + 1, false), 1) := by
         unfold aR; rw [if_neg h34, if_pos hsg]
        rw [ah _ (by omega), Aw hs2.bb (by omega) (by omega)]
        have hmid : (b.take (i + 1)).drop i = [c] := by
         rw [List.take_succ_eq_append_getElem hlt, hc, List.drop_append, List.drop_of_length_le (by rw [List.length_take]; omega), show i - (b.take i).length = 0 by rw [List.length_take]; omega]; rfl
        rw [hmid, aS]
        refine cY (i := 0) o2 (by simp [wcs]) (uE _) (DM _) fun M4 c4 o4 n4 => ?_
        have hs4 := hs.up ((u1.ch c2 (by simp)).ch c4 (by simp))
        refine pR ([c], line, i - from_ + 1, false) (by omega) hs4 o4 fun x5' M' hs' => ?_
        rw [ah _ (by omega)]
        exact hwd _ 1 _ _ ht hs'
       ·rename_i hsg
        have hsg : eF c = false := by simpa using hsg
        rw [cU (d := 34) (n := 34) rfl, ae]
        split
        ·rename_i h34
         subst h34
         rw [ldW o2, ab]
         refine (Fp hs2.bb hl hlt (line := line) (col := i - from_ + 1) rfl).mono fun r M7 ⟨u7, hr⟩ => ?_
         have hs7 := hs2.up u7
         unfold pP at hr
         cases ht : aR line (i - from_ + 1) 34 (b.drop (i + 1)) with
         | inl f =>
          rw [ht] at hr
          obtain ⟨w, p, rfl, hp1, hp2, hp3⟩ := hr
          have hf := H9 ht
          simp only [tp4]
          refine aq fun M8 u8 o8 n8 => ?_
          refine bp (vs := wcs w) o8 rfl rfl (oU _) fun M9 c9 o9 n9 => ?_
          have hs9 := hs7.up (u8.ch c9 (by simp))
          rw [pJ 0 0 rfl, ae, if_pos (by rcases hf with h | h | h <;> omega)]
          have hfp : f.2.2 = p - from_ + 1 := by omega
          have hple : p ≤ 2 ^ 28 := by
           have := (GO ht).1
           rw [List.length_drop] at this
           omega
          refine kM (k := f.1) (line := line) hs9 hb3 (by omega) hple fun r M' hu' hr' => hQ r M' hu' ?_
          rw [hft f ht]
          rw [← hfp, ← hp2] at hr'
          exact hr'
         | inr q =>
          obtain ⟨w, n⟩ := q
          rw [ht] at hr
          have hr : r = .tuple #[wv w, iv ((i + n : Nat) : Int), iv 0, iv 0] := hr
          subst hr
          simp only [tp4]
          refine aq fun M8 u8 o8 n8 => ?_
          refine bp (vs := wcs w) o8 rfl rfl (oU _) fun M9 c9 o9 n9 => ?_
          have hs9 := hs7.up (u8.ch c9 (by simp))
          rw [pz, ae, if_neg (by decide)]
          refine pR w (by omega) hs9 o9 fun x5' M' hs' => ?_
          exact hwd w n _ _ ht hs'
        ·rename_i h34
         have hloose : aE c = false → aR line (i - from_ + 1) c (b.drop (i + 1)) = .inl (1, line, i - from_ + 1) := fun h => by
          unfold aR; rw [if_neg h34, hsg, if_neg (by decide), if_pos h]
         rw [sy (d := 33) (n := 33) rfl, ae]
         split
         ·rename_i hlo
          refine kM (k := 1) hs2 hb3 hf (by omega) fun r M' hu' hr' => hQ r M' hu' ?_
          rw [hft _ (hloose ?_)]
          ·exact hr'
          ·unfold aE
           rw [decide_eq_false (by rw [UInt8.lt_iff_toNat_lt]; rw [UInt8.lt_iff_toNat_lt] at hlo; have : (33 : UInt8).toNat = 33 := rfl; have : (32 : UInt8).toNat = 32 := rfl; omega)]; rfl
         ·rename_i hlo
          rw [sw (d := 126) (n := 126) rfl, ae]
          split
          ·rename_i hhi
           refine kM (k := 1) hs2 hb3 hf (by omega) fun r M' hu' hr' => hQ r M' hu' ?_
           rw [hft _ (hloose ?_)]
           ·exact hr'
           ·unfold aE
            rw [decide_eq_false (p := c ≤ 126) (by rw [UInt8.le_iff_toNat_le]; rw [UInt8.lt_iff_toNat_lt] at hhi; omega)]; simp
          ·rename_i hhi
           have hlb : aE c = true := by
            unfold aE
            rw [decide_eq_true (by rw [UInt8.lt_iff_toNat_lt]; rw [UInt8.lt_iff_toNat_lt] at hlo; have : (33 : UInt8).toNat = 33 := rfl; have : (32 : UInt8).toNat = 32 := rfl; omega), decide_eq_true (by rw [UInt8.le_iff_toNat_le]; rw [UInt8.lt_iff_toNat_lt] at hhi; omega), hsg]
            have : (c != 34) = true := by simpa using h34
            rw [this]; rfl
           have fin : ∀ j, j ≤ (b.drop i).length → 1 ≤ j → (b.drop i).takeWhile aE = (b.drop i).take j →
               br v (.pointer (some ⟨b3, 0, none⟩)) x4 x5 (iv (line : Int)) (iv (from_ : Int)) (iv (i : Int)) (.pointer (some ⟨M.n, 0, none⟩)) (iv ((i + j : Nat) : Int)) M2 Q := by
            intro j hj h1j htw
            rw [List.length_drop] at hj
            apply z3
            unfold rt
            rw [Aw hs2.bb (by omega) (by omega)]
            have hmid : (b.take (i + j)).drop i = (b.drop i).take j := by rw [List.drop_take, Nat.add_sub_cancel_left]
            have hml : ((b.drop i).take j).length = j := by rw [List.length_take, List.length_drop]; omega
            rw [hmid, aS]
            refine cY (i := 0) o2 (by simp [wcs]) (uE _) (DM _) fun M4 c4 o4 n4 => ?_
            have o4 : Ob M4 M.n (wcs ((b.drop i).take j, line, i - from_ + 1, false)) Ty.c := o4
            have hs4 := hs.up ((u1.ch c2 (by simp)).ch c4 (by simp))
            rw [aS, Ob.ld (o := 0) (v := sv ((b.drop i).take j)) o4 rfl, ab, eK, hml, wF 64 64 rfl, ae]
            have htw2 : (c :: b.drop (i + 1)).takeWhile aE = (b.drop i).take j := by rw [← htw, hd]
            split
            ·rename_i hlong
             refine kM (k := 3) hs4 hb3 hf (by omega) fun r M' hu' hr' => hQ r M' hu' ?_
             rw [hft (3, line, i - from_ + 1) ?_]
             ·exact hr'
             ·unfold aR; rw [if_neg h34, hsg, if_neg (by decide), hlb, if_neg (by decide), htw2, hml, if_pos hlong]
            ·rename_i hlong
             refine pR ((b.drop i).take j, line, i - from_ + 1, false) (by omega) hs4 o4 fun x5' M' hs' => ?_
             refine hwd _ j _ _ ?_ hs'
             unfold aR; rw [if_neg h34, hsg, if_neg (by decide), hlb, if_neg (by decide), htw2, hml, if_neg hlong]
           have run : ∀ (d j : Nat), d + (i + j) = b.length → (∀ q (hq : q < j) (h : q < (b.drop i).length), aE (b.drop i)[q] = true) →
               d6 v (.pointer (some ⟨b3, 0, none⟩)) x4 x5 (iv (line : Int)) (iv (from_ : Int)) (iv (i : Int)) (.pointer (some ⟨M.n, 0, none⟩)) (iv ((i + j : Nat) : Int)) M2 Q := by
            have hdl : (b.drop i).length = b.length - i := List.length_drop
            have stop : ∀ j, i + j ≤ b.length → (∀ q (hq : q < j) (h : q < (b.drop i).length), aE (b.drop i)[q] = true) → (i + j = b.length ∨ ∃ h : i + j < b.length, aE b[i + j] = false) →
                br v (.pointer (some ⟨b3, 0, none⟩)) x4 x5 (iv (line : Int)) (iv (from_ : Int)) (iv (i : Int)) (.pointer (some ⟨M.n, 0, none⟩)) (iv ((i + j : Nat) : Int)) M2 Q := by
             intro j hj hp he
             refine fin j (by omega) ?_ (mB _ j hp (by omega) ?_)
             ·rcases Nat.eq_zero_or_pos j with h0 | h0
              ·subst h0
               exfalso
               rcases he with he | ⟨h, he⟩
               ·omega
               ·simp only [Nat.add_zero, hc] at he; rw [he] at hlb; cases hlb
              ·omega
             ·rcases he with he | ⟨h, he⟩
              ·exact .inl (by omega)
              ·exact .inr ⟨by omega, by rw [List.getElem_drop]; exact he⟩
            intro d
            induction d with
            | zero =>
             intro j hj hp
             apply rZ
             unfold lW
             rw [gq hs2.bb, ag, ae, if_neg (by omega)]
             exact stop j (by omega) hp (.inl (by omega))
            | succ d ihd =>
             intro j hj hp
             apply rZ
             unfold lW
             have hjl : i + j < b.length := by omega
             have hno : aE b[i + j] = false → br v (.pointer (some ⟨b3, 0, none⟩)) x4 x5 (iv (line : Int)) (iv (from_ : Int)) (iv (i : Int)) (.pointer (some ⟨M.n, 0, none⟩)) (iv ((i + j : Nat) : Int)) M2 Q := fun h =>
              stop j (by omega) hp (.inr ⟨hjl, h⟩)
             rw [gq hs2.bb, ag, ae, if_pos hjl, gB hs2.bb hjl, sw (d := 32) (n := 32) rfl, ae]
             split
             ·rename_i g1
              rw [gB hs2.bb hjl, sy (d := 127) (n := 127) rfl, ae]
              split
              ·rename_i g2
               rw [gB hs2.bb hjl, sz (d := 34) (n := 34) rfl, ae]
               split
               ·rename_i g3
                rw [gB hs2.bb hjl]
                refine uR ?_
                rw [aM, au]
                have g2' : b[i + j] ≤ 126 := by
                 rw [UInt8.le_iff_toNat_le]; rw [UInt8.lt_iff_toNat_lt] at g2
                 have : (127 : UInt8).toNat = 127 := rfl
                 have : (126 : UInt8).toNat = 126 := rfl
                 omega
                have hlq : aE b[i + j] = !eF b[i + j] := by
                 unfold aE
                 rw [decide_eq_true g1, decide_eq_true g2']
                 have : (b[i + j] != 34) = true := by simpa using g3
                 rw [this]; rfl
                split
                ·rename_i g4
                 rw [ah _ (by omega)]
                 refine ihd (j + 1) (by omega) fun q hq h => ?_
                 by_cases e : q = j
                 ·subst e; rw [List.getElem_drop, hlq]; exact g4
                 ·exact hp q (by omega) h
                ·rename_i g4
                 exact hno (by rw [hlq]; simpa using g4)
               ·rename_i g3
                have g3 : b[i + j] = 34 := by simpa using g3
                exact hno (by rw [g3]; rfl)
              ·rename_i g2
               refine hno ?_
               unfold aE
               rw [decide_eq_false (p := b[i + j] ≤ 126) (by
                rw [UInt8.le_iff_toNat_le]; rw [UInt8.lt_iff_toNat_lt] at g2
                have : (127 : UInt8).toNat = 127 := rfl
                have : (126 : UInt8).toNat = 126 := rfl
                omega)]; simp
             ·rename_i g1
              refine hno ?_
              unfold aE
              rw [decide_eq_false g1]; rfl
           exact run (b.length - i) 0 (by omega) fun q hq => by omega
end
theorem Ef {M : Store} {v : Value} {b : List UInt8} (h : B M v b) (hl : b.length ≤ 2 ^ 27) : R F.V #[v] M fun r M' => Up M M' ∧ xb M r M' (mA b) := by
 refine R.cps fun Q hQ => ?_
 apply CQ
 unfold vl
 refine aq fun M1 u1 o1 n1 => ?_
 refine BS (M0 := M) (v := v) (b := b) (b3 := M.n) hl (Nat.le_refl _) (fun r M' hu hr => hQ _ _ ⟨hu, hr⟩) (b.length + 1) 0 0 1 [] [] _ _ M1 M1 (by omega) (by omega) (by omega) (by omega) (by simp) (by simp) ⟨u1, Ch.refl _ _, Sl.up h u1, o1, NLs.nil, NK.nil⟩ ?_
 rw [List.drop_zero]
 show iG [] (mA b) = mA b
 cases mA b with
 | inl f => rfl
 | inr rs => rfl
end Go.G

namespace Go.G
open Go.Ab Go.Proofs Go.RowKit
set_option linter.unusedVariables false
set_option linter.unusedSimpArgs false
set_option maxRecDepth 100000
theorem IM (c : UInt8) (T F : Prop) : (if (decide (97 ≤ c) && decide (c ≤ 122)) = true then T else if (decide (48 ≤ c) && decide (c ≤ 57)) = true then T else if (c == 46 || (c == 45 || c == 95)) = true then T else F) = if gL c = true then T else F := by
 unfold gL
 cases (decide (97 ≤ c) && decide (c ≤ 122)) <;> cases (decide (48 ≤ c) && decide (c ≤ 57)) <;> cases (c == 46 || (c == 45 || c == 95)) <;> rfl
theorem JC (c : UInt8) (G F : Prop) : (OP (ad .eql (bv c) (.int .u8 46)) fun t30 => BR t30 (OP (aun .not (.bool true)) fun t40 => BR t40 F G) (OP (ad .eql (bv c) (.int .u8 45)) fun t34 => BR t34 (OP (aun .not (.bool true)) fun t40 => BR t40 F G)
      (OP (ad .eql (bv c) (.int .u8 95)) fun t38 => OP (aun .not t38) fun t40 => BR t40 F G))) = if (c == 46 || (c == 45 || c == 95)) = true then G else F := by
 have hT : (OP (aun .not (.bool true)) fun t40 => BR t40 F G) = G := rfl
 rw [hT, cU (d := 46) (n := 46) rfl, ae]
 by_cases h1 : c = 46
 ·rw [if_pos h1, if_pos (by simp [h1])]
 ·rw [if_neg h1, cU (d := 45) (n := 45) rfl, ae]
  by_cases h2 : c = 45
  ·rw [if_pos h2, if_pos (by simp [h2])]
  ·rw [if_neg h2, cU (d := 95) (n := 95) rfl, aM, au]
   by_cases h3 : c = 95 <;> simp [h1, h2, h3]
theorem JB (c : UInt8) (G F X : Prop) (J : Value → Prop) : (OP (ad .geq (bv c) (.int .u8 48)) fun t22 => BR3 t22 (OP (ad .leq (bv c) (.int .u8 57)) fun t25 => BR t25 (OP (aun .not (.bool true)) fun t40 => BR t40 F G) X) X (J t22)) =
    if (decide (48 ≤ c) && decide (c ≤ 57)) = true then G else X := by
 have hT : (OP (aun .not (.bool true)) fun t40 => BR t40 F G) = G := rfl
 rw [hT, EW (d := 48) (n := 48) rfl, nY]
 by_cases h1 : 48 ≤ c
 ·rw [if_pos h1, EX (d := 57) (n := 57) rfl, ae]
  by_cases h2 : c ≤ 57 <;> simp [h1, h2]
 ·rw [if_neg h1]; simp [h1]
theorem JA (c : UInt8) (G F X : Prop) : (OP (ad .geq (bv c) (.int .u8 97)) fun t15 => BR t15 (OP (ad .leq (bv c) (.int .u8 122)) fun t18 => BR t18 (OP (aun .not (.bool true)) fun t40 => BR t40 F G) X) X) =
    if (decide (97 ≤ c) && decide (c ≤ 122)) = true then G else X := by
 have hT : (OP (aun .not (.bool true)) fun t40 => BR t40 F G) = G := rfl
 rw [hT, EW (d := 97) (n := 97) rfl, ae]
 by_cases h1 : 97 ≤ c
 ·rw [if_pos h1, EX (d := 122) (n := 122) rfl, ae]
  by_cases h2 : c ≤ 122 <;> simp [h1, h2]
 ·rw [if_neg h1]; simp [h1]
theorem HL {s : List UInt8} {i : Nat} (h : i < s.length) (hb : gL s[i] = false) : okF s = false := by
 unfold okF
 have : s.all gL = false := by rw [List.all_eq_false]; exact ⟨s[i], List.getElem_mem h, by rw [hb]; decide⟩
 rw [this, Bool.false_and]
theorem HM {s : List UInt8} (h : ∀ j (hj : j < s.length), gL s[j] = true) : okF s = (decide (1 ≤ s.length) && decide (s.length ≤ 16)) := by
 unfold okF
 have : s.all gL = true := List.all_eq_true.2 fun c hc => by
  obtain ⟨j, hj, rfl⟩ := List.getElem_of_mem hc
  exact h j hj
 rw [this, Bool.true_and]
theorem IW {s : List UInt8} {M : Store} {Q : Value → Store → Prop} (h : ∀ j (hj : j < s.length), gL s[j] = true) (hQ : Q (tv (okF s)) M) :
    OP (iH (sv s)) fun t16 => OP (ad .geq t16 (.int .i64 1)) fun t17 => BR t17 (OP (iH (sv s)) fun t20 => OP (ad .leq t20 (.int .i64 16)) fun t21 => NTs [t21] ∧ Q t21 M) (NTs [(.bool false)] ∧ Q (.bool false) M) := by
 rw [HM h] at hQ
 rw [eK, wD 1 1 rfl, ae]
 split
 ·rename_i h1
  rw [eK, DE 16 16 rfl]
  rw [decide_eq_true h1, Bool.true_and] at hQ
  exact ⟨rfl, hQ⟩
 ·rename_i h1
  rw [decide_eq_false h1, Bool.false_and] at hQ
  exact ⟨rfl, hQ⟩
theorem Gz {s : List UInt8} {M : Store} {Q : Value → Store → Prop} (hs : s.length ≤ 2 ^ 40) (hQ : Q (tv (okF s)) M) : ∀ (d i : Nat), d + i = s.length → (∀ j (hj : j < i) (hl : j < s.length), gL s[j] = true) → aB (sv s) (iv (i : Int)) M Q := by
 intro d
 induction d with
 | zero =>
  intro i hi h
  apply xX
  unfold q8
  rw [eK, ag, ae, if_neg (by omega)]
  apply Ev
  unfold xN
  exact IW (fun j hj => h j (by omega) hj) hQ
 | succ d ih =>
  intro i hi h
  apply xX
  unfold q8
  rw [eK, ag, ae, if_pos (by omega)]
  apply Eu
  unfold xM
  rw [kF s i (by omega)]
  rw [JC, JB, JA, IM]
  split
  ·rename_i hb
   rw [ah _ (by omega)]
   refine ih (i + 1) (by omega) fun j hj hl => ?_
   by_cases e : j = i
   ·subst e; exact hb
   ·exact h j (by omega) hl
  ·rename_i hb
   rw [HL (i := i) (by omega) (by simpa using hb)] at hQ
   exact ⟨rfl, hQ⟩
theorem I4 {s : List UInt8} {M : Store} {Q : Value → Store → Prop} (hs : s.length ≤ 2 ^ 40) (hQ : Q (tv (okF s)) M) : R F.h1 #[sv s] M Q := by
 apply Hb
 unfold B9
 exact Gz hs hQ s.length 0 rfl fun j hj => by omega
end Go.G
