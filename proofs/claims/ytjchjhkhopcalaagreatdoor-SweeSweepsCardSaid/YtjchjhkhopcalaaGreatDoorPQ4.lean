/- Layer 4, plainly: decimals, and names of files under way. -/
import Derived.Test.YtjchjhkhopcalaaGreatDoorPCutF
import Derived.Test.YtjchjhkhopcalaaGreatDoorPKE
namespace Go.G
open Go.Ab
set_option linter.unusedVariables false
set_option linter.unusedSimpArgs false
def bF (c : UInt8) : Bool := decide (48 ≤ c) && decide (c ≤ 57)
theorem b5 {c : UInt8} : bF c = true ↔ 48 ≤ c.toNat ∧ c.toNat ≤ 57 := by
 simp only [bF, Bool.and_eq_true, decide_eq_true_eq, UInt8.le_iff_toNat_le]
 exact Iff.rfl
def dgt (c : UInt8) : Nat := c.toNat - 48
def sL (a : Nat) (c : UInt8) : Nat := 10 * a + dgt c
def cS (acc : Nat) (l : List UInt8) : Nat := l.foldl sL acc
theorem ga (acc : Nat) : cS acc [] = acc := rfl
theorem b9 (acc : Nat) (c : UInt8) (r : List UInt8) : cS acc (c :: r) = cS (10 * acc + (c.toNat - 48)) r := by
 unfold cS; rw [List.foldl_cons]; unfold sL dgt; exact Eq.refl _
theorem gH : ∀ (l : List UInt8) (acc : Nat) (c : UInt8), cS acc (l ++ [c]) = 10 * cS acc l + (c.toNat - 48)
 | [], acc, c => by rw [List.nil_append, b9, ga, ga]
 | d :: l, acc, c => by rw [List.cons_append, b9, b9, gH l]
theorem mf : ∀ (l : List UInt8) (acc : Nat), acc ≤ cS acc l
 | [], acc => Nat.le_refl _
 | d :: l, acc => by rw [b9]; exact Nat.le_trans (by omega) (mf l _)
def cE (d : Nat) (x : List UInt8) : Option Nat :=
 if x.all bF = true ∧ x.length ≤ d ∧ x ≠ [] ∧ (x = [48] ∨ x.head? ≠ some 48) then some (cS 0 x) else none
theorem jt {u : Nat} (h : u < 10) : bF (UInt8.ofNat (48 + u)) = true ∧ (UInt8.ofNat (48 + u)).toNat - 48 = u := by
 have : (UInt8.ofNat (48 + u)).toNat = 48 + u := by rw [UInt8.toNat_ofNat']; omega
 exact ⟨b5.2 (by omega), by omega⟩
theorem cQ {u : Nat} (h : u < 10) : Lib.decDigits u = [UInt8.ofNat (48 + u)] := by rw [Lib.decDigits, dif_pos h]
theorem f2 {u : Nat} (h : ¬ u < 10) : Lib.decDigits u = Lib.decDigits (u / 10) ++ [UInt8.ofNat (48 + u % 10)] := by rw [Lib.decDigits, dif_neg h]
theorem la (u : Nat) : (Lib.decDigits u).all bF = true := by
 induction u using Nat.strongRecOn with
 | _ u ih =>
  by_cases h : u < 10
  ·rw [cQ h]; simpa using (jt h).1
  ·rw [f2 h, List.all_append, ih _ (by omega)]
   simpa using (jt (Nat.mod_lt u (by decide))).1
theorem tU (u : Nat) : cS 0 (Lib.decDigits u) = u := by
 induction u using Nat.strongRecOn with
 | _ u ih =>
  by_cases h : u < 10
  ·rw [cQ h]
   have := (jt h).2
   rw [b9, ga]; omega
  ·rw [f2 h, gH, ih _ (by omega)]
   have := (jt (Nat.mod_lt u (show 0 < 10 by decide))).2
   omega
theorem sm (u : Nat) : Lib.decDigits u ≠ [] := by
 by_cases h : u < 10
 ·rw [cQ h]; simp
 ·rw [f2 h]; simp
theorem nP : ∀ (d u : Nat), u < 10 ^ (d + 1) → (Lib.decDigits u).length ≤ d + 1
 | 0, u, h => by rw [cQ (by simpa using h)]; simp
 | d + 1, u, h => by
  by_cases hu : u < 10
  ·rw [cQ hu]; simp
  ·rw [f2 hu, List.length_append]
   have := nP d (u / 10) (by rw [Nat.pow_succ] at h; omega)
   simp; omega
theorem s8 (u : Nat) (h : 1 ≤ u) : (Lib.decDigits u).head? ≠ some 48 := by
 induction u using Nat.strongRecOn with
 | _ u ih =>
  by_cases hu : u < 10
  ·rw [cQ hu]
   intro he
   have he : UInt8.ofNat (48 + u) = 48 := by simpa using he
   have := (jt hu).2
   rw [he] at this
   have h48 : (48 : UInt8).toNat = 48 := rfl
   omega
  ·rw [f2 hu, List.head?_append]
   have := ih (u / 10) (by omega) (by omega)
   cases hq : Lib.decDigits (u / 10) with
   | nil => exact absurd hq (sm _)
   | cons a r => rw [hq] at this; simpa using this
theorem tk {d u : Nat} (h : u < 10 ^ (d + 1)) : cE (d + 1) (Lib.decDigits u) = some u := by
 unfold cE
 have hz : Lib.decDigits u = [48] ∨ (Lib.decDigits u).head? ≠ some 48 := by
  by_cases hu : u = 0
  ·subst hu; left; rw [cQ (by decide)]; rfl
  ·right; exact s8 u (by omega)
 rw [if_pos ⟨la u, nP d u h, sm u, hz⟩, tU]
theorem tA {c : UInt8} {r : List UInt8} (hc : bF c = true) (h : c ≠ 48) : 1 ≤ cS 0 (c :: r) := by
 rw [b9]
 refine Nat.le_trans ?_ (mf _ _)
 have h1 := (b5.1 hc).1
 have : c.toNat ≠ 48 := fun e => h (UInt8.toNat_inj.1 e)
 omega
theorem mG : ∀ (n : Nat) (x : List UInt8), x.length = n → x.all bF = true → x ≠ [] → (x = [48] ∨ x.head? ≠ some 48) → Lib.decDigits (cS 0 x) = x
 | 0, x, hl, _, hne, _ => absurd (List.length_eq_zero_iff.1 hl) hne
 | n + 1, x, hl, ha, hne, hz => by
  obtain ⟨y, c, rfl⟩ : ∃ y c, x = y ++ [c] := ⟨x.dropLast, x.getLast hne, (List.dropLast_concat_getLast hne).symm⟩
  rw [List.all_append, Bool.and_eq_true] at ha
  have hc : bF c = true := by simpa using ha.2
  have hc2 := b5.1 hc
  have hcv : UInt8.ofNat (48 + (c.toNat - 48)) = c := by
   rw [show 48 + (c.toNat - 48) = c.toNat by omega]; simp
  cases y with
  | nil =>
   rw [List.nil_append]
   rw [b9, ga, Nat.mul_zero, Nat.zero_add, cQ (by omega)]
   rw [hcv]
  | cons a y =>
   have hz2 : (a :: y).head? ≠ some 48 := by
    rcases hz with hz | hz
    ·have := congrArg List.length hz; simp at this
    ·simpa using hz
   have hy := mG n (a :: y) (by simpa using hl) ha.1 (by simp) (.inr hz2)
   have ha1 : bF a = true := by
    have := ha.1; rw [List.all_cons, Bool.and_eq_true] at this; exact this.1
   have hp := tA (r := y) ha1 (by simpa using hz2)
   rw [gH]
   generalize cS 0 (a :: y) = v at *
   rw [f2 (by omega), show (10 * v + (c.toNat - 48)) / 10 = v by omega, show (10 * v + (c.toNat - 48)) % 10 = c.toNat - 48 by omega, hy, hcv]
theorem gD {d : Nat} {x : List UInt8} {n : Nat} (h : cE d x = some n) : x = Lib.decDigits n ∧ x.all bF = true ∧ x.length ≤ d ∧ n = cS 0 x ∧ x ≠ [] := by
 unfold cE at h
 split at h
 ·rename_i hx
  injection h with h; subst h
  exact ⟨(mG x.length x rfl hx.1 hx.2.2.1 hx.2.2.2).symm, hx.1, hx.2.1, rfl, hx.2.2.1⟩
 ·cases h
theorem fO : ∀ (l : List UInt8) (acc : Nat), l.all bF = true → cS acc l < (acc + 1) * 10 ^ l.length
 | [], acc, _ => by rw [ga]; simp
 | c :: l, acc, h => by
  rw [List.all_cons, Bool.and_eq_true] at h
  have hc := b5.1 h.1
  rw [b9, List.length_cons, Nat.pow_succ]
  refine Nat.lt_of_lt_of_le (fO l _ h.2) ?_
  have : (10 * acc + (c.toNat - 48) + 1) ≤ (acc + 1) * 10 := by omega
  calc (10 * acc + (c.toNat - 48) + 1) * 10 ^ l.length ≤ ((acc + 1) * 10) * 10 ^ l.length := Nat.mul_le_mul_right _ this
   _ = (acc + 1) * (10 ^ l.length * 10) := by rw [Nat.mul_assoc, Nat.mul_comm 10]
theorem mL : ∀ (l : List UInt8) (acc : Nat), l.all bF = true → cS acc l < 10 ^ 18 → Lib.parseUint10 acc l = .ok (cS acc l)
 | [], acc, _, _ => rfl
 | c :: l, acc, h, hv => by
  rw [List.all_cons, Bool.and_eq_true] at h
  have hc := b5.1 h.1
  rw [b9] at hv ⊢
  have h1 := mf l (10 * acc + (c.toNat - 48))
  rw [Lib.parseUint10, if_pos hc, if_neg (by omega), if_neg (by omega), show acc * 10 + (c.toNat - 48) = 10 * acc + (c.toNat - 48) by omega]
  exact mL l _ h.2 hv
theorem rz {x : List UInt8} (h : x.all bF = true) (hne : x ≠ []) (hl : x.length ≤ 18) : Lib.atoiAll x = .ok (cS 0 x : Nat) := by
 have hv : cS 0 x < 10 ^ 18 := by
  have := fO x 0 h
  have h2 : 10 ^ x.length ≤ 10 ^ 18 := Nat.pow_le_pow_right (by decide) hl
  omega
 cases x with
 | nil => exact absurd rfl hne
 | cons c r =>
  have hc : bF c = true := by rw [List.all_cons, Bool.and_eq_true] at h; exact h.1
  have hc := b5.1 hc
  have hp := mL (c :: r) 0 h hv
  unfold Lib.atoiAll
  simp only
  rw [if_neg (by omega)]
  unfold Lib.parseMag
  rw [if_neg (by simp), hp]
  simp only
  rw [if_neg (by omega), if_neg (by omega), if_neg (by omega)]
def aM (x : List UInt8) : Int := match Lib.atoiAll x with
 | .ok v => v
 | .syntax => 0
 | .range => Lib.atoiSat x
theorem gv {d : Nat} (hd : d ≤ 18) {x : List UInt8} {n : Nat} (h : cE d x = some n) : aM x = (n : Int) := by
 obtain ⟨_, h1, h2, h3, h4⟩ := gD h
 unfold aM
 rw [rz h1 h4 (by omega), h3]
def f6 (c : UInt8) : Bool := (decide (97 ≤ c) && decide (c ≤ 122)) || ((decide (48 ≤ c) && decide (c ≤ 57)) || (c == 46 || (c == 45 || c == 95)))
def okF (s : List UInt8) : Bool := s.all f6 && (decide (1 ≤ s.length) && decide (s.length ≤ 16))
def fD (c : UInt8) : Bool := c != 47
def eG (s : List UInt8) : Bool := match s.dropWhile fD with
 | [] => okF s
 | _ :: r => okF (s.takeWhile fD) && okF r
def aX (n : Int) (top : Nat) : Nat := (min (max n 0) (top : Int)).toNat
theorem cJ (n : Int) (top : Nat) : aX n top ≤ top := by unfold aX; omega
theorem dW {n top : Nat} (h : n ≤ top) : aX (n : Int) top = n := by unfold aX; omega
def bt : List UInt8 := [116, 109, 112, 47]
def lS (a b c : Nat) : List UInt8 := bt ++ (Lib.decDigits a ++ (46 :: (Lib.decDigits b ++ (46 :: Lib.decDigits c))))
def cZ (who inc n : Int) : List UInt8 := lS (aX who 999) (aX inc 99999) (aX n 99999)
theorem lU {x : List UInt8} (h : x.all bF = true) : ∀ c ∈ x, c ≠ 46 := by
 intro c hc
 have := b5.1 (List.all_eq_true.1 h c hc)
 intro e; subst e
 have : (46 : UInt8).toNat = 46 := rfl
 omega
theorem uQ (x y z : List UInt8) (hx : ∀ c ∈ x, c ≠ 46) (hy : ∀ c ∈ y, c ≠ 46) (hz : ∀ c ∈ z, c ≠ 46) : aR 46 (x ++ (46 :: (y ++ (46 :: z)))) = [x, y, z] := by
 rw [fe _ _ hx, fe _ _ hy, gz _ hz]
theorem rE (a b c : Nat) : aR 46 ((lS a b c).drop 4) = [Lib.decDigits a, Lib.decDigits b, Lib.decDigits c] := by
 show aR 46 (Lib.decDigits a ++ (46 :: (Lib.decDigits b ++ (46 :: Lib.decDigits c)))) = _
 exact uQ _ _ _ (lU (la a)) (lU (la b)) (lU (la c))
def ofF (s : List UInt8) : Option (Int × Int) :=
 if s.take 4 = bt then match aR 46 (s.drop 4) with
  | [x, y, z] => if cZ (aM x) (aM y) (aM z) = s then some (aM x, aM y) else none
  | _ => none
 else none
def qd (s : List UInt8) : Option (Int × Int) :=
 if s.take 4 = bt then match aR 46 (s.drop 4) with
  | [x, y, z] => match cE 3 x, cE 5 y, cE 5 z with
   | some a, some b, some _ => some ((a : Int), (b : Int))
   | _, _, _ => none
  | _ => none
 else none
theorem jC {d : Nat} (hd : d ≤ 17) (x : List UInt8) (h : Lib.decDigits (aX (aM x) (10 ^ (d + 1) - 1)) = x) : cE (d + 1) x = some (aX (aM x) (10 ^ (d + 1) - 1)) ∧ aM x = (aX (aM x) (10 ^ (d + 1) - 1) : Nat) := by
 have h1 := cJ (aM x) (10 ^ (d + 1) - 1)
 generalize aX (aM x) (10 ^ (d + 1) - 1) = v at *
 have h2 : v < 10 ^ (d + 1) := by have : 0 < 10 ^ (d + 1) := Nat.pow_pos (by decide); omega
 have h3 := tk h2
 rw [h] at h3
 exact ⟨h3, gv (by omega) h3⟩
theorem uh (s : List UInt8) : ofF s = qd s := by
 unfold ofF qd
 by_cases ht : s.take 4 = bt
 ·rw [if_pos ht, if_pos ht]
  split
  ·rename_i x y z hc
   have hs : s = bt ++ s.drop 4 := by rw [← ht, List.take_append_drop]
   have hj := mF (x := 46) (s.drop 4)
   rw [hc] at hj
   simp only [List.intercalate, List.intersperse] at hj
   have hj : x ++ (46 :: (y ++ (46 :: z))) = s.drop 4 := by simpa using hj
   have hs2 : s = bt ++ (x ++ (46 :: (y ++ (46 :: z)))) := by rw [hj]; exact hs
   have hd := nN (x := 46) (s.drop 4)
   rw [hc] at hd
   by_cases he : cZ (aM x) (aM y) (aM z) = s
   ·rw [if_pos he]
    have hcut : aR 46 ((cZ (aM x) (aM y) (aM z)).drop 4) = [x, y, z] := by rw [he]; exact hc
    unfold cZ at hcut
    rw [rE] at hcut
    simp only [List.cons.injEq, and_true] at hcut
    obtain ⟨h1, h2⟩ := jC (d := 2) (by decide) x hcut.1
    obtain ⟨h3, h4⟩ := jC (d := 4) (by decide) y hcut.2.1
    obtain ⟨h5, h6⟩ := jC (d := 4) (by decide) z hcut.2.2
    rw [h1, h3, h5]
    simp only
    rw [← h2, ← h4]
   ·rw [if_neg he]
    split
    ·rename_i a b c h1 h2 h3
     refine absurd ?_ he
     have e1 := gv (by decide) h1
     have e2 := gv (by decide) h2
     have e3 := gv (by decide) h3
     obtain ⟨x1, x2, x3, x4, x5⟩ := gD h1
     obtain ⟨y1, y2, y3, y4, y5⟩ := gD h2
     obtain ⟨z1, z2, z3, z4, z5⟩ := gD h3
     have b1 : a < 10 ^ 3 := by have := fO x 0 x2; have : 10 ^ x.length ≤ 10 ^ 3 := Nat.pow_le_pow_right (by decide) x3; omega
     have b2 : b < 10 ^ 5 := by have := fO y 0 y2; have : 10 ^ y.length ≤ 10 ^ 5 := Nat.pow_le_pow_right (by decide) y3; omega
     have b3 : c < 10 ^ 5 := by have := fO z 0 z2; have : 10 ^ z.length ≤ 10 ^ 5 := Nat.pow_le_pow_right (by decide) z3; omega
     unfold cZ lS
     rw [e1, e2, e3, dW (by omega), dW (by omega), dW (by omega), ← x1, ← y1, ← z1]
     exact hs2.symm
    ·rfl
  ·rfl
 ·rw [if_neg ht, if_neg ht]
end Go.G
