/- Layer 4, plainly: decimals, and names of files under way. -/
import Derived.Test.YtnonfejhkbaikaaDoorPCutF
import Derived.Test.YtnonfejhkbaikaaDoorPKE
namespace Go.G
open Go.Ab
set_option linter.unusedVariables false
set_option linter.unusedSimpArgs false

/-! ## decimals -/
def isDig (c : UInt8) : Bool := decide (48 ≤ c) && decide (c ≤ 57)
theorem isDig_nat {c : UInt8} : isDig c = true ↔ 48 ≤ c.toNat ∧ c.toNat ≤ 57 := by
  simp only [isDig, Bool.and_eq_true, decide_eq_true_eq, UInt8.le_iff_toNat_le]
  exact Iff.rfl
def dgt (c : UInt8) : Nat := c.toNat - 48
def stepV (a : Nat) (c : UInt8) : Nat := 10 * a + dgt c
def valF (acc : Nat) (l : List UInt8) : Nat := l.foldl stepV acc
theorem valF_nil (acc : Nat) : valF acc [] = acc := rfl
theorem valF_cons (acc : Nat) (c : UInt8) (r : List UInt8) : valF acc (c :: r) = valF (10 * acc + (c.toNat - 48)) r := by
  unfold valF; rw [List.foldl_cons]; unfold stepV dgt; exact Eq.refl _
theorem valF_snoc : ∀ (l : List UInt8) (acc : Nat) (c : UInt8), valF acc (l ++ [c]) = 10 * valF acc l + (c.toNat - 48)
  | [], acc, c => by rw [List.nil_append, valF_cons, valF_nil, valF_nil]
  | d :: l, acc, c => by rw [List.cons_append, valF_cons, valF_cons, valF_snoc l]
theorem valF_ge : ∀ (l : List UInt8) (acc : Nat), acc ≤ valF acc l
  | [], acc => Nat.le_refl _
  | d :: l, acc => by rw [valF_cons]; exact Nat.le_trans (by omega) (valF_ge l _)
/-- The number that a text is, of at most so many digits. -/
def numF (d : Nat) (x : List UInt8) : Option Nat :=
  if x.all isDig = true ∧ x.length ≤ d ∧ x ≠ [] ∧ (x = [48] ∨ x.head? ≠ some 48) then some (valF 0 x) else none

theorem dig_of {u : Nat} (h : u < 10) : isDig (UInt8.ofNat (48 + u)) = true ∧ (UInt8.ofNat (48 + u)).toNat - 48 = u := by
  have : (UInt8.ofNat (48 + u)).toNat = 48 + u := by rw [UInt8.toNat_ofNat']; omega
  exact ⟨isDig_nat.2 (by omega), by omega⟩
theorem dd_small {u : Nat} (h : u < 10) : Lib.decDigits u = [UInt8.ofNat (48 + u)] := by rw [Lib.decDigits, dif_pos h]
theorem dd_big {u : Nat} (h : ¬ u < 10) : Lib.decDigits u = Lib.decDigits (u / 10) ++ [UInt8.ofNat (48 + u % 10)] := by rw [Lib.decDigits, dif_neg h]
theorem dd_all (u : Nat) : (Lib.decDigits u).all isDig = true := by
  induction u using Nat.strongRecOn with
  | _ u ih =>
    by_cases h : u < 10
    · rw [dd_small h]; simpa using (dig_of h).1
    · rw [dd_big h, List.all_append, ih _ (by omega)]
      simpa using (dig_of (Nat.mod_lt u (by decide))).1
theorem dd_val (u : Nat) : valF 0 (Lib.decDigits u) = u := by
  induction u using Nat.strongRecOn with
  | _ u ih =>
    by_cases h : u < 10
    · rw [dd_small h]
      have := (dig_of h).2
      rw [valF_cons, valF_nil]; omega
    · rw [dd_big h, valF_snoc, ih _ (by omega)]
      have := (dig_of (Nat.mod_lt u (show 0 < 10 by decide))).2
      omega
theorem dd_ne (u : Nat) : Lib.decDigits u ≠ [] := by
  by_cases h : u < 10
  · rw [dd_small h]; simp
  · rw [dd_big h]; simp
theorem dd_len : ∀ (d u : Nat), u < 10 ^ (d + 1) → (Lib.decDigits u).length ≤ d + 1
  | 0, u, h => by rw [dd_small (by simpa using h)]; simp
  | d + 1, u, h => by
    by_cases hu : u < 10
    · rw [dd_small hu]; simp
    · rw [dd_big hu, List.length_append]
      have := dd_len d (u / 10) (by rw [Nat.pow_succ] at h; omega)
      simp; omega
theorem dd_head (u : Nat) (h : 1 ≤ u) : (Lib.decDigits u).head? ≠ some 48 := by
  induction u using Nat.strongRecOn with
  | _ u ih =>
    by_cases hu : u < 10
    · rw [dd_small hu]
      intro he
      have he : UInt8.ofNat (48 + u) = 48 := by simpa using he
      have := (dig_of hu).2
      rw [he] at this
      have h48 : (48 : UInt8).toNat = 48 := rfl
      omega
    · rw [dd_big hu, List.head?_append]
      have := ih (u / 10) (by omega) (by omega)
      cases hq : Lib.decDigits (u / 10) with
      | nil => exact absurd hq (dd_ne _)
      | cons a r => rw [hq] at this; simpa using this
theorem numF_dd {d u : Nat} (h : u < 10 ^ (d + 1)) : numF (d + 1) (Lib.decDigits u) = some u := by
  unfold numF
  have hz : Lib.decDigits u = [48] ∨ (Lib.decDigits u).head? ≠ some 48 := by
    by_cases hu : u = 0
    · subst hu; left; rw [dd_small (by decide)]; rfl
    · right; exact dd_head u (by omega)
  rw [if_pos ⟨dd_all u, dd_len d u h, dd_ne u, hz⟩, dd_val]
theorem val_pos {c : UInt8} {r : List UInt8} (hc : isDig c = true) (h : c ≠ 48) : 1 ≤ valF 0 (c :: r) := by
  rw [valF_cons]
  refine Nat.le_trans ?_ (valF_ge _ _)
  have h1 := (isDig_nat.1 hc).1
  have : c.toNat ≠ 48 := fun e => h (UInt8.toNat_inj.1 e)
  omega
theorem dd_of_num : ∀ (n : Nat) (x : List UInt8), x.length = n → x.all isDig = true → x ≠ [] → (x = [48] ∨ x.head? ≠ some 48) → Lib.decDigits (valF 0 x) = x
  | 0, x, hl, _, hne, _ => absurd (List.length_eq_zero_iff.1 hl) hne
  | n + 1, x, hl, ha, hne, hz => by
    obtain ⟨y, c, rfl⟩ : ∃ y c, x = y ++ [c] := ⟨x.dropLast, x.getLast hne, (List.dropLast_concat_getLast hne).symm⟩
    rw [List.all_append, Bool.and_eq_true] at ha
    have hc : isDig c = true := by simpa using ha.2
    have hc2 := isDig_nat.1 hc
    have hcv : UInt8.ofNat (48 + (c.toNat - 48)) = c := by
      rw [show 48 + (c.toNat - 48) = c.toNat by omega]; simp
    cases y with
    | nil =>
      rw [List.nil_append]
      rw [valF_cons, valF_nil, Nat.mul_zero, Nat.zero_add, dd_small (by omega)]
      rw [hcv]
    | cons a y =>
      have hz2 : (a :: y).head? ≠ some 48 := by
        rcases hz with hz | hz
        · have := congrArg List.length hz; simp at this
        · simpa using hz
      have hy := dd_of_num n (a :: y) (by simpa using hl) ha.1 (by simp) (.inr hz2)
      have ha1 : isDig a = true := by
        have := ha.1; rw [List.all_cons, Bool.and_eq_true] at this; exact this.1
      have hp := val_pos (r := y) ha1 (by simpa using hz2)
      rw [valF_snoc]
      generalize valF 0 (a :: y) = v at *
      rw [dd_big (by omega), show (10 * v + (c.toNat - 48)) / 10 = v by omega, show (10 * v + (c.toNat - 48)) % 10 = c.toNat - 48 by omega, hy, hcv]
theorem numF_some {d : Nat} {x : List UInt8} {n : Nat} (h : numF d x = some n) : x = Lib.decDigits n ∧ x.all isDig = true ∧ x.length ≤ d ∧ n = valF 0 x ∧ x ≠ [] := by
  unfold numF at h
  split at h
  · rename_i hx
    injection h with h; subst h
    exact ⟨(dd_of_num x.length x rfl hx.1 hx.2.2.1 hx.2.2.2).symm, hx.1, hx.2.1, rfl, hx.2.2.1⟩
  · cases h
theorem valF_lt : ∀ (l : List UInt8) (acc : Nat), l.all isDig = true → valF acc l < (acc + 1) * 10 ^ l.length
  | [], acc, _ => by rw [valF_nil]; simp
  | c :: l, acc, h => by
    rw [List.all_cons, Bool.and_eq_true] at h
    have hc := isDig_nat.1 h.1
    rw [valF_cons, List.length_cons, Nat.pow_succ]
    refine Nat.lt_of_lt_of_le (valF_lt l _ h.2) ?_
    have : (10 * acc + (c.toNat - 48) + 1) ≤ (acc + 1) * 10 := by omega
    calc (10 * acc + (c.toNat - 48) + 1) * 10 ^ l.length ≤ ((acc + 1) * 10) * 10 ^ l.length := Nat.mul_le_mul_right _ this
      _ = (acc + 1) * (10 ^ l.length * 10) := by rw [Nat.mul_assoc, Nat.mul_comm 10]
theorem parse_val : ∀ (l : List UInt8) (acc : Nat), l.all isDig = true → valF acc l < 10 ^ 18 → Lib.parseUint10 acc l = .ok (valF acc l)
  | [], acc, _, _ => rfl
  | c :: l, acc, h, hv => by
    rw [List.all_cons, Bool.and_eq_true] at h
    have hc := isDig_nat.1 h.1
    rw [valF_cons] at hv ⊢
    have h1 := valF_ge l (10 * acc + (c.toNat - 48))
    rw [Lib.parseUint10, if_pos hc, if_neg (by omega), if_neg (by omega), show acc * 10 + (c.toNat - 48) = 10 * acc + (c.toNat - 48) by omega]
    exact parse_val l _ h.2 hv
theorem atoi_val {x : List UInt8} (h : x.all isDig = true) (hne : x ≠ []) (hl : x.length ≤ 18) : Lib.atoiAll x = .ok (valF 0 x : Nat) := by
  have hv : valF 0 x < 10 ^ 18 := by
    have := valF_lt x 0 h
    have h2 : 10 ^ x.length ≤ 10 ^ 18 := Nat.pow_le_pow_right (by decide) hl
    omega
  cases x with
  | nil => exact absurd rfl hne
  | cons c r =>
    have hc : isDig c = true := by rw [List.all_cons, Bool.and_eq_true] at h; exact h.1
    have hc := isDig_nat.1 hc
    have hp := parse_val (c :: r) 0 h hv
    unfold Lib.atoiAll
    simp only
    rw [if_neg (by omega)]
    unfold Lib.parseMag
    rw [if_neg (by simp), hp]
    simp only
    rw [if_neg (by omega), if_neg (by omega), if_neg (by omega)]
/-- What Atoi tells, whether it is a number or not. -/
def atoiV (x : List UInt8) : Int := match Lib.atoiAll x with
  | .ok v => v
  | .syntax => 0
  | .range => Lib.atoiSat x
theorem atoiV_num {d : Nat} (hd : d ≤ 18) {x : List UInt8} {n : Nat} (h : numF d x = some n) : atoiV x = (n : Int) := by
  obtain ⟨_, h1, h2, h3, h4⟩ := numF_some h
  unfold atoiV
  rw [atoi_val h1 h4 (by omega), h3]

/-! ## names -/
def letB (c : UInt8) : Bool := (decide (97 ≤ c) && decide (c ≤ 122)) || ((decide (48 ≤ c) && decide (c ≤ 57)) || (c == 46 || (c == 45 || c == 95)))
def okF (s : List UInt8) : Bool := s.all letB && (decide (1 ≤ s.length) && decide (s.length ≤ 16))
def notSl (c : UInt8) : Bool := c != 47
/-- A file's name. -/
def fileF (s : List UInt8) : Bool := match s.dropWhile notSl with
  | [] => okF s
  | _ :: r => okF (s.takeWhile notSl) && okF r
def clampN (n : Int) (top : Nat) : Nat := (min (max n 0) (top : Int)).toNat
theorem clampN_le (n : Int) (top : Nat) : clampN n top ≤ top := by unfold clampN; omega
theorem clampN_of {n top : Nat} (h : n ≤ top) : clampN (n : Int) top = n := by unfold clampN; omega
def tmpS : List UInt8 := [116, 109, 112, 47]
def dec3 (a b c : Nat) : List UInt8 := tmpS ++ (Lib.decDigits a ++ (46 :: (Lib.decDigits b ++ (46 :: Lib.decDigits c))))
def tempF (who inc n : Int) : List UInt8 := dec3 (clampN who 999) (clampN inc 99999) (clampN n 99999)
theorem dig_dot {x : List UInt8} (h : x.all isDig = true) : ∀ c ∈ x, c ≠ 46 := by
  intro c hc
  have := isDig_nat.1 (List.all_eq_true.1 h c hc)
  intro e; subst e
  have : (46 : UInt8).toNat = 46 := rfl
  omega
theorem cut3 (x y z : List UInt8) (hx : ∀ c ∈ x, c ≠ 46) (hy : ∀ c ∈ y, c ≠ 46) (hz : ∀ c ∈ z, c ≠ 46) : cutF 46 (x ++ (46 :: (y ++ (46 :: z)))) = [x, y, z] := by
  rw [cutF_stop _ _ hx, cutF_stop _ _ hy, cutF_last _ hz]
theorem dec3_cut (a b c : Nat) : cutF 46 ((dec3 a b c).drop 4) = [Lib.decDigits a, Lib.decDigits b, Lib.decDigits c] := by
  show cutF 46 (Lib.decDigits a ++ (46 :: (Lib.decDigits b ++ (46 :: Lib.decDigits c)))) = _
  exact cut3 _ _ _ (dig_dot (dd_all a)) (dig_dot (dd_all b)) (dig_dot (dd_all c))
theorem dd_inj {a b : Nat} (h : Lib.decDigits a = Lib.decDigits b) : a = b := by
  have := congrArg (valF 0) h; rwa [dd_val, dd_val] at this
theorem dec3_inj {a b c a' b' c' : Nat} (h : dec3 a b c = dec3 a' b' c') : a = a' ∧ b = b' ∧ c = c' := by
  have := congrArg (fun x => cutF 46 (List.drop 4 x)) h
  simp only [dec3_cut, List.cons.injEq, and_true] at this
  exact ⟨dd_inj this.1, dd_inj this.2.1, dd_inj this.2.2⟩
/-- Whose a file is. -/
def ofF (s : List UInt8) : Option (Int × Int) :=
  if s.take 4 = tmpS then match cutF 46 (s.drop 4) with
    | [x, y, z] => if tempF (atoiV x) (atoiV y) (atoiV z) = s then some (atoiV x, atoiV y) else none
    | _ => none
  else none
def rofF (s : List UInt8) : Option (Int × Int) :=
  if s.take 4 = tmpS then match cutF 46 (s.drop 4) with
    | [x, y, z] => match numF 3 x, numF 5 y, numF 5 z with
      | some a, some b, some _ => some ((a : Int), (b : Int))
      | _, _, _ => none
    | _ => none
  else none
theorem num_clamp {d : Nat} (hd : d ≤ 17) (x : List UInt8) (h : Lib.decDigits (clampN (atoiV x) (10 ^ (d + 1) - 1)) = x) : numF (d + 1) x = some (clampN (atoiV x) (10 ^ (d + 1) - 1)) ∧ atoiV x = (clampN (atoiV x) (10 ^ (d + 1) - 1) : Nat) := by
  have h1 := clampN_le (atoiV x) (10 ^ (d + 1) - 1)
  generalize clampN (atoiV x) (10 ^ (d + 1) - 1) = v at *
  have h2 : v < 10 ^ (d + 1) := by have : 0 < 10 ^ (d + 1) := Nat.pow_pos (by decide); omega
  have h3 := numF_dd h2
  rw [h] at h3
  exact ⟨h3, atoiV_num (by omega) h3⟩
theorem ofF_eq (s : List UInt8) : ofF s = rofF s := by
  unfold ofF rofF
  by_cases ht : s.take 4 = tmpS
  · rw [if_pos ht, if_pos ht]
    split
    · rename_i x y z hc
      have hs : s = tmpS ++ s.drop 4 := by rw [← ht, List.take_append_drop]
      have hj := cutF_join (x := 46) (s.drop 4)
      rw [hc] at hj
      simp only [List.intercalate, List.intersperse] at hj
      have hj : x ++ (46 :: (y ++ (46 :: z))) = s.drop 4 := by simpa using hj
      have hs2 : s = tmpS ++ (x ++ (46 :: (y ++ (46 :: z)))) := by rw [hj]; exact hs
      have hd := cutF_mem (x := 46) (s.drop 4)
      rw [hc] at hd
      by_cases he : tempF (atoiV x) (atoiV y) (atoiV z) = s
      · rw [if_pos he]
        have hcut : cutF 46 ((tempF (atoiV x) (atoiV y) (atoiV z)).drop 4) = [x, y, z] := by rw [he]; exact hc
        unfold tempF at hcut
        rw [dec3_cut] at hcut
        simp only [List.cons.injEq, and_true] at hcut
        obtain ⟨h1, h2⟩ := num_clamp (d := 2) (by decide) x hcut.1
        obtain ⟨h3, h4⟩ := num_clamp (d := 4) (by decide) y hcut.2.1
        obtain ⟨h5, h6⟩ := num_clamp (d := 4) (by decide) z hcut.2.2
        rw [h1, h3, h5]
        simp only
        rw [← h2, ← h4]
      · rw [if_neg he]
        split
        · rename_i a b c h1 h2 h3
          refine absurd ?_ he
          have e1 := atoiV_num (by decide) h1
          have e2 := atoiV_num (by decide) h2
          have e3 := atoiV_num (by decide) h3
          obtain ⟨x1, x2, x3, x4, x5⟩ := numF_some h1
          obtain ⟨y1, y2, y3, y4, y5⟩ := numF_some h2
          obtain ⟨z1, z2, z3, z4, z5⟩ := numF_some h3
          have b1 : a < 10 ^ 3 := by have := valF_lt x 0 x2; have : 10 ^ x.length ≤ 10 ^ 3 := Nat.pow_le_pow_right (by decide) x3; omega
          have b2 : b < 10 ^ 5 := by have := valF_lt y 0 y2; have : 10 ^ y.length ≤ 10 ^ 5 := Nat.pow_le_pow_right (by decide) y3; omega
          have b3 : c < 10 ^ 5 := by have := valF_lt z 0 z2; have : 10 ^ z.length ≤ 10 ^ 5 := Nat.pow_le_pow_right (by decide) z3; omega
          unfold tempF dec3
          rw [e1, e2, e3, clampN_of (by omega), clampN_of (by omega), clampN_of (by omega), ← x1, ← y1, ← z1]
          exact hs2.symm
        · rfl
    · rfl
  · rw [if_neg ht, if_neg ht]
/-- A name of something under way is told. -/
theorem rofF_temp (a b c : Nat) (ha : a ≤ 999) (hb : b ≤ 99999) (hc : c ≤ 99999) : rofF (dec3 a b c) = some ((a : Int), (b : Int)) := by
  unfold rofF
  have h4 : (dec3 a b c).take 4 = tmpS := by unfold dec3; rw [show (4 : Nat) = tmpS.length from rfl, List.take_left]
  rw [if_pos h4, dec3_cut]
  simp only
  rw [numF_dd (d := 2) (u := a) (by omega), numF_dd (d := 4) (u := b) (by omega), numF_dd (d := 4) (u := c) (by omega)]
theorem dig_let {c : UInt8} (h : isDig c = true) : letB c = true := by
  unfold isDig at h
  unfold letB
  rw [h]; simp
theorem dec3_file (a b c : Nat) (ha : a ≤ 999) (hb : b ≤ 99999) (hc : c ≤ 99999) : fileF (dec3 a b c) = true ∧ okF (dec3 a b c) = false := by
  constructor
  · show (okF [116, 109, 112] && okF (Lib.decDigits a ++ (46 :: (Lib.decDigits b ++ (46 :: Lib.decDigits c))))) = true
    have h1 := dd_len 2 a (by omega)
    have h2 := dd_len 4 b (by omega)
    have h3 := dd_len 4 c (by omega)
    have l1 : ∀ u, (Lib.decDigits u).all letB = true := fun u => List.all_eq_true.2 fun c hc => dig_let (List.all_eq_true.1 (dd_all u) c hc)
    have h0 := dd_ne a
    have h0 : 0 < (Lib.decDigits a).length := List.length_pos_iff.2 h0
    rw [Bool.and_eq_true]
    refine ⟨rfl, ?_⟩
    unfold okF
    rw [List.all_append, List.all_cons, List.all_append, List.all_cons, l1, l1, l1]
    simp [letB]
    omega
  · unfold okF
    have : (dec3 a b c).all letB = false := by
      rw [List.all_eq_false]
      exact ⟨47, by simp [dec3, tmpS], by decide⟩
    rw [this]; rfl
end Go.G
