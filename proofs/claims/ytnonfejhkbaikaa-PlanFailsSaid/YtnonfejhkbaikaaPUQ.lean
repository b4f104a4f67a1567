/- ... -/
import Derived.Test.YtnonfejhkbaikaaPN0
namespace Go.G
open Go.Ab
set_option linter.unusedVariables false
set_option linter.unusedSimpArgs false
abbrev Wd := List UInt8 × Nat × Nat × Bool
abbrev Ft := Nat × Nat × Nat
def iE (c : UInt8) : Bool := c == 32 || c == 9
def eF (c : UInt8) : Bool := c == 58 || c == 124 || c == 61 || c == 59 || c == 44
def fH (c : UInt8) : Bool := decide (32 ≤ c) && decide (c ≤ 126)
def aE (c : UInt8) : Bool := decide (32 < c) && (decide (c ≤ 126) && (c != 34 && !eF c))
def inQ (c : UInt8) : Bool := c != 34 && c != 10
def dg (x : List UInt8) : Option Nat := x.findIdx? fun d => !fH d
def aR (line col : Nat) (c : UInt8) (t : List UInt8) : Sum Ft (Wd × Nat) :=
    if c = 34 then
     if (t.dropWhile inQ).head? = some 34 then
      if 64 < (t.takeWhile inQ).length then .inl (3, line, col)
      else match dg (t.takeWhile inQ) with
       | some k => .inl (1, line, col + 1 + k)
       | none => .inr ((t.takeWhile inQ, line, col, true), (t.takeWhile inQ).length + 2)
     else .inl (2, line, col)
    else if eF c then .inr (([c], line, col, false), 1)
    else if aE c = false then .inl (1, line, col)
    else if 64 < ((c :: t).takeWhile aE).length then .inl (3, line, col)
    else .inr (((c :: t).takeWhile aE, line, col, false), ((c :: t).takeWhile aE).length)
def gH (row : List Wd) (out : List (List Wd)) : List (List Wd) := if row = [] then out else row :: out
def sT {α β γ : Type} (f : β → γ) : Sum α β → Sum α γ
 | .inl a => .inl a
 | .inr b => .inr (f b)
@[simp] theorem J0 {α β γ : Type} (f : β → γ) (a : α) : sT f (.inl a : Sum α β) = .inl a := rfl
@[simp] theorem J1 {α β γ : Type} (f : β → γ) (b : β) : sT f (.inr b : Sum α β) = .inr (f b) := rfl
def fk (c : UInt8) : Bool := c != 10
def aH : Nat → Nat → Nat → List Wd → List UInt8 → Sum Ft (List (List Wd))
 | 0, _, _, _, _ => .inl (0, 0, 0)
 | _ + 1, _, _, row, [] => .inr (gH row [])
 | k + 1, line, col, row, c :: t =>
  if c = 10 then sT (gH row) (aH k (line + 1) 1 [] t)
  else if iE c = true then aH k line (col + 1) row t
  else if c = 35 then aH k line col row (t.dropWhile fk)
  else match aR line col c t with
   | .inl f => .inl f
   | .inr (w, n) => aH k line (col + n) (row ++ [w]) ((c :: t).drop n)
def cW : Nat → Nat → Nat → List Wd → List UInt8 → Sum Ft (List Wd)
 | 0, _, _, _, _ => .inl (0, 0, 0)
 | _ + 1, _, _, row, [] => .inr row
 | k + 1, line, col, row, c :: t =>
  if iE c = true then cW k line (col + 1) row t
  else if c = 35 then .inr row
  else match aR line col c t with
   | .inl f => .inl f
   | .inr (w, n) => cW k line (col + n) (row ++ [w]) ((c :: t).drop n)
theorem pV {line col : Nat} {c : UInt8} {t : List UInt8} {w : Wd} {n : Nat} (h : aR line col c t = .inr (w, n)) : 1 ≤ n := by
 unfold aR at h
 split at h
 ·split at h
  ·split at h
   ·cases h
   ·split at h
    ·cases h
    ·injection h with h; injection h with _ h; omega
  ·cases h
 ·split at h
  ·injection h with h; injection h with _ h; omega
  ·split at h
   ·cases h
   ·rename_i hl
    split at h
    ·cases h
    ·injection h with h; injection h with _ h
     have hl : aE c = true := by simpa using hl
     rw [List.takeWhile_cons, if_pos hl, List.length_cons] at h
     omega
theorem nR {c : UInt8} {t : List UInt8} {n : Nat} (h : 1 ≤ n) : ((c :: t).drop n).length ≤ t.length := by
 rw [List.length_drop, List.length_cons]; omega
theorem un : ∀ (k k' line col : Nat) (row : List Wd) (r : List UInt8), r.length < k → r.length < k' → aH k line col row r = aH k' line col row r := by
 intro k
 induction k with
 | zero => intro k' _ _ _ r h; omega
 | succ k ih =>
  intro k' line col row r h h'
  cases k' with
  | zero => omega
  | succ k' =>
   cases r with
   | nil => rfl
   | cons c t =>
    rw [List.length_cons] at h h'
    simp only [aH]
    split
    ·rw [ih k' _ _ _ t (by omega) (by omega)]
    ·split
     ·rw [ih k' _ _ _ t (by omega) (by omega)]
     ·split
      ·have := (List.dropWhile_suffix (l := t) fk).length_le
       rw [ih k' _ _ _ _ (by omega) (by omega)]
      ·split
       ·rfl
       ·rename_i w n hw
        have := nR (t := t) (c := c) (pV hw)
        rw [ih k' _ _ _ _ (by omega) (by omega)]
def mA (b : List UInt8) : Sum Ft (List (List Wd)) := aH (b.length + 1) 1 1 [] b
theorem kc {p : UInt8 → Bool} : ∀ t : List UInt8, (∀ c ∈ t, p c = true) → t.dropWhile p = []
 | [], _ => rfl
 | c :: t, h => by rw [List.dropWhile_cons, if_pos (h c (by simp)), kc t fun d hd => h d (by simp [hd])]
theorem jg {p : UInt8 → Bool} {x : UInt8} (hx : p x = false) (r : List UInt8) : ∀ s : List UInt8, (s ++ x :: r).takeWhile p = s.takeWhile p
 | [] => by rw [List.nil_append, List.takeWhile_cons, hx]; rfl
 | c :: s => by
  rw [List.cons_append, List.takeWhile_cons, List.takeWhile_cons]
  cases p c with
  | true => simp only [if_true]; rw [jg hx r s]
  | false => rfl
theorem jb {p : UInt8 → Bool} {x : UInt8} (hx : p x = false) (r : List UInt8) : ∀ s : List UInt8, (s ++ x :: r).dropWhile p = s.dropWhile p ++ x :: r
 | [] => by rw [List.nil_append, List.dropWhile_cons, hx]; rfl
 | c :: s => by
  rw [List.cons_append, List.dropWhile_cons, List.dropWhile_cons]
  cases p c with
  | true => simp only [if_true]; rw [jb hx r s]
  | false => rfl
theorem FG (line col : Nat) (r : List UInt8) (c : UInt8) (t : List UInt8) : aR line col c (t ++ 10 :: r) = aR line col c t := by
 have h1 : (t ++ 10 :: r).takeWhile inQ = t.takeWhile inQ := jg rfl r t
 have h2 : (t ++ 10 :: r).dropWhile inQ = t.dropWhile inQ ++ 10 :: r := jb rfl r t
 have h3 : (c :: (t ++ 10 :: r)).takeWhile aE = (c :: t).takeWhile aE := jg (p := aE) (x := 10) rfl r (c :: t)
 have h4 : ((t.dropWhile inQ ++ 10 :: r).head? = some (34 : UInt8)) = ((t.dropWhile inQ).head? = some 34) := by
  cases t.dropWhile inQ with
  | nil => simp
  | cons a b => simp
 unfold aR
 simp only [h1, h2, h3, h4]
theorem A7 {line col : Nat} {c : UInt8} {t : List UInt8} {w : Wd} {n : Nat} (h : aR line col c t = .inr (w, n)) : n ≤ t.length + 1 := by
 unfold aR at h
 split at h
 ·split at h
  ·rename_i hd
   split at h
   ·cases h
   ·split at h
    ·cases h
    ·injection h with h; injection h with _ h
     have e := List.takeWhile_append_dropWhile (p := inQ) (l := t)
     have := congrArg List.length e
     rw [List.length_append] at this
     have : 1 ≤ (t.dropWhile inQ).length := by
      cases hq : t.dropWhile inQ with
      | nil => rw [hq] at hd; simp at hd
      | cons => simp
     omega
  ·cases h
 ·split at h
  ·injection h with h; injection h with _ h; omega
  ·split at h
   ·cases h
   ·split at h
    ·cases h
    ·injection h with h; injection h with _ h
     have := (List.takeWhile_prefix (l := c :: t) aE).length_le
     rw [List.length_cons] at this
     omega
theorem GO {line col : Nat} {c : UInt8} {t : List UInt8} {f : Ft} (h : aR line col c t = .inl f) : f.2.2 ≤ col + t.length + 1 ∧ f.2.1 = line := by
 unfold aR at h
 split at h
 ·split at h
  ·split at h
   ·injection h with h; subst h; exact ⟨by simp only; omega, rfl⟩
   ·split at h
    ·rename_i k hk
     injection h with h; subst h
     have h1 : k < (t.takeWhile inQ).length := by
      unfold dg at hk
      exact (List.findIdx?_eq_some_iff_getElem.1 hk).1
     have h2 := (List.takeWhile_prefix (l := t) inQ).length_le
     exact ⟨by simp only; omega, rfl⟩
    ·cases h
  ·injection h with h; subst h; exact ⟨by simp only; omega, rfl⟩
 ·split at h
  ·cases h
  ·split at h
   ·injection h with h; subst h; exact ⟨by simp only; omega, rfl⟩
   ·split at h
    ·injection h with h; subst h; exact ⟨by simp only; omega, rfl⟩
    ·cases h
theorem BV (r : List UInt8) : ∀ (k line col : Nat) (row : List Wd) (s : List UInt8), (∀ c ∈ s, c ≠ 10) → s.length < k →
    aH (k + r.length + 1) line col row (s ++ 10 :: r) = match cW k line col row s with
     | .inl f => .inl f
     | .inr l => sT (gH l) (aH (r.length + 1) (line + 1) 1 [] r) := by
 intro k
 induction k with
 | zero => intro _ _ _ s _ h; omega
 | succ k ih =>
  intro line col row s hs h
  rw [show k + 1 + r.length + 1 = (k + r.length + 1) + 1 by omega]
  cases s with
  | nil =>
   simp only [List.nil_append, aH, cW, if_true]
   rw [un _ (r.length + 1) _ _ _ r (by omega) (by omega)]
  | cons c t =>
   rw [List.length_cons] at h
   have hc : c ≠ 10 := hs c (by simp)
   simp only [List.cons_append, aH, cW]
   rw [if_neg hc]
   split
   ·exact ih _ _ _ t (fun d hd => hs d (by simp [hd])) (by omega)
   ·split
    ·rename_i h35
     have hd : (t ++ 10 :: r).dropWhile fk = 10 :: r := by
      rw [jb rfl r t]
      have : t.dropWhile fk = [] := kc t fun d hd => by simpa [fk] using hs d (by simp [hd])
      rw [this]; rfl
     rw [hd]
     show aH (k + r.length + 1) line col row (10 :: r) = _
     simp only [aH, if_true]
     cases k with
     | zero => omega
     | succ k => rw [un _ (r.length + 1) _ _ _ r (by omega) (by omega)]
    ·rw [FG]
     cases hw : aR line col c t with
     | inl f => rfl
     | inr p =>
      obtain ⟨w, n⟩ := p
      have h1 := pV hw
      have h2 := A7 hw
      have h3 := nR (t := t) (c := c) h1
      show aH (k + r.length + 1) line (col + n) (row ++ [w]) ((c :: (t ++ 10 :: r)).drop n) = _
      have e : (c :: (t ++ 10 :: r)).drop n = (c :: t).drop n ++ 10 :: r := by
       rw [show c :: (t ++ 10 :: r) = (c :: t) ++ 10 :: r from rfl, List.drop_append, show n - (c :: t).length = 0 by rw [List.length_cons]; omega]; rfl
      rw [e]
      exact ih _ _ _ _ (fun d hd => hs d (List.mem_of_mem_drop hd)) (by omega)
theorem BU : ∀ (k line col : Nat) (row : List Wd) (s : List UInt8), (∀ c ∈ s, c ≠ 10) → s.length < k →
    aH k line col row s = sT (fun l => gH l []) (cW k line col row s) := by
 intro k
 induction k with
 | zero => intro _ _ _ s _ h; omega
 | succ k ih =>
  intro line col row s hs h
  cases s with
  | nil => rfl
  | cons c t =>
   rw [List.length_cons] at h
   have hc : c ≠ 10 := hs c (by simp)
   simp only [aH, cW]
   rw [if_neg hc]
   split
   ·exact ih _ _ _ t (fun d hd => hs d (by simp [hd])) (by omega)
   ·split
    ·have : t.dropWhile fk = [] := kc t fun d hd => by simpa [fk] using hs d (by simp [hd])
     rw [this]
     cases k with
     | zero => omega
     | succ k => rfl
    ·cases hw : aR line col c t with
     | inl f => rfl
     | inr p =>
      obtain ⟨w, n⟩ := p
      have h3 := nR (t := t) (c := c) (pV hw)
      exact ih _ _ _ _ (fun d hd => hs d (List.mem_of_mem_drop hd)) (by omega)
def eG : List UInt8 → List (List UInt8)
 | [] => [[]]
 | c :: t => if c = 10 then [] :: eG t else match eG t with
  | [] => [[c]]
  | l :: r => (c :: l) :: r
def nu : Nat → List (List UInt8) → Sum Ft (List (List Wd))
 | _, [] => .inr []
 | line, l :: r => match cW (l.length + 1) line 1 [] l with
  | .inl f => .inl f
  | .inr ws => sT (gH ws) (nu (line + 1) r)
theorem nU (r : List UInt8) : ∀ s : List UInt8, (∀ c ∈ s, c ≠ 10) → eG (s ++ 10 :: r) = s :: eG r
 | [], _ => by rw [List.nil_append, eG, if_pos rfl]
 | c :: s, h => by
  rw [List.cons_append, eG, if_neg (h c (by simp)), nU r s fun d hd => h d (by simp [hd])]
theorem uk : ∀ s : List UInt8, (∀ c ∈ s, c ≠ 10) → eG s = [s]
 | [], _ => rfl
 | c :: s, h => by
  rw [eG, if_neg (h c (by simp)), uk s fun d hd => h d (by simp [hd])]
theorem HB (b : List UInt8) : (∀ c ∈ b, c ≠ 10) ∨ ∃ s r, b = s ++ 10 :: r ∧ ∀ c ∈ s, c ≠ 10 := by
 induction b with
 | nil => exact .inl fun c h => by cases h
 | cons c t ih =>
  by_cases hc : c = 10
  ·exact .inr ⟨[], t, by rw [hc]; rfl, fun c h => by cases h⟩
  ·rcases ih with h | ⟨s, r, rfl, h⟩
   ·exact .inl fun d hd => by
      rcases List.mem_cons.1 hd with rfl | hd
      ·exact hc
      ·exact h d hd
   ·exact .inr ⟨c :: s, r, rfl, fun d hd => by
      rcases List.mem_cons.1 hd with rfl | hd
      ·exact hc
      ·exact h d hd⟩
theorem BW : ∀ (m : Nat) (b : List UInt8) (line : Nat), b.length ≤ m → aH (b.length + 1) line 1 [] b = nu line (eG b) := by
 intro m
 induction m with
 | zero =>
  intro b line h
  have : b = [] := List.length_eq_zero_iff.1 (by omega)
  subst this; rfl
 | succ m ih =>
  intro b line h
  rcases HB b with hb | ⟨s, r, rfl, hs⟩
  ·rw [BU _ _ _ _ _ hb (by omega), uk b hb, nu]
   cases cW (b.length + 1) line 1 [] b with
   | inl f => rfl
   | inr l => rfl
  ·have e : (s ++ 10 :: r).length + 1 = (s.length + 1) + r.length + 1 := by simp; omega
   rw [e, BV r _ _ _ _ _ hs (by omega), nU r s hs, nu]
   rw [List.length_append, List.length_cons] at h
   rw [ih r (line + 1) (by omega)]
theorem BT (b : List UInt8) : mA b = nu 1 (eG b) := BW b.length b 1 (Nat.le_refl _)
end Go.G

namespace Go.G
open Go.Ab
set_option linter.unusedVariables false
set_option linter.unusedSimpArgs false
def JL (f : Ft) : Prop := f.1 = 1 ∨ f.1 = 2 ∨ f.1 = 3
theorem H9 {line col : Nat} {c : UInt8} {t : List UInt8} {f : Ft} (h : aR line col c t = .inl f) : JL f := by
 unfold aR at h
 split at h
 ·split at h
  ·split at h
   ·injection h with h; subst h; exact .inr (.inr rfl)
   ·split at h
    ·injection h with h; subst h; exact .inl rfl
    ·cases h
  ·injection h with h; subst h; exact .inr (.inl rfl)
 ·split at h
  ·cases h
  ·split at h
   ·injection h with h; subst h; exact .inl rfl
   ·split at h
    ·injection h with h; subst h; exact .inr (.inr rfl)
    ·cases h
end Go.G
