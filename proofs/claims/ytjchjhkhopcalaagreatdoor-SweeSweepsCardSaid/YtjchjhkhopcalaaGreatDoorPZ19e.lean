/- Layer 19: what is swept, plainly. -/
import Derived.Test.YtjchjhkhopcalaaGreatDoorPZ19d
namespace Go.G
open Go.Ab Go.Proofs Go.RowKit
set_option linter.unusedVariables false
set_option linter.unusedSimpArgs false
set_option maxRecDepth 100000
theorem od (a b : List UInt8) (h1 : a ≤ b) (h2 : b ≤ a) : a = b := List.le_antisymm h1 h2
theorem qk {K K' : List (List UInt8)} (hK : K.Nodup) (hK' : K'.Nodup) {p : List UInt8 → Bool} (hm : ∀ x, x ∈ K' ↔ x ∈ K ∧ p x = true) : bS K' = (bS K).filter p := by
 refine List.Perm.eq_of_pairwise (le := fun a b => a ≤ b) (fun a b _ _ h1 h2 => od a b h1 h2) (iL K') ((iL K).filter p) ?_
 refine (aG K').trans (List.Perm.trans ?_ ((aG K).filter p).symm)
 refine (List.perm_ext_iff_of_nodup hK' (hK.filter p)).2 fun x => ?_
 rw [hm, List.mem_filter]
theorem gB {K K' : List (List UInt8)} (hK : K.Nodup) (hK' : K'.Nodup) {p : List UInt8 → Bool} (hm : ∀ x, x ∈ K' ↔ x ∈ K ∧ p x = true) (d : List UInt8) : lsK K' d = (lsK K d).filter p := by
 unfold lsK
 rw [qk hK hK' hm, List.filter_filter, List.filter_filter]
 congr 1
 funext x
 exact Bool.and_comm _ _
theorem tw {K : List (List UInt8)} (h : K.Nodup) : (bS K).Nodup := (aG K).nodup_iff.2 h
theorem sD {K : List (List UInt8)} (h : K.Nodup) (d : List UInt8) : (lsK K d).Nodup := (tw h).filter _
theorem ls {K : List (List UInt8)} {d x : List UInt8} : x ∈ lsK K d ↔ x ∈ K ∧ inD d x = true := by
 unfold lsK
 rw [List.mem_filter, (aG K).mem_iff]
theorem iS {s : List UInt8} : ∀ {l : List (List UInt8)}, l.Nodup → l.length ≤ (l.filter fun x => decide (x ≠ s)).length + 1
 | [], _ => Nat.zero_le _
 | x :: l, h => by
  obtain ⟨h1, h2⟩ := List.nodup_cons.1 h
  by_cases e : x = s
  ·rw [List.filter_cons_of_neg (by simp [e])]
   have : (l.filter fun y => decide (y ≠ s)) = l := by
    rw [List.filter_eq_self]
    intro y hy
    exact decide_eq_true fun e' => h1 (by rw [e, ← e']; exact hy)
   rw [this]; simp
  ·rw [List.filter_cons_of_pos (by simp [e]), List.length_cons, List.length_cons]
   have := iS (s := s) h2
   omega
theorem rM {K : List (List UInt8)} (hK : K.Nodup) (s d : List UInt8) : lsK (K.erase s) d = (lsK K d).filter fun x => decide (x ≠ s) :=
 gB hK (hK.erase s) (fun x => by rw [hK.mem_erase_iff]; simp [and_comm]) d
theorem oe {K : List (List UInt8)} (hK : K.Nodup) (s d : List UInt8) : (lsK (K.erase s) d).length ≤ (lsK K d).length ∧ (lsK K d).length ≤ (lsK (K.erase s) d).length + 1 := by
 rw [rM hK]
 exact ⟨List.length_filter_le _ _, iS (sD hK d)⟩
def fc : List UInt8 := [99, 108, 97, 105, 109]
theorem rN {who inc : Int} {s : List UInt8} (h : an who inc s = true) : ∃ t, s = 116 :: 109 :: 112 :: 47 :: t := by
 unfold an ofF at h
 by_cases ht : s.take 4 = bt
 ·refine ⟨s.drop 4, ?_⟩
  have := (List.take_append_drop 4 s).symm
  rw [ht] at this
  exact this
 ·rw [if_neg ht] at h; cases h
theorem mJ {who inc : Int} {s : List UInt8} (h : an who inc s = true) : inD [] s = false ∧ inD fc s = false ∧ inD aI s = true := by
 obtain ⟨t, rfl⟩ := rN h
 refine ⟨?_, ?_, ?_⟩
 ·unfold inD
  rw [if_pos rfl]
  have : Lib.indexByte (116 :: 109 :: 112 :: 47 :: t) 47 = 3 := by simp [Lib.indexByte]
  rw [this]; rfl
 ·unfold inD fc
  rw [if_neg (by decide)]
  simp
 ·unfold inD aI
  rw [if_neg (by decide)]
  simp
structure Gone (K : List (List UInt8)) (who inc : Int) (K' : List (List UInt8)) : Prop where
 nd : K'.Nodup
 m : ∀ x, x ∈ K' ↔ x ∈ K ∧ x ∉ am K who inc
theorem Gone.lists {K K' : List (List UInt8)} {who inc : Int} (hK : K.Nodup) (h : Gone K who inc K') : lsK K' aI = (lsK K aI).filter (fun s => !an who inc s) ∧ lsK K' [] = lsK K [] ∧ lsK K' fc = lsK K fc := by
 have hm : ∀ x, x ∈ K' ↔ x ∈ K ∧ (fun x => decide (x ∉ am K who inc)) x = true := fun x => by rw [h.m]; simp
 have key : ∀ x, x ∈ am K who inc ↔ x ∈ lsK K aI ∧ an who inc x = true := fun x => by unfold am; rw [List.mem_filter]
 refine ⟨?_, ?_, ?_⟩
 ·rw [gB hK h.nd hm]
  refine List.filter_congr fun x hx => ?_
  cases hq : an who inc x with
  | true =>
   have h1 := (key x).2 ⟨hx, hq⟩
   simp [h1]
  | false =>
   have h1 : x ∉ am K who inc := fun hx' => by have := ((key x).1 hx').2; rw [hq] at this; cases this
   simp [h1]
 ·rw [gB hK h.nd hm, List.filter_eq_self]
  intro x hx
  refine decide_eq_true fun hx' => ?_
  have h1 := (mJ ((key x).1 hx').2).1
  rw [(ls.1 hx).2] at h1; cases h1
 ·rw [gB hK h.nd hm, List.filter_eq_self]
  intro x hx
  refine decide_eq_true fun hx' => ?_
  have h1 := (mJ ((key x).1 hx').2).2.1
  rw [(ls.1 hx).2] at h1; cases h1
def dg (n : Nat) : List UInt8 := [UInt8.ofNat (48 + n)]
theorem pR {n : Nat} (h : n < 10) : Lib.decDigits n = dg n := by rw [Lib.decDigits, dif_pos h]; rfl
def dH (a b c : Nat) : List UInt8 := dg a ++ (46 :: (dg b ++ (46 :: dg c)))
def pY : Nat → List UInt8
 | 0 => [116, 109, 112, 47, 120]
 | 1 => [99, 108, 97, 105, 109, 47]
 | 2 => []
 | _ => bt
def nmZ (a b c k : Nat) : List UInt8 := pY k ++ dH a b c
def okZ (s : List UInt8) : Prop := eG s = true ∧ s.length ≤ 30
theorem ug {a b c k : Nat} (ha : a ≤ 3) (hb : b ≤ 7) (hc : c ≤ 7) (hk : k ≤ 7) : okZ (nmZ a b c k) := by
 have key : ((List.range 4).all fun a => (List.range 8).all fun b => (List.range 8).all fun c => (List.range 8).all fun k => eG (nmZ a b c k) && decide ((nmZ a b c k).length ≤ 30)) = true := by kernel_rfl
 have h1 := List.all_eq_true.1 key a (List.mem_range.2 (by omega))
 have h2 := List.all_eq_true.1 h1 b (List.mem_range.2 (by omega))
 have h3 := List.all_eq_true.1 h2 c (List.mem_range.2 (by omega))
 have h4 := List.all_eq_true.1 h3 k (List.mem_range.2 (by omega))
 rw [Bool.and_eq_true, decide_eq_true_eq] at h4
 exact h4
theorem ut {a b c : Nat} (ha : a ≤ 3) (hb : b ≤ 7) (hc : c ≤ 7) : cZ (a : Int) (b : Int) (c : Int) = bt ++ dH a b c := by
 unfold cZ
 rw [dW (by omega), dW (by omega), dW (by omega)]
 unfold lS dH
 rw [pR (by omega), pR (by omega), pR (by omega)]
end Go.G
