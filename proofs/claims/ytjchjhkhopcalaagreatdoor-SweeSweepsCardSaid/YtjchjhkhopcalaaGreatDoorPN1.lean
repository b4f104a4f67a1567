/- Words shared: functions told at once, bytes compared with numbers, pieces of texts. -/
import Derived.Test.YtjchjhkhopcalaaGreatDoorPN0
import Derived.Test.YtjchjhkhopcalaaGreatDoorPAbStep
import Derived.Test.YtjchjhkhopcalaaGreatDoorPKE
import Derived.Lib.IndexLaws
namespace Go.G
open Go.Ab Go.Proofs Go.RowKit
set_option linter.unusedVariables false
set_option linter.unusedSimpArgs false
theorem gV {f : FuncId} {g : Array Value → Store → Option (Value × Store)} {args : Array Value} {M M' : Store} {v : Value} {Q : Value → Store → Prop} (h : Ex f = some g) (hg : g args M = some (v, M')) (hQ : Q v M') : R f args M Q := by
 refine ⟨1, v, M', ?_, hQ⟩
 rw [aq]
 simp only [h]
 exact hg
theorem jp {c d : UInt8} {n : Int} (h : (d.toNat : Int) = n) (K : Value → Prop) : OP (ab .eql (bv c) (.int .u8 n)) K = K (.bool (decide (c = d))) := by
 subst h
 show OP (ab .eql (.int .u8 (c.toNat : Int)) (.int .u8 (d.toNat : Int))) K = _
 rw [dG]
 congr 2
 rw [decide_eq_decide]
 exact ⟨fun e => UInt8.toNat_inj.1 (by omega), fun e => by rw [e]⟩
theorem tM {c d : UInt8} {n : Int} (h : (d.toNat : Int) = n) (K : Value → Prop) : OP (ab .geq (bv c) (.int .u8 n)) K = K (.bool (decide (d ≤ c))) := by
 subst h
 show OP (ab .geq (.int .u8 (c.toNat : Int)) (.int .u8 (d.toNat : Int))) K = _
 rw [iA]
 congr 2
 rw [decide_eq_decide, UInt8.le_iff_toNat_le]; omega
theorem tN {c d : UInt8} {n : Int} (h : (d.toNat : Int) = n) (K : Value → Prop) : OP (ab .gtr (bv c) (.int .u8 n)) K = K (.bool (decide (d < c))) := by
 subst h
 show OP (ab .gtr (.int .u8 (c.toNat : Int)) (.int .u8 (d.toNat : Int))) K = _
 rw [pU]
 congr 2
 rw [decide_eq_decide, UInt8.lt_iff_toNat_lt]; omega
theorem tO {c d : UInt8} {n : Int} (h : (d.toNat : Int) = n) (K : Value → Prop) : OP (ab .leq (bv c) (.int .u8 n)) K = K (.bool (decide (c ≤ d))) := by
 subst h
 show OP (ab .leq (.int .u8 (c.toNat : Int)) (.int .u8 (d.toNat : Int))) K = _
 rw [pV]
 congr 2
 rw [decide_eq_decide, UInt8.le_iff_toNat_le]; omega
theorem tP {c d : UInt8} {n : Int} (h : (d.toNat : Int) = n) (K : Value → Prop) : OP (ab .lss (bv c) (.int .u8 n)) K = K (.bool (decide (c < d))) := by
 subst h
 show OP (ab .lss (.int .u8 (c.toNat : Int)) (.int .u8 (d.toNat : Int))) K = _
 rw [fB]
 congr 2
 rw [decide_eq_decide, UInt8.lt_iff_toNat_lt]; omega
theorem jI (l : List UInt8) (i : Nat) (h : i < l.length) (K : Value → Prop) : OP (ixS (sv l) (iv (i : Int))) K = K (bv l[i]) := by
 show OP (ixS (.string ⟨l.toArray⟩) (.int .i64 (i : Int))) K = _
 rw [uF h, ae]
theorem k8 (c : UInt8) (l : List UInt8) (K : Value → Prop) : OP (ixS (sv (c :: l)) (iv 0)) K = K (bv c) := jI (c :: l) 0 (by simp) K
theorem oq {l : List UInt8} {lo hi : Option Value} {a r : Nat} (hhi : ax hi l.length l.length = some r) (hlo : ax lo r 0 = some a) : slS (sv l) lo hi = some (sv ((l.take r).drop a)) := by
 simp only [slS]
 have hs : (⟨l.toArray⟩ : ByteArray).size = l.length := rfl
 rw [hs, hhi, Option.bind_some, hlo, Option.bind_some]
 congr 2
 apply ByteArray.ext
 simp [ByteArray.data_extract]
 rw [List.drop_take]
theorem fI {y d n : Nat} (h : n ≤ y) (k : IntKind) : ax (some (.int k (n : Int))) y d = some n := by
 simp only [ax]; rw [if_pos (by omega)]; simp
theorem lL {y d : Nat} : ax none y d = some d := rfl
theorem fN {l : List UInt8} {n : Nat} (h : n ≤ l.length) (K : Value → Prop) : OP (slS (sv l) (some (iv (n : Int))) none) K = K (sv (l.drop n)) := by
 rw [oq (a := n) (r := l.length) lL (fI h .i64), ae, List.take_length]
theorem lC {l : List UInt8} {n : Nat} (h : n ≤ l.length) (K : Value → Prop) : OP (slS (sv l) none (some (iv (n : Int)))) K = K (sv (l.take n)) := by
 rw [oq (a := 0) (r := n) (fI h .i64) lL, ae, List.drop_zero]
theorem un {l : List UInt8} {a r : Nat} (h : a ≤ r) (h2 : r ≤ l.length) (K : Value → Prop) : OP (slS (sv l) (some (iv (a : Int))) (some (iv (r : Int)))) K = K (sv ((l.take r).drop a)) := by
 rw [oq (a := a) (r := r) (fI h2 .i64) (fI h .i64), ae]
theorem aY (l : List UInt8) (K : Value → Prop) : OP (bG (sv l)) K = K (iv (l.length : Int)) := rfl
theorem fE (l k : List UInt8) (K : Value → Prop) : OP (al .eql (sv l) (sv k)) K = K (.bool (decide (l = k))) := tz l k K
theorem jP (l k : List UInt8) (K : Value → Prop) : OP (al .neq (sv l) (sv k)) K = K (.bool (decide (l ≠ k))) := by
 have h : al .neq (.string ⟨l.toArray⟩) (.string ⟨k.toArray⟩) = some (.bool (!(l == k))) := rfl
 show OP (al .neq (.string ⟨l.toArray⟩) (.string ⟨k.toArray⟩)) K = _
 rw [h, ae]
 congr 2
 by_cases e : l = k <;> simp [e]
theorem bT (l k : List UInt8) (h : l.length + k.length ≤ 2 ^ 40) (K : Value → Prop) : OP (al .add (sv l) (sv k)) K = K (sv (l ++ k)) := by
 have hs : (⟨l.toArray⟩ : ByteArray).size + (⟨k.toArray⟩ : ByteArray).size ≤ 2 ^ 40 := h
 have e : al .add (.string ⟨l.toArray⟩) (.string ⟨k.toArray⟩) = some (.string (⟨l.toArray⟩ ++ ⟨k.toArray⟩)) := by
  simp only [al]; rw [if_pos hs]
 show OP (al .add (.string ⟨l.toArray⟩) (.string ⟨k.toArray⟩)) K = _
 rw [e, ae]
 congr 2
theorem gl (a b : Nat) (h : a + b < 2 ^ 63) (K : Value → Prop) : OP (ab .add (iv (a : Int)) (iv (b : Int))) K = K (iv ((a + b : Nat) : Int)) := by
 show OP (ab .add (.int .i64 (a : Int)) (.int .i64 (b : Int))) K = _
 rw [sn, w64 (by omega) (by omega)]; rfl
theorem aP (a : Nat) (h : a + 1 < 2 ^ 63) (K : Value → Prop) : OP (ab .add (iv (a : Int)) (iv 1)) K = K (iv ((a + 1 : Nat) : Int)) := gl a 1 h K
theorem jO (a b : Nat) (h : b ≤ a) (ha : a < 2 ^ 63) (K : Value → Prop) : OP (ab .sub (iv (a : Int)) (iv (b : Int))) K = K (iv ((a - b : Nat) : Int)) := by
 show OP (ab .sub (.int .i64 (a : Int)) (.int .i64 (b : Int))) K = _
 rw [lf, w64 (by omega) (by omega)]
 have : (a : Int) - (b : Int) = ((a - b : Nat) : Int) := by omega
 rw [this]
theorem bm (a b : Nat) (K : Value → Prop) : OP (ab .lss (iv (a : Int)) (iv (b : Int))) K = K (.bool (decide (a < b))) := by
 show OP (ab .lss (.int .i64 (a : Int)) (.int .i64 (b : Int))) K = _
 rw [fB]; congr 2; rw [decide_eq_decide]; omega
theorem uI (a b : Nat) (K : Value → Prop) : OP (ab .eql (iv (a : Int)) (iv (b : Int))) K = K (.bool (decide (a = b))) := by
 show OP (ab .eql (.int .i64 (a : Int)) (.int .i64 (b : Int))) K = _
 rw [dG]; congr 2; rw [decide_eq_decide]; omega
theorem sF (a b : Nat) (K : Value → Prop) : OP (ab .neq (iv (a : Int)) (iv (b : Int))) K = K (.bool (decide (a ≠ b))) := by
 show OP (ab .neq (.int .i64 (a : Int)) (.int .i64 (b : Int))) K = _
 rw [sy]; congr 2; rw [decide_eq_decide]; omega
theorem lm (a b : Nat) (K : Value → Prop) : OP (ab .gtr (iv (a : Int)) (iv (b : Int))) K = K (.bool (decide (b < a))) := by
 show OP (ab .gtr (.int .i64 (a : Int)) (.int .i64 (b : Int))) K = _
 rw [pU]; congr 2; rw [decide_eq_decide]; omega
theorem m9 (a b : Nat) (K : Value → Prop) : OP (ab .geq (iv (a : Int)) (iv (b : Int))) K = K (.bool (decide (b ≤ a))) := by
 show OP (ab .geq (.int .i64 (a : Int)) (.int .i64 (b : Int))) K = _
 rw [iA]; congr 2; rw [decide_eq_decide]; omega
theorem lr (a b : Nat) (K : Value → Prop) : OP (ab .leq (iv (a : Int)) (iv (b : Int))) K = K (.bool (decide (a ≤ b))) := by
 show OP (ab .leq (.int .i64 (a : Int)) (.int .i64 (b : Int))) K = _
 rw [pV]; congr 2; rw [decide_eq_decide]; omega
theorem pX {a : Nat} (b : Int) (n : Nat) (h : (n : Int) = b) (K : Value → Prop) : OP (ab .eql (iv (a : Int)) (.int .i64 b)) K = K (.bool (decide (a = n))) := by subst h; exact uI a n K
theorem sE {a : Nat} (b : Int) (n : Nat) (h : (n : Int) = b) (K : Value → Prop) : OP (ab .neq (iv (a : Int)) (.int .i64 b)) K = K (.bool (decide (a ≠ n))) := by subst h; exact sF a n K
theorem lu {a : Nat} (b : Int) (n : Nat) (h : (n : Int) = b) (K : Value → Prop) : OP (ab .lss (iv (a : Int)) (.int .i64 b)) K = K (.bool (decide (a < n))) := by subst h; exact bm a n K
theorem sC {a : Nat} (b : Int) (n : Nat) (h : (n : Int) = b) (K : Value → Prop) : OP (ab .gtr (iv (a : Int)) (.int .i64 b)) K = K (.bool (decide (n < a))) := by subst h; exact lm a n K
theorem uJ {a : Nat} (b : Int) (n : Nat) (h : (n : Int) = b) (K : Value → Prop) : OP (ab .geq (iv (a : Int)) (.int .i64 b)) K = K (.bool (decide (n ≤ a))) := by subst h; exact m9 a n K
theorem uK {a : Nat} (b : Int) (n : Nat) (h : (n : Int) = b) (K : Value → Prop) : OP (ab .leq (iv (a : Int)) (.int .i64 b)) K = K (.bool (decide (a ≤ n))) := by subst h; exact lr a n K
theorem sM {a : Nat} (b : Int) (n : Nat) (h : (n : Int) = b) (h1 : n ≤ a) (h2 : a < 2 ^ 63) (K : Value → Prop) : OP (ab .sub (iv (a : Int)) (.int .i64 b)) K = K (iv ((a - n : Nat) : Int)) := by subst h; exact jO a n h1 h2 K
theorem tQ {M : Store} {v : Value} {l : List UInt8} (h : B M v l) (K : Value → Prop) : OP (lenV v) K = K (iv (l.length : Int)) := by rw [h.lenV, ae]
theorem sO (p : Prop) [Decidable p] (A B C : Prop) : BR3 (.bool (decide p)) A B C = if p then A else B := by
 by_cases h : p
 ·rw [decide_eq_true h, if_pos h]; rfl
 ·rw [decide_eq_false h, if_neg h]; rfl
theorem rH {l : List UInt8} {c : UInt8} (h : ∀ d ∈ l, d ≠ c) : Lib.indexByte l c = -1 := by
 induction l with
 | nil => rfl
 | cons d l ih =>
  unfold Lib.indexByte
  have : (d == c) = false := by simpa using h d (by simp)
  rw [this, ih fun e he => h e (by simp [he])]; rfl
theorem qU (s r : List UInt8) (c : UInt8) (h : ∀ d ∈ s, d ≠ c) : Lib.indexByte (s ++ c :: r) c = (s.length : Int) := by
 induction s with
 | nil => simp [Lib.indexByte]
 | cons d s ih =>
  rw [List.cons_append]
  unfold Lib.indexByte
  have : (d == c) = false := by simpa using h d (by simp)
  rw [this, ih fun e he => h e (by simp [he])]
  have : ((s.length : Int) == -1) = false := by simp
  simp only [this, List.length_cons]
  simp
theorem sj (c : UInt8) (K : List Value → Prop) : OP (bd (.int .u8 0) 1 1 [(0, bv c)]) K = K [bv c] := qN _ _ _ K
theorem sk (c : UInt8) : ((c.toNat : Int).toNat.toUInt8) = c := by simp
theorem tg (l : List UInt8) (c : UInt8) (M : Store) : l4 #[sv l, bv c] M = some (iv (Lib.indexByte l c), M) := by
 show some (Value.int .i64 (Lib.indexByte l ((c.toNat : Int).toNat.toUInt8)), M) = _
 rw [sk]
theorem s5 (l : List UInt8) (c : UInt8) (M : Store) : lQ #[sv l, bv c] M = some (iv (l.count c : Nat), M) := by
 show some (Value.int .i64 (Lib.countByte l ((c.toNat : Int).toNat.toUInt8) : Nat), M) = _
 rw [sk]; rfl
end Go.G
