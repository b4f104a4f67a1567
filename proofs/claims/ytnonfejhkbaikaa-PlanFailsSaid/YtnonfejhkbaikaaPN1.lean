/- Words shared: functions told at once, bytes compared with numbers, pieces of texts. -/
import Derived.Test.YtnonfejhkbaikaaPN0
import Derived.Test.YtnonfejhkbaikaaPAbStep
import Derived.Test.YtnonfejhkbaikaaPKE
import Derived.Lib.IndexLaws
namespace Go.G
open Go.Ab Go.Proofs Go.RowKit
set_option linter.unusedVariables false
set_option linter.unusedSimpArgs false
theorem Il {f : FuncId} {g : Array Value → Store → Option (Value × Store)} {args : Array Value} {M M' : Store} {v : Value} {Q : Value → Store → Prop} (h : Ex f = some g) (hg : g args M = some (v, M')) (hQ : Q v M') : R f args M Q := by
 refine ⟨1, v, M', ?_, hQ⟩
 rw [az]
 simp only [h]
 exact hg
theorem cU {c d : UInt8} {n : Int} (h : (d.toNat : Int) = n) (K : Value → Prop) : OP (ad .eql (bv c) (.int .u8 n)) K = K (.bool (decide (c = d))) := by
 subst h
 show OP (ad .eql (.int .u8 (c.toNat : Int)) (.int .u8 (d.toNat : Int))) K = _
 rw [dN]
 congr 2
 rw [decide_eq_decide]
 exact ⟨fun e => UInt8.toNat_inj.1 (by omega), fun e => by rw [e]⟩
theorem sz {c d : UInt8} {n : Int} (h : (d.toNat : Int) = n) (K : Value → Prop) : OP (ad .neq (bv c) (.int .u8 n)) K = K (.bool (decide (c ≠ d))) := by
 subst h
 show OP (ad .neq (.int .u8 (c.toNat : Int)) (.int .u8 (d.toNat : Int))) K = _
 rw [pz]
 congr 2
 rw [decide_eq_decide]
 exact ⟨fun e => fun h => e (by rw [h]), fun e => fun h => e (UInt8.toNat_inj.1 (by omega))⟩
theorem EW {c d : UInt8} {n : Int} (h : (d.toNat : Int) = n) (K : Value → Prop) : OP (ad .geq (bv c) (.int .u8 n)) K = K (.bool (decide (d ≤ c))) := by
 subst h
 show OP (ad .geq (.int .u8 (c.toNat : Int)) (.int .u8 (d.toNat : Int))) K = _
 rw [ta]
 congr 2
 rw [decide_eq_decide, UInt8.le_iff_toNat_le]; omega
theorem sw {c d : UInt8} {n : Int} (h : (d.toNat : Int) = n) (K : Value → Prop) : OP (ad .gtr (bv c) (.int .u8 n)) K = K (.bool (decide (d < c))) := by
 subst h
 show OP (ad .gtr (.int .u8 (c.toNat : Int)) (.int .u8 (d.toNat : Int))) K = _
 rw [tc]
 congr 2
 rw [decide_eq_decide, UInt8.lt_iff_toNat_lt]; omega
theorem EX {c d : UInt8} {n : Int} (h : (d.toNat : Int) = n) (K : Value → Prop) : OP (ad .leq (bv c) (.int .u8 n)) K = K (.bool (decide (c ≤ d))) := by
 subst h
 show OP (ad .leq (.int .u8 (c.toNat : Int)) (.int .u8 (d.toNat : Int))) K = _
 rw [Dx]
 congr 2
 rw [decide_eq_decide, UInt8.le_iff_toNat_le]; omega
theorem sy {c d : UInt8} {n : Int} (h : (d.toNat : Int) = n) (K : Value → Prop) : OP (ad .lss (bv c) (.int .u8 n)) K = K (.bool (decide (c < d))) := by
 subst h
 show OP (ad .lss (.int .u8 (c.toNat : Int)) (.int .u8 (d.toNat : Int))) K = _
 rw [aQ]
 congr 2
 rw [decide_eq_decide, UInt8.lt_iff_toNat_lt]; omega
theorem kF (l : List UInt8) (i : Nat) (h : i < l.length) (K : Value → Prop) : OP (ixS (sv l) (iv (i : Int))) K = K (bv l[i]) := by
 show OP (ixS (.string ⟨l.toArray⟩) (.int .i64 (i : Int))) K = _
 rw [Jr h, ab]
theorem EV (c : UInt8) (l : List UInt8) (K : Value → Prop) : OP (ixS (sv (c :: l)) (iv 0)) K = K (bv c) := kF (c :: l) 0 (by simp) K
theorem i6 {y d n : Nat} (h : n ≤ y) (k : IntKind) : ar (some (.int k (n : Int))) y d = some n := by
 simp only [ar]; rw [if_pos (by omega)]; simp
theorem He {y d : Nat} : ar none y d = some d := rfl
theorem eK (l : List UInt8) (K : Value → Prop) : OP (iH (sv l)) K = K (iv (l.length : Int)) := rfl
theorem jz (l k : List UInt8) (K : Value → Prop) : OP (ao .eql (sv l) (sv k)) K = K (.bool (decide (l = k))) := H8 l k K
theorem D3 (l k : List UInt8) (K : Value → Prop) : OP (ao .neq (sv l) (sv k)) K = K (.bool (decide (l ≠ k))) := by
 have h : ao .neq (.string ⟨l.toArray⟩) (.string ⟨k.toArray⟩) = some (.bool (!(l == k))) := rfl
 show OP (ao .neq (.string ⟨l.toArray⟩) (.string ⟨k.toArray⟩)) K = _
 rw [h, ab]
 congr 2
 by_cases e : l = k <;> simp [e]
theorem bJ (l k : List UInt8) (h : l.length + k.length ≤ 2 ^ 40) (K : Value → Prop) : OP (ao .add (sv l) (sv k)) K = K (sv (l ++ k)) := by
 have hs : (⟨l.toArray⟩ : ByteArray).size + (⟨k.toArray⟩ : ByteArray).size ≤ 2 ^ 40 := h
 have e : ao .add (.string ⟨l.toArray⟩) (.string ⟨k.toArray⟩) = some (.string (⟨l.toArray⟩ ++ ⟨k.toArray⟩)) := by
  simp only [ao]; rw [if_pos hs]
 show OP (ao .add (.string ⟨l.toArray⟩) (.string ⟨k.toArray⟩)) K = _
 rw [e, ab]
 congr 2
theorem J2 (n : Nat) (h : n < 2 ^ 63) : IntKind.wrap .i64 (n : Int) = (n : Int) := w64 (by omega) (by omega)
theorem wq (a b : Nat) (h : a + b < 2 ^ 63) (K : Value → Prop) : OP (ad .add (iv (a : Int)) (iv (b : Int))) K = K (iv ((a + b : Nat) : Int)) := by
 show OP (ad .add (.int .i64 (a : Int)) (.int .i64 (b : Int))) K = _
 rw [eB, w64 (by omega) (by omega)]; rfl
theorem ah (a : Nat) (h : a + 1 < 2 ^ 63) (K : Value → Prop) : OP (ad .add (iv (a : Int)) (iv 1)) K = K (iv ((a + 1 : Nat) : Int)) := wq a 1 h K
theorem wO (a b : Nat) (h : b ≤ a) (ha : a < 2 ^ 63) (K : Value → Prop) : OP (ad .sub (iv (a : Int)) (iv (b : Int))) K = K (iv ((a - b : Nat) : Int)) := by
 show OP (ad .sub (.int .i64 (a : Int)) (.int .i64 (b : Int))) K = _
 rw [pA, w64 (by omega) (by omega)]
 have : (a : Int) - (b : Int) = ((a - b : Nat) : Int) := by omega
 rw [this]
theorem ag (a b : Nat) (K : Value → Prop) : OP (ad .lss (iv (a : Int)) (iv (b : Int))) K = K (.bool (decide (a < b))) := by
 show OP (ad .lss (.int .i64 (a : Int)) (.int .i64 (b : Int))) K = _
 rw [aQ]; congr 2; rw [decide_eq_decide]; omega
theorem wB (a b : Nat) (K : Value → Prop) : OP (ad .eql (iv (a : Int)) (iv (b : Int))) K = K (.bool (decide (a = b))) := by
 show OP (ad .eql (.int .i64 (a : Int)) (.int .i64 (b : Int))) K = _
 rw [dN]; congr 2; rw [decide_eq_decide]; omega
theorem Jx (a b : Nat) (K : Value → Prop) : OP (ad .neq (iv (a : Int)) (iv (b : Int))) K = K (.bool (decide (a ≠ b))) := by
 show OP (ad .neq (.int .i64 (a : Int)) (.int .i64 (b : Int))) K = _
 rw [pz]; congr 2; rw [decide_eq_decide]; omega
theorem DB (a b : Nat) (K : Value → Prop) : OP (ad .gtr (iv (a : Int)) (iv (b : Int))) K = K (.bool (decide (b < a))) := by
 show OP (ad .gtr (.int .i64 (a : Int)) (.int .i64 (b : Int))) K = _
 rw [tc]; congr 2; rw [decide_eq_decide]; omega
theorem gD (a b : Nat) (K : Value → Prop) : OP (ad .geq (iv (a : Int)) (iv (b : Int))) K = K (.bool (decide (b ≤ a))) := by
 show OP (ad .geq (.int .i64 (a : Int)) (.int .i64 (b : Int))) K = _
 rw [ta]; congr 2; rw [decide_eq_decide]; omega
theorem kL (a b : Nat) (K : Value → Prop) : OP (ad .leq (iv (a : Int)) (iv (b : Int))) K = K (.bool (decide (a ≤ b))) := by
 show OP (ad .leq (.int .i64 (a : Int)) (.int .i64 (b : Int))) K = _
 rw [Dx]; congr 2; rw [decide_eq_decide]; omega
theorem bZ {a : Nat} (b : Int) (n : Nat) (h : (n : Int) = b) (K : Value → Prop) : OP (ad .eql (iv (a : Int)) (.int .i64 b)) K = K (.bool (decide (a = n))) := by subst h; exact wB a n K
theorem pJ {a : Nat} (b : Int) (n : Nat) (h : (n : Int) = b) (K : Value → Prop) : OP (ad .neq (iv (a : Int)) (.int .i64 b)) K = K (.bool (decide (a ≠ n))) := by subst h; exact Jx a n K
theorem eD {a : Nat} (b : Int) (n : Nat) (h : (n : Int) = b) (K : Value → Prop) : OP (ad .lss (iv (a : Int)) (.int .i64 b)) K = K (.bool (decide (a < n))) := by subst h; exact ag a n K
theorem wF {a : Nat} (b : Int) (n : Nat) (h : (n : Int) = b) (K : Value → Prop) : OP (ad .gtr (iv (a : Int)) (.int .i64 b)) K = K (.bool (decide (n < a))) := by subst h; exact DB a n K
theorem wD {a : Nat} (b : Int) (n : Nat) (h : (n : Int) = b) (K : Value → Prop) : OP (ad .geq (iv (a : Int)) (.int .i64 b)) K = K (.bool (decide (n ≤ a))) := by subst h; exact gD a n K
theorem DE {a : Nat} (b : Int) (n : Nat) (h : (n : Int) = b) (K : Value → Prop) : OP (ad .leq (iv (a : Int)) (.int .i64 b)) K = K (.bool (decide (a ≤ n))) := by subst h; exact kL a n K
theorem JH {a : Nat} (b : Int) (n : Nat) (h : (n : Int) = b) (h1 : n ≤ a) (h2 : a < 2 ^ 63) (K : Value → Prop) : OP (ad .sub (iv (a : Int)) (.int .i64 b)) K = K (iv ((a - n : Nat) : Int)) := by subst h; exact wO a n h1 h2 K
theorem gB {M : Store} {v : Value} {l : List UInt8} {i : Nat} (h : B M v l) (hi : i < l.length) (K : Value → Prop) : (OP (ixA 1 v (iv (i : Int))) fun p => OP (ld 1 false p M) K) = K (bv l[i]) := by
 obtain ⟨p, e1, e2⟩ := By.at h hi .i64
 show (OP (ixA 1 v (.int .i64 (i : Int))) fun p => OP (ld 1 false p M) K) = _
 rw [e1, ab, e2, ab]
theorem gq {M : Store} {v : Value} {l : List UInt8} (h : B M v l) (K : Value → Prop) : OP (lenV v) K = K (iv (l.length : Int)) := by rw [h.lenV, ab]
theorem Aw {M : Store} {v : Value} {l : List UInt8} (h : B M v l) {a r : Nat} (h1 : a ≤ r) (h2 : r ≤ l.length) (K : Value → Prop) : (OP (slV 1 Ty.o v (some (iv (a : Int))) (some (iv (r : Int))) M) fun t => OP (pw t M) K) = K (sv ((l.take r).drop a)) := by
 obtain ⟨w, e1, e2⟩ := By.cut h (lo := some (.int .i64 (a : Int))) (hi := some (.int .i64 (r : Int))) (a := a) (r := r) (i6 h2 .i64) (i6 h1 .i64) h2 h1
 show (OP (slV 1 Ty.o v (some (.int .i64 (a : Int))) (some (.int .i64 (r : Int))) M) fun t => OP (pw t M) K) = _
 rw [e1, ab, Hr e2, ab]
theorem nY (p : Prop) [Decidable p] (A B C : Prop) : BR3 (.bool (decide p)) A B C = if p then A else B := by
 by_cases h : p
 ·rw [decide_eq_true h, if_pos h]; rfl
 ·rw [decide_eq_false h, if_neg h]; rfl
theorem tp4 (a b c d : Value) : (∀ K : Value → Prop, OP (tup (.tuple #[a, b, c, d]) 0) K = K a) ∧ (∀ K : Value → Prop, OP (tup (.tuple #[a, b, c, d]) 1) K = K b) ∧ (∀ K : Value → Prop, OP (tup (.tuple #[a, b, c, d]) 2) K = K c) ∧ (∀ K : Value → Prop, OP (tup (.tuple #[a, b, c, d]) 3) K = K d) :=
 ⟨fun _ => rfl, fun _ => rfl, fun _ => rfl, fun _ => rfl⟩
theorem ET (z : Value) (a : Option Addr) (n c : Nat) (K : List Value → Prop) : OP (al z 1 1 [(0, .slice a n c)]) K = K [.slice a n c] := by kernel_rfl
end Go.G
