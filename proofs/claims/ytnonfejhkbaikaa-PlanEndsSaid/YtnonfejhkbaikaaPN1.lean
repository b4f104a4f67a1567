/- Words shared: functions told at once, bytes compared with numbers, pieces of texts. -/
import Derived.Test.YtnonfejhkbaikaaPN0
import Derived.Test.YtnonfejhkbaikaaPAbStep
import Derived.Test.YtnonfejhkbaikaaPKE
import Derived.Lib.IndexLaws
namespace Go.G
open Go.Ab Go.Proofs Go.RowKit
set_option linter.unusedVariables false
set_option linter.unusedSimpArgs false
theorem IL {f : FuncId} {g : Array Value → Store → Option (Value × Store)} {args : Array Value} {M M' : Store} {v : Value} {Q : Value → Store → Prop} (h : Ex f = some g) (hg : g args M = some (v, M')) (hQ : Q v M') : R f args M Q := by
 refine ⟨1, v, M', ?_, hQ⟩
 rw [aB]
 simp only [h]
 exact hg
theorem cQ {c d : UInt8} {n : Int} (h : (d.toNat : Int) = n) (K : Value → Prop) : OP (ad .eql (bv c) (.int .u8 n)) K = K (.bool (decide (c = d))) := by
 subst h
 show OP (ad .eql (.int .u8 (c.toNat : Int)) (.int .u8 (d.toNat : Int))) K = _
 rw [de]
 congr 2
 rw [decide_eq_decide]
 exact ⟨fun e => UInt8.toNat_inj.1 (by omega), fun e => by rw [e]⟩
theorem sW {c d : UInt8} {n : Int} (h : (d.toNat : Int) = n) (K : Value → Prop) : OP (ad .neq (bv c) (.int .u8 n)) K = K (.bool (decide (c ≠ d))) := by
 subst h
 show OP (ad .neq (.int .u8 (c.toNat : Int)) (.int .u8 (d.toNat : Int))) K = _
 rw [iC]
 congr 2
 rw [decide_eq_decide]
 exact ⟨fun e => fun h => e (by rw [h]), fun e => fun h => e (UInt8.toNat_inj.1 (by omega))⟩
theorem Fq {c d : UInt8} {n : Int} (h : (d.toNat : Int) = n) (K : Value → Prop) : OP (ad .geq (bv c) (.int .u8 n)) K = K (.bool (decide (d ≤ c))) := by
 subst h
 show OP (ad .geq (.int .u8 (c.toNat : Int)) (.int .u8 (d.toNat : Int))) K = _
 rw [tG]
 congr 2
 rw [decide_eq_decide, UInt8.le_iff_toNat_le]; omega
theorem sU {c d : UInt8} {n : Int} (h : (d.toNat : Int) = n) (K : Value → Prop) : OP (ad .gtr (bv c) (.int .u8 n)) K = K (.bool (decide (d < c))) := by
 subst h
 show OP (ad .gtr (.int .u8 (c.toNat : Int)) (.int .u8 (d.toNat : Int))) K = _
 rw [tH]
 congr 2
 rw [decide_eq_decide, UInt8.lt_iff_toNat_lt]; omega
theorem Fr {c d : UInt8} {n : Int} (h : (d.toNat : Int) = n) (K : Value → Prop) : OP (ad .leq (bv c) (.int .u8 n)) K = K (.bool (decide (c ≤ d))) := by
 subst h
 show OP (ad .leq (.int .u8 (c.toNat : Int)) (.int .u8 (d.toNat : Int))) K = _
 rw [D1]
 congr 2
 rw [decide_eq_decide, UInt8.le_iff_toNat_le]; omega
theorem sV {c d : UInt8} {n : Int} (h : (d.toNat : Int) = n) (K : Value → Prop) : OP (ad .lss (bv c) (.int .u8 n)) K = K (.bool (decide (c < d))) := by
 subst h
 show OP (ad .lss (.int .u8 (c.toNat : Int)) (.int .u8 (d.toNat : Int))) K = _
 rw [aR]
 congr 2
 rw [decide_eq_decide, UInt8.lt_iff_toNat_lt]; omega
theorem ki (l : List UInt8) (i : Nat) (h : i < l.length) (K : Value → Prop) : OP (ixS (sv l) (iv (i : Int))) K = K (bv l[i]) := by
 show OP (ixS (.string ⟨l.toArray⟩) (.int .i64 (i : Int))) K = _
 rw [JP h, ab]
theorem Fp (c : UInt8) (l : List UInt8) (K : Value → Prop) : OP (ixS (sv (c :: l)) (iv 0)) K = K (bv c) := ki (c :: l) 0 (by simp) K
theorem i3 {y d n : Nat} (h : n ≤ y) (k : IntKind) : av (some (.int k (n : Int))) y d = some n := by
 simp only [av]; rw [if_pos (by omega)]; simp
theorem HF {y d : Nat} : av none y d = some d := rfl
theorem eH (l : List UInt8) (K : Value → Prop) : OP (iF (sv l)) K = K (iv (l.length : Int)) := rfl
theorem jr (l k : List UInt8) (K : Value → Prop) : OP (aq .eql (sv l) (sv k)) K = K (.bool (decide (l = k))) := Iy l k K
theorem Ey (l k : List UInt8) (K : Value → Prop) : OP (aq .neq (sv l) (sv k)) K = K (.bool (decide (l ≠ k))) := by
 have h : aq .neq (.string ⟨l.toArray⟩) (.string ⟨k.toArray⟩) = some (.bool (!(l == k))) := rfl
 show OP (aq .neq (.string ⟨l.toArray⟩) (.string ⟨k.toArray⟩)) K = _
 rw [h, ab]
 congr 2
 by_cases e : l = k <;> simp [e]
theorem bK (l k : List UInt8) (h : l.length + k.length ≤ 2 ^ 40) (K : Value → Prop) : OP (aq .add (sv l) (sv k)) K = K (sv (l ++ k)) := by
 have hs : (⟨l.toArray⟩ : ByteArray).size + (⟨k.toArray⟩ : ByteArray).size ≤ 2 ^ 40 := h
 have e : aq .add (.string ⟨l.toArray⟩) (.string ⟨k.toArray⟩) = some (.string (⟨l.toArray⟩ ++ ⟨k.toArray⟩)) := by
  simp only [aq]; rw [if_pos hs]
 show OP (aq .add (.string ⟨l.toArray⟩) (.string ⟨k.toArray⟩)) K = _
 rw [e, ab]
 congr 2
theorem Ko (n : Nat) (h : n < 2 ^ 63) : IntKind.wrap .i64 (n : Int) = (n : Int) := w64 (by omega) (by omega)
theorem wU (a b : Nat) (h : a + b < 2 ^ 63) (K : Value → Prop) : OP (ad .add (iv (a : Int)) (iv (b : Int))) K = K (iv ((a + b : Nat) : Int)) := by
 show OP (ad .add (.int .i64 (a : Int)) (.int .i64 (b : Int))) K = _
 rw [ey, w64 (by omega) (by omega)]; rfl
theorem ag (a : Nat) (h : a + 1 < 2 ^ 63) (K : Value → Prop) : OP (ad .add (iv (a : Int)) (iv 1)) K = K (iv ((a + 1 : Nat) : Int)) := wU a 1 h K
theorem xl (a b : Nat) (h : b ≤ a) (ha : a < 2 ^ 63) (K : Value → Prop) : OP (ad .sub (iv (a : Int)) (iv (b : Int))) K = K (iv ((a - b : Nat) : Int)) := by
 show OP (ad .sub (.int .i64 (a : Int)) (.int .i64 (b : Int))) K = _
 rw [pQ, w64 (by omega) (by omega)]
 have : (a : Int) - (b : Int) = ((a - b : Nat) : Int) := by omega
 rw [this]
theorem ai (a b : Nat) (K : Value → Prop) : OP (ad .lss (iv (a : Int)) (iv (b : Int))) K = K (.bool (decide (a < b))) := by
 show OP (ad .lss (.int .i64 (a : Int)) (.int .i64 (b : Int))) K = _
 rw [aR]; congr 2; rw [decide_eq_decide]; omega
theorem zr (a b : Nat) (K : Value → Prop) : OP (ad .eql (iv (a : Int)) (iv (b : Int))) K = K (.bool (decide (a = b))) := by
 show OP (ad .eql (.int .i64 (a : Int)) (.int .i64 (b : Int))) K = _
 rw [de]; congr 2; rw [decide_eq_decide]; omega
theorem JV (a b : Nat) (K : Value → Prop) : OP (ad .neq (iv (a : Int)) (iv (b : Int))) K = K (.bool (decide (a ≠ b))) := by
 show OP (ad .neq (.int .i64 (a : Int)) (.int .i64 (b : Int))) K = _
 rw [iC]; congr 2; rw [decide_eq_decide]; omega
theorem D4 (a b : Nat) (K : Value → Prop) : OP (ad .gtr (iv (a : Int)) (iv (b : Int))) K = K (.bool (decide (b < a))) := by
 show OP (ad .gtr (.int .i64 (a : Int)) (.int .i64 (b : Int))) K = _
 rw [tH]; congr 2; rw [decide_eq_decide]; omega
theorem gm (a b : Nat) (K : Value → Prop) : OP (ad .geq (iv (a : Int)) (iv (b : Int))) K = K (.bool (decide (b ≤ a))) := by
 show OP (ad .geq (.int .i64 (a : Int)) (.int .i64 (b : Int))) K = _
 rw [tG]; congr 2; rw [decide_eq_decide]; omega
theorem kp (a b : Nat) (K : Value → Prop) : OP (ad .leq (iv (a : Int)) (iv (b : Int))) K = K (.bool (decide (a ≤ b))) := by
 show OP (ad .leq (.int .i64 (a : Int)) (.int .i64 (b : Int))) K = _
 rw [D1]; congr 2; rw [decide_eq_decide]; omega
theorem bR {a : Nat} (b : Int) (n : Nat) (h : (n : Int) = b) (K : Value → Prop) : OP (ad .eql (iv (a : Int)) (.int .i64 b)) K = K (.bool (decide (a = n))) := by subst h; exact zr a n K
theorem p5 {a : Nat} (b : Int) (n : Nat) (h : (n : Int) = b) (K : Value → Prop) : OP (ad .neq (iv (a : Int)) (.int .i64 b)) K = K (.bool (decide (a ≠ n))) := by subst h; exact JV a n K
theorem eA {a : Nat} (b : Int) (n : Nat) (h : (n : Int) = b) (K : Value → Prop) : OP (ad .lss (iv (a : Int)) (.int .i64 b)) K = K (.bool (decide (a < n))) := by subst h; exact ai a n K
theorem tJ {a : Nat} (b : Int) (n : Nat) (h : (n : Int) = b) (K : Value → Prop) : OP (ad .gtr (iv (a : Int)) (.int .i64 b)) K = K (.bool (decide (n < a))) := by subst h; exact D4 a n K
theorem tI {a : Nat} (b : Int) (n : Nat) (h : (n : Int) = b) (K : Value → Prop) : OP (ad .geq (iv (a : Int)) (.int .i64 b)) K = K (.bool (decide (n ≤ a))) := by subst h; exact gm a n K
theorem D7 {a : Nat} (b : Int) (n : Nat) (h : (n : Int) = b) (K : Value → Prop) : OP (ad .leq (iv (a : Int)) (.int .i64 b)) K = K (.bool (decide (a ≤ n))) := by subst h; exact kp a n K
theorem J4 {a : Nat} (b : Int) (n : Nat) (h : (n : Int) = b) (h1 : n ≤ a) (h2 : a < 2 ^ 63) (K : Value → Prop) : OP (ad .sub (iv (a : Int)) (.int .i64 b)) K = K (iv ((a - n : Nat) : Int)) := by subst h; exact xl a n h1 h2 K
theorem gh {M : Store} {v : Value} {l : List UInt8} {i : Nat} (h : B M v l) (hi : i < l.length) (K : Value → Prop) : (OP (ixA 1 v (iv (i : Int))) fun p => OP (ld 1 false p M) K) = K (bv l[i]) := by
 obtain ⟨p, e1, e2⟩ := By.at h hi .i64
 show (OP (ixA 1 v (.int .i64 (i : Int))) fun p => OP (ld 1 false p M) K) = _
 rw [e1, ab, e2, ab]
theorem f8 {M : Store} {v : Value} {l : List UInt8} (h : B M v l) (K : Value → Prop) : OP (lenV v) K = K (iv (l.length : Int)) := by rw [h.lenV, ab]
theorem AV {M : Store} {v : Value} {l : List UInt8} (h : B M v l) {a r : Nat} (h1 : a ≤ r) (h2 : r ≤ l.length) (K : Value → Prop) : (OP (slV 1 Ty.o v (some (iv (a : Int))) (some (iv (r : Int))) M) fun t => OP (pN t M) K) = K (sv ((l.take r).drop a)) := by
 obtain ⟨w, e1, e2⟩ := By.cut h (lo := some (.int .i64 (a : Int))) (hi := some (.int .i64 (r : Int))) (a := a) (r := r) (i3 h2 .i64) (i3 h1 .i64) h2 h1
 show (OP (slV 1 Ty.o v (some (.int .i64 (a : Int))) (some (.int .i64 (r : Int))) M) fun t => OP (pN t M) K) = _
 rw [e1, ab, HS e2, ab]
theorem nT (p : Prop) [Decidable p] (A B C : Prop) : BR3 (.bool (decide p)) A B C = if p then A else B := by
 by_cases h : p
 ·rw [decide_eq_true h, if_pos h]; rfl
 ·rw [decide_eq_false h, if_neg h]; rfl
theorem tp4 (a b c d : Value) : (∀ K : Value → Prop, OP (tup (.tuple #[a, b, c, d]) 0) K = K a) ∧ (∀ K : Value → Prop, OP (tup (.tuple #[a, b, c, d]) 1) K = K b) ∧ (∀ K : Value → Prop, OP (tup (.tuple #[a, b, c, d]) 2) K = K c) ∧ (∀ K : Value → Prop, OP (tup (.tuple #[a, b, c, d]) 3) K = K d) :=
 ⟨fun _ => rfl, fun _ => rfl, fun _ => rfl, fun _ => rfl⟩
theorem Fm (z : Value) (a : Option Addr) (n c : Nat) (K : List Value → Prop) : OP (an z 1 1 [(0, .slice a n c)]) K = K [.slice a n c] := by kernel_rfl
end Go.G
