/- Words shared: functions told at once, bytes compared with numbers, pieces of texts. -/
import Derived.Test.YtnonfejhkbaikaaPN0
import Derived.Test.YtnonfejhkbaikaaPAbStep
import Derived.Test.YtnonfejhkbaikaaPKE
import Derived.Lib.IndexLaws
namespace Go.G
open Go.Ab Go.Proofs Go.RowKit
set_option linter.unusedVariables false
set_option linter.unusedSimpArgs false
theorem bv_eqI {c d : UInt8} {n : Int} (h : (d.toNat : Int) = n) (K : Value → Prop) : OP (binI .eql (bv c) (.int .u8 n)) K = K (.bool (decide (c = d))) := by
  subst h
  show OP (binI .eql (.int .u8 (c.toNat : Int)) (.int .u8 (d.toNat : Int))) K = _
  rw [e_eql]
  congr 2
  rw [decide_eq_decide]
  exact ⟨fun e => UInt8.toNat_inj.1 (by omega), fun e => by rw [e]⟩
theorem bv_neI {c d : UInt8} {n : Int} (h : (d.toNat : Int) = n) (K : Value → Prop) : OP (binI .neq (bv c) (.int .u8 n)) K = K (.bool (decide (c ≠ d))) := by
  subst h
  show OP (binI .neq (.int .u8 (c.toNat : Int)) (.int .u8 (d.toNat : Int))) K = _
  rw [e_neq]
  congr 2
  rw [decide_eq_decide]
  exact ⟨fun e => fun h => e (by rw [h]), fun e => fun h => e (UInt8.toNat_inj.1 (by omega))⟩
theorem bv_geI {c d : UInt8} {n : Int} (h : (d.toNat : Int) = n) (K : Value → Prop) : OP (binI .geq (bv c) (.int .u8 n)) K = K (.bool (decide (d ≤ c))) := by
  subst h
  show OP (binI .geq (.int .u8 (c.toNat : Int)) (.int .u8 (d.toNat : Int))) K = _
  rw [e_geq]
  congr 2
  rw [decide_eq_decide, UInt8.le_iff_toNat_le]; omega
theorem bv_gtI {c d : UInt8} {n : Int} (h : (d.toNat : Int) = n) (K : Value → Prop) : OP (binI .gtr (bv c) (.int .u8 n)) K = K (.bool (decide (d < c))) := by
  subst h
  show OP (binI .gtr (.int .u8 (c.toNat : Int)) (.int .u8 (d.toNat : Int))) K = _
  rw [e_gtr]
  congr 2
  rw [decide_eq_decide, UInt8.lt_iff_toNat_lt]; omega
theorem bv_leI {c d : UInt8} {n : Int} (h : (d.toNat : Int) = n) (K : Value → Prop) : OP (binI .leq (bv c) (.int .u8 n)) K = K (.bool (decide (c ≤ d))) := by
  subst h
  show OP (binI .leq (.int .u8 (c.toNat : Int)) (.int .u8 (d.toNat : Int))) K = _
  rw [e_leq]
  congr 2
  rw [decide_eq_decide, UInt8.le_iff_toNat_le]; omega
theorem bv_ltI {c d : UInt8} {n : Int} (h : (d.toNat : Int) = n) (K : Value → Prop) : OP (binI .lss (bv c) (.int .u8 n)) K = K (.bool (decide (c < d))) := by
  subst h
  show OP (binI .lss (.int .u8 (c.toNat : Int)) (.int .u8 (d.toNat : Int))) K = _
  rw [e_lss]
  congr 2
  rw [decide_eq_decide, UInt8.lt_iff_toNat_lt]; omega
theorem bv_at (l : List UInt8) (i : Nat) (h : i < l.length) (K : Value → Prop) : OP (ixS (sv l) (iv (i : Int))) K = K (bv l[i]) := by
  show OP (ixS (.string ⟨l.toArray⟩) (.int .i64 (i : Int))) K = _
  rw [e_ixS h, OP_some]
theorem bv_at0 (c : UInt8) (l : List UInt8) (K : Value → Prop) : OP (ixS (sv (c :: l)) (iv 0)) K = K (bv c) := bv_at (c :: l) 0 (by simp) K
theorem ab_some {y d n : Nat} (h : n ≤ y) (k : IntKind) : abound (some (.int k (n : Int))) y d = some n := by
  simp only [abound]; rw [if_pos (by omega)]; simp
theorem ab_none {y d : Nat} : abound none y d = some d := rfl
theorem sv_len (l : List UInt8) (K : Value → Prop) : OP (lenS (sv l)) K = K (iv (l.length : Int)) := rfl
theorem sv_eq (l k : List UInt8) (K : Value → Prop) : OP (binS .eql (sv l) (sv k)) K = K (.bool (decide (l = k))) := str_eql l k K
theorem sv_ne (l k : List UInt8) (K : Value → Prop) : OP (binS .neq (sv l) (sv k)) K = K (.bool (decide (l ≠ k))) := by
  have h : binS .neq (.string ⟨l.toArray⟩) (.string ⟨k.toArray⟩) = some (.bool (!(l == k))) := rfl
  show OP (binS .neq (.string ⟨l.toArray⟩) (.string ⟨k.toArray⟩)) K = _
  rw [h, OP_some]
  congr 2
  by_cases e : l = k <;> simp [e]
theorem sv_add (l k : List UInt8) (h : l.length + k.length ≤ 2 ^ 40) (K : Value → Prop) : OP (binS .add (sv l) (sv k)) K = K (sv (l ++ k)) := by
  have hs : (⟨l.toArray⟩ : ByteArray).size + (⟨k.toArray⟩ : ByteArray).size ≤ 2 ^ 40 := h
  have e : binS .add (.string ⟨l.toArray⟩) (.string ⟨k.toArray⟩) = some (.string (⟨l.toArray⟩ ++ ⟨k.toArray⟩)) := by
    simp only [binS]; rw [if_pos hs]
  show OP (binS .add (.string ⟨l.toArray⟩) (.string ⟨k.toArray⟩)) K = _
  rw [e, OP_some]
  congr 2
theorem w64n (n : Nat) (h : n < 2 ^ 63) : IntKind.wrap .i64 (n : Int) = (n : Int) := w64 (by omega) (by omega)
theorem add_n (a b : Nat) (h : a + b < 2 ^ 63) (K : Value → Prop) : OP (binI .add (iv (a : Int)) (iv (b : Int))) K = K (iv ((a + b : Nat) : Int)) := by
  show OP (binI .add (.int .i64 (a : Int)) (.int .i64 (b : Int))) K = _
  rw [e_add, w64 (by omega) (by omega)]; rfl
theorem add1_n (a : Nat) (h : a + 1 < 2 ^ 63) (K : Value → Prop) : OP (binI .add (iv (a : Int)) (iv 1)) K = K (iv ((a + 1 : Nat) : Int)) := add_n a 1 h K
theorem sub_n (a b : Nat) (h : b ≤ a) (ha : a < 2 ^ 63) (K : Value → Prop) : OP (binI .sub (iv (a : Int)) (iv (b : Int))) K = K (iv ((a - b : Nat) : Int)) := by
  show OP (binI .sub (.int .i64 (a : Int)) (.int .i64 (b : Int))) K = _
  rw [e_sub, w64 (by omega) (by omega)]
  have : (a : Int) - (b : Int) = ((a - b : Nat) : Int) := by omega
  rw [this]
theorem lss_n (a b : Nat) (K : Value → Prop) : OP (binI .lss (iv (a : Int)) (iv (b : Int))) K = K (.bool (decide (a < b))) := by
  show OP (binI .lss (.int .i64 (a : Int)) (.int .i64 (b : Int))) K = _
  rw [e_lss]; congr 2; rw [decide_eq_decide]; omega
theorem eql_n (a b : Nat) (K : Value → Prop) : OP (binI .eql (iv (a : Int)) (iv (b : Int))) K = K (.bool (decide (a = b))) := by
  show OP (binI .eql (.int .i64 (a : Int)) (.int .i64 (b : Int))) K = _
  rw [e_eql]; congr 2; rw [decide_eq_decide]; omega
theorem neq_n (a b : Nat) (K : Value → Prop) : OP (binI .neq (iv (a : Int)) (iv (b : Int))) K = K (.bool (decide (a ≠ b))) := by
  show OP (binI .neq (.int .i64 (a : Int)) (.int .i64 (b : Int))) K = _
  rw [e_neq]; congr 2; rw [decide_eq_decide]; omega
theorem gtr_n (a b : Nat) (K : Value → Prop) : OP (binI .gtr (iv (a : Int)) (iv (b : Int))) K = K (.bool (decide (b < a))) := by
  show OP (binI .gtr (.int .i64 (a : Int)) (.int .i64 (b : Int))) K = _
  rw [e_gtr]; congr 2; rw [decide_eq_decide]; omega
theorem geq_n (a b : Nat) (K : Value → Prop) : OP (binI .geq (iv (a : Int)) (iv (b : Int))) K = K (.bool (decide (b ≤ a))) := by
  show OP (binI .geq (.int .i64 (a : Int)) (.int .i64 (b : Int))) K = _
  rw [e_geq]; congr 2; rw [decide_eq_decide]; omega
theorem leq_n (a b : Nat) (K : Value → Prop) : OP (binI .leq (iv (a : Int)) (iv (b : Int))) K = K (.bool (decide (a ≤ b))) := by
  show OP (binI .leq (.int .i64 (a : Int)) (.int .i64 (b : Int))) K = _
  rw [e_leq]; congr 2; rw [decide_eq_decide]; omega
theorem eql_l {a : Nat} (b : Int) (n : Nat) (h : (n : Int) = b) (K : Value → Prop) : OP (binI .eql (iv (a : Int)) (.int .i64 b)) K = K (.bool (decide (a = n))) := by subst h; exact eql_n a n K
theorem neq_l {a : Nat} (b : Int) (n : Nat) (h : (n : Int) = b) (K : Value → Prop) : OP (binI .neq (iv (a : Int)) (.int .i64 b)) K = K (.bool (decide (a ≠ n))) := by subst h; exact neq_n a n K
theorem lss_l {a : Nat} (b : Int) (n : Nat) (h : (n : Int) = b) (K : Value → Prop) : OP (binI .lss (iv (a : Int)) (.int .i64 b)) K = K (.bool (decide (a < n))) := by subst h; exact lss_n a n K
theorem gtr_l {a : Nat} (b : Int) (n : Nat) (h : (n : Int) = b) (K : Value → Prop) : OP (binI .gtr (iv (a : Int)) (.int .i64 b)) K = K (.bool (decide (n < a))) := by subst h; exact gtr_n a n K
theorem geq_l {a : Nat} (b : Int) (n : Nat) (h : (n : Int) = b) (K : Value → Prop) : OP (binI .geq (iv (a : Int)) (.int .i64 b)) K = K (.bool (decide (n ≤ a))) := by subst h; exact geq_n a n K
theorem leq_l {a : Nat} (b : Int) (n : Nat) (h : (n : Int) = b) (K : Value → Prop) : OP (binI .leq (iv (a : Int)) (.int .i64 b)) K = K (.bool (decide (a ≤ n))) := by subst h; exact leq_n a n K
theorem sub_l {a : Nat} (b : Int) (n : Nat) (h : (n : Int) = b) (h1 : n ≤ a) (h2 : a < 2 ^ 63) (K : Value → Prop) : OP (binI .sub (iv (a : Int)) (.int .i64 b)) K = K (iv ((a - n : Nat) : Int)) := by subst h; exact sub_n a n h1 h2 K
theorem by_ld {M : Store} {v : Value} {l : List UInt8} {i : Nat} (h : B M v l) (hi : i < l.length) (K : Value → Prop) : (OP (ixA 1 v (iv (i : Int))) fun p => OP (ld 1 false p M) K) = K (bv l[i]) := by
  obtain ⟨p, e1, e2⟩ := By.at h hi .i64
  show (OP (ixA 1 v (.int .i64 (i : Int))) fun p => OP (ld 1 false p M) K) = _
  rw [e1, OP_some, e2, OP_some]
theorem by_len {M : Store} {v : Value} {l : List UInt8} (h : B M v l) (K : Value → Prop) : OP (lenV v) K = K (iv (l.length : Int)) := by rw [h.lenV, OP_some]
theorem by_str {M : Store} {v : Value} {l : List UInt8} (h : B M v l) {a r : Nat} (h1 : a ≤ r) (h2 : r ≤ l.length) (K : Value → Prop) : (OP (slV 1 Ty.uint8 v (some (iv (a : Int))) (some (iv (r : Int))) M) fun t => OP (cvBS t M) K) = K (sv ((l.take r).drop a)) := by
  obtain ⟨w, e1, e2⟩ := By.cut h (lo := some (.int .i64 (a : Int))) (hi := some (.int .i64 (r : Int))) (a := a) (r := r) (ab_some h2 .i64) (ab_some h1 .i64) h2 h1
  show (OP (slV 1 Ty.uint8 v (some (.int .i64 (a : Int))) (some (.int .i64 (r : Int))) M) fun t => OP (cvBS t M) K) = _
  rw [e1, OP_some, cvBS_ok e2, OP_some]
theorem BR3_dec (p : Prop) [Decidable p] (A B C : Prop) : BR3 (.bool (decide p)) A B C = if p then A else B := by
  by_cases h : p
  · rw [decide_eq_true h, if_pos h]; rfl
  · rw [decide_eq_false h, if_neg h]; rfl
theorem tp4 (a b c d : Value) : (∀ K : Value → Prop, OP (tup (.tuple #[a, b, c, d]) 0) K = K a) ∧ (∀ K : Value → Prop, OP (tup (.tuple #[a, b, c, d]) 1) K = K b) ∧ (∀ K : Value → Prop, OP (tup (.tuple #[a, b, c, d]) 2) K = K c) ∧ (∀ K : Value → Prop, OP (tup (.tuple #[a, b, c, d]) 3) K = K d) :=
  ⟨fun _ => rfl, fun _ => rfl, fun _ => rfl, fun _ => rfl⟩
theorem bl_sl1 (z : Value) (a : Option Addr) (n c : Nat) (K : List Value → Prop) : OP (bldL z 1 1 [(0, .slice a n c)]) K = K [.slice a n c] := by kernel_rfl
end Go.G
