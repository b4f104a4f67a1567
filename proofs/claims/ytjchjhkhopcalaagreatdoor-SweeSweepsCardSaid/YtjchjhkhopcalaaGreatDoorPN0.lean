/- Words that all texts share: calls, bytes, texts, numbers cut. -/
import Derived.Test.YtjchjhkhopcalaaGreatDoorPGN
import Derived.Test.YtjchjhkhopcalaaGreatDoorPKE
namespace Go.G
open Go.Ab Go.Proofs Go.RowKit
set_option linter.unusedVariables false
set_option linter.unusedSimpArgs false
abbrev B (M : Store) (v : Value) (l : List UInt8) : Prop := By Ty.d M v l
abbrev N (M0 M : Store) (v : Value) (l : List UInt8) : Prop := NB Ty.d M0 M v l
theorem R.mono {f : FuncId} {args : Array Value} {M : Store} {Q Q' : Value → Store → Prop} (h : R f args M Q) (k : ∀ v M', Q v M' → Q' v M') : R f args M Q' := Runs.mono h k
theorem qX {s e M v n cs} (h : Sl s e M v n cs) : NTs [v] := by obtain ⟨a, c, rfl⟩ := h.slice; rfl
theorem tB (n : Nat) : IntKind.wrap .u8 (n : Int) = ((UInt8.ofNat n).toNat : Int) := by
 simp [IntKind.wrap, IntKind.bits, IntKind.signed]
theorem R.cps {f : FuncId} {args : Array Value} {M : Store} {S : Value → Store → Prop} (h : ∀ Q : Value → Store → Prop, (∀ v M', S v M' → Q v M') → R f args M Q) : R f args M S := h S fun _ _ h => h
theorem j5 : ∀ l : List UInt8, bk (l.map bv) = some l
 | [] => rfl
 | x :: l => by
  show bk (.int .u8 (x.toNat : Int) :: l.map bv) = _
  rw [bk, j5 l]
  simp
theorem s7 {M : Store} {v : Value} {l : List UInt8} (h : B M v l) : nO v M = some (.string ⟨l.toArray⟩) := by
 obtain ⟨h1, a, c, rfl, h3, h4⟩ := h
 by_cases hn : l.length = 0
 ·have : l = [] := List.length_eq_zero_iff.1 hn
  subst this
  cases a with
  | none => rfl
  | some x => obtain ⟨b, o, sp⟩ := x; have := h3 _ rfl; simp only at this; subst this; rfl
 ·obtain ⟨b, o, cells, e', own, rfl, h6, h7, h8, h9⟩ := h4 (by omega)
  simp only [nO, if_neg hn]
  rw [ia h6 (by simpa using h8)]
  rw [Nat.mul_one] at h9
  rw [h9, Option.bind_some, j5]; rfl
theorem tz (l k : List UInt8) (K : Value → Prop) : OP (al .eql (.string ⟨l.toArray⟩) (.string ⟨k.toArray⟩)) K = K (.bool (decide (l = k))) := by
 have h : al .eql (.string ⟨l.toArray⟩) (.string ⟨k.toArray⟩) = some (.bool (l == k)) := rfl
 rw [h, ae]
 congr 2
 by_cases e : l = k <;> simp [e]
theorem uF {l : List UInt8} {i : Nat} (hi : i < l.length) : ixS (.string ⟨l.toArray⟩) (.int .i64 (i : Int)) = some (bv l[i]) := by
 simp only [ixS]
 rw [if_pos (by omega)]
 have h1 : (i : Int).toNat < (⟨l.toArray⟩ : ByteArray).size := hi
 have : (⟨l.toArray⟩ : ByteArray)[(i : Int).toNat]? = some l[i] := by
  rw [getElem?_pos (⟨l.toArray⟩ : ByteArray) (i : Int).toNat h1]; rfl
 rw [this]; rfl
theorem uG (a b : Nat) (hb : 0 < b) : ab .rem (.int .i64 (a : Int)) (.int .i64 (b : Int)) = some (.int .i64 ((a % b : Nat) : Int)) := by
 have h : ab .rem (.int .i64 (a : Int)) (.int .i64 (b : Int)) = if (b : Int) = 0 then none else some (.int .i64 ((a : Int).tmod b)) := rfl
 rw [h, if_neg (by omega), Int.tmod_eq_emod_of_nonneg (by omega)]; rfl
def jh (n : Int) (m : Nat) : Nat := (BitVec.ofInt 64 n &&& BitVec.ofInt 64 (m : Int)).toNat
theorem g8 (n : Int) (m : Nat) (hm : m < 2 ^ 62) : jh n m ≤ m := by
 unfold jh
 rw [BitVec.toNat_and]
 have : (BitVec.ofInt 64 (m : Int)).toNat = m := by rw [BitVec.toNat_ofInt]; omega
 rw [this]
 exact Nat.and_le_right
theorem hC (n : Int) (m : Nat) (hm : m < 2 ^ 62) : ab .and (.int .i64 n) (.int .i64 (m : Int)) = some (.int .i64 (jh n m : Int)) := by
 have h : ab .and (.int .i64 n) (.int .i64 (m : Int)) = some (.int .i64 (IntKind.wrap .i64 (BitVec.ofInt 64 n &&& BitVec.ofInt 64 m).toNat)) := rfl
 have hk := g8 n m hm
 rw [h]
 unfold jh at *
 rw [w64 (by omega) (by omega)]
def gU (n : Int) (k : Nat) : Int := n.fdiv (2 ^ k)
theorem nT (n : Int) (k : Nat) (hk : k ≤ 64) (K : Value → Prop) : OP (ab .shr (.int .i64 n) (.int .u64 (k : Int))) K = K (.int .i64 (gU n k)) := by
 rw [uH (by omega)]
 have : min (k : Int).toNat (IntKind.bits .i64) = k := by simp [IntKind.bits]; omega
 rw [this]; rfl
end Go.G
