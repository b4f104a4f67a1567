/- Words that all texts share: calls, bytes, texts, numbers cut. -/
import Derived.Test.YtnonfejhkbaikaaPGN
import Derived.Test.YtnonfejhkbaikaaPKE
namespace Go.G
open Go.Ab Go.Proofs Go.RowKit
set_option linter.unusedVariables false
set_option linter.unusedSimpArgs false
abbrev B (M : Store) (v : Value) (l : List UInt8) : Prop := By Ty.o M v l
abbrev N (M0 M : Store) (v : Value) (l : List UInt8) : Prop := NB Ty.o M0 M v l
theorem R.mono {f : FuncId} {args : Array Value} {M : Store} {Q Q' : Value → Store → Prop} (h : R f args M Q) (k : ∀ v M', Q v M' → Q' v M') : R f args M Q' := Runs.mono h k
theorem eI {s e M v n cs} (h : Sl s e M v n cs) : NTs [v] := by obtain ⟨a, c, rfl⟩ := h.slice; rfl
theorem R.cps {f : FuncId} {args : Array Value} {M : Store} {S : Value → Store → Prop} (h : ∀ Q : Value → Store → Prop, (∀ v M', S v M' → Q v M') → R f args M Q) : R f args M S := h S fun _ _ h => h
theorem ud : ∀ l : List UInt8, bP (l.map bv) = some l
 | [] => rfl
 | x :: l => by
  show bP (.int .u8 (x.toNat : Int) :: l.map bv) = _
  rw [bP, ud l]
  simp
theorem Hr {M : Store} {v : Value} {l : List UInt8} (h : B M v l) : pw v M = some (.string ⟨l.toArray⟩) := by
 obtain ⟨h1, a, c, rfl, h3, h4⟩ := h
 by_cases hn : l.length = 0
 ·have : l = [] := List.length_eq_zero_iff.1 hn
  subst this
  cases a with
  | none => rfl
  | some x => obtain ⟨b, o, sp⟩ := x; have := h3 _ rfl; simp only at this; subst this; rfl
 ·obtain ⟨b, o, cells, e', own, rfl, h6, h7, h8, h9⟩ := h4 (by omega)
  simp only [pw, if_neg hn]
  rw [jS h6 (by simpa using h8)]
  rw [Nat.mul_one] at h9
  rw [h9, Option.bind_some, ud]; rfl
theorem H8 (l k : List UInt8) (K : Value → Prop) : OP (ao .eql (.string ⟨l.toArray⟩) (.string ⟨k.toArray⟩)) K = K (.bool (decide (l = k))) := by
 have h : ao .eql (.string ⟨l.toArray⟩) (.string ⟨k.toArray⟩) = some (.bool (l == k)) := rfl
 rw [h, ab]
 congr 2
 by_cases e : l = k <;> simp [e]
theorem Jr {l : List UInt8} {i : Nat} (hi : i < l.length) : ixS (.string ⟨l.toArray⟩) (.int .i64 (i : Int)) = some (bv l[i]) := by
 simp only [ixS]
 rw [if_pos (by omega)]
 have h1 : (i : Int).toNat < (⟨l.toArray⟩ : ByteArray).size := hi
 have : (⟨l.toArray⟩ : ByteArray)[(i : Int).toNat]? = some l[i] := by
  rw [getElem?_pos (⟨l.toArray⟩ : ByteArray) (i : Int).toNat h1]; rfl
 rw [this]; rfl
theorem Hs {M : Store} {l : List UInt8} (hl : l.length ≤ 2 ^ 30) {K : Value → Store → Prop} (hK : ∀ v M', Up M M' → N M M' v l → K v M') : OP2 (xq Ty.o (.string ⟨l.toArray⟩) M) K := by
 have e : xq Ty.o (.string ⟨l.toArray⟩) M = some (.slice (some ⟨M.n, 0, none⟩) l.length (l.length + 1), M.push (some (.inl (l.map bv, Ty.o, true)))) := by
  have h : xq Ty.o (.string ⟨l.toArray⟩) M = if 2 ^ 40 < l.length then none else some (.slice (some ⟨M.n, 0, none⟩) l.length (l.length + 1), M.push (some (.inl (l.map bv, Ty.o, true)))) := rfl
  rw [h, if_neg (by omega)]
 rw [e, ey]
 exact hK _ _ (Up.push M _) (Nw.lit1 (n := l.length) (Nat.le_refl _) (by simp))
theorem Jt (a b : Nat) (hb : 0 < b) : ad .rem (.int .i64 (a : Int)) (.int .i64 (b : Int)) = some (.int .i64 ((a % b : Nat) : Int)) := by
 have h : ad .rem (.int .i64 (a : Int)) (.int .i64 (b : Int)) = if (b : Int) = 0 then none else some (.int .i64 ((a : Int).tmod b)) := rfl
 rw [h, if_neg (by omega), Int.tmod_eq_emod_of_nonneg (by omega)]; rfl
def aW (n : Int) (m : Nat) : Nat := (BitVec.ofInt 64 n &&& BitVec.ofInt 64 (m : Int)).toNat
theorem sZ (n : Int) (m : Nat) (hm : m < 2 ^ 62) : aW n m ≤ m := by
 unfold aW
 rw [BitVec.toNat_and]
 have : (BitVec.ofInt 64 (m : Int)).toNat = m := by rw [BitVec.toNat_ofInt]; omega
 rw [this]
 exact Nat.and_le_right
theorem AB (n : Int) (m : Nat) (hm : m < 2 ^ 62) : ad .and (.int .i64 n) (.int .i64 (m : Int)) = some (.int .i64 (aW n m : Int)) := by
 have h : ad .and (.int .i64 n) (.int .i64 (m : Int)) = some (.int .i64 (IntKind.wrap .i64 (BitVec.ofInt 64 n &&& BitVec.ofInt 64 m).toNat)) := rfl
 have hk := sZ n m hm
 rw [h]
 unfold aW at *
 rw [w64 (by omega) (by omega)]
def bK (n : Int) (k : Nat) : Int := n.fdiv (2 ^ k)
theorem IF (n : Int) (k : Nat) (hk : k ≤ 64) (K : Value → Prop) : OP (ad .shr (.int .i64 n) (.int .u64 (k : Int))) K = K (.int .i64 (bK n k)) := by
 rw [Ju (by omega)]
 have : min (k : Int).toNat (IntKind.bits .i64) = k := by simp [IntKind.bits]; omega
 rw [this]; rfl
end Go.G
