/- NameForms: its run for each row of its table. -/
import Derived.Test.YtoklcjgggokcgaaDoorPAW
import Derived.Test.YtoklcjgggokcgaaDoorPTB
import Derived.Test.YtoklcjgggokcgaaDoorPKE
namespace Go.G
open Go.Ab Go.Proofs Go.RowKit
set_option linter.unusedVariables false
set_option maxRecDepth 100000

namespace nameForms
def E2 : Ext := fun f => match EC f with
  | some g => some g
  | none => Ex f
theorem E2_ok : ∀ f g, E2 f = some g → CallOk1 Tryd.prog f g ∨ ExtOk1 Tryd.prog f g := by
  intro f g h
  unfold E2 at h
  split at h
  · rename_i g1 h1; injection h with h; subst h; exact EC_ok _ _ h1
  · exact Ex_ok f g h
theorem and255 (n : Int) : ∃ r : Nat, r < 256 ∧ IntKind.wrap .i64 (((BitVec.ofInt 64 n &&& BitVec.ofInt 64 255).toNat : Nat) : Int) = (r : Int) := by
  have hk : (BitVec.ofInt 64 n &&& BitVec.ofInt 64 255).toNat < 256 := by
    rw [BitVec.toNat_and]
    have : (BitVec.ofInt 64 255).toNat = 255 := rfl
    rw [this]
    exact Nat.lt_of_le_of_lt Nat.and_le_right (by decide)
  exact ⟨_, hk, w64 (by omega) (by omega)⟩

theorem two (n : Int) (x y : Nat) : (preF Tryd.prog E2 3000 Tryd.f11 2 5 [.int .i64 n] (MT x y)).map (twoF (.tmp 34) (.tmp 36)) = some (.int .i64 (IntKind.wrap .i64 (((BitVec.ofInt 64 n &&& BitVec.ofInt 64 255).toNat : Nat) : Int)), .int .i64 23) := by kernel_rfl
theorem fin0 (n : Int) (x y : Nat) : okB ((preF Tryd.prog E2 3000 Tryd.f11 2 5 [.int .i64 n] (MT x y)).bind (finF Tryd.prog E2 3000 Tryd.f11 2 5 37 0)) = true := by kernel_rfl
theorem fin1 (n : Int) (x y : Nat) : okB ((preF Tryd.prog E2 3000 Tryd.f11 2 5 [.int .i64 n] (MT x y)).bind (finF Tryd.prog E2 3000 Tryd.f11 2 5 37 1)) = true := by kernel_rfl
theorem fin2 (n : Int) (x y : Nat) : okB ((preF Tryd.prog E2 3000 Tryd.f11 2 5 [.int .i64 n] (MT x y)).bind (finF Tryd.prog E2 3000 Tryd.f11 2 5 37 2)) = true := by kernel_rfl
theorem fin3 (n : Int) (x y : Nat) : okB ((preF Tryd.prog E2 3000 Tryd.f11 2 5 [.int .i64 n] (MT x y)).bind (finF Tryd.prog E2 3000 Tryd.f11 2 5 37 3)) = true := by kernel_rfl
theorem fin4 (n : Int) (x y : Nat) : okB ((preF Tryd.prog E2 3000 Tryd.f11 2 5 [.int .i64 n] (MT x y)).bind (finF Tryd.prog E2 3000 Tryd.f11 2 5 37 4)) = true := by kernel_rfl
theorem fin5 (n : Int) (x y : Nat) : okB ((preF Tryd.prog E2 3000 Tryd.f11 2 5 [.int .i64 n] (MT x y)).bind (finF Tryd.prog E2 3000 Tryd.f11 2 5 37 5)) = true := by kernel_rfl
theorem fin6 (n : Int) (x y : Nat) : okB ((preF Tryd.prog E2 3000 Tryd.f11 2 5 [.int .i64 n] (MT x y)).bind (finF Tryd.prog E2 3000 Tryd.f11 2 5 37 6)) = true := by kernel_rfl
theorem fin7 (n : Int) (x y : Nat) : okB ((preF Tryd.prog E2 3000 Tryd.f11 2 5 [.int .i64 n] (MT x y)).bind (finF Tryd.prog E2 3000 Tryd.f11 2 5 37 7)) = true := by kernel_rfl
theorem fin8 (n : Int) (x y : Nat) : okB ((preF Tryd.prog E2 3000 Tryd.f11 2 5 [.int .i64 n] (MT x y)).bind (finF Tryd.prog E2 3000 Tryd.f11 2 5 37 8)) = true := by kernel_rfl
theorem fin9 (n : Int) (x y : Nat) : okB ((preF Tryd.prog E2 3000 Tryd.f11 2 5 [.int .i64 n] (MT x y)).bind (finF Tryd.prog E2 3000 Tryd.f11 2 5 37 9)) = true := by kernel_rfl
theorem fin10 (n : Int) (x y : Nat) : okB ((preF Tryd.prog E2 3000 Tryd.f11 2 5 [.int .i64 n] (MT x y)).bind (finF Tryd.prog E2 3000 Tryd.f11 2 5 37 10)) = true := by kernel_rfl
theorem fin11 (n : Int) (x y : Nat) : okB ((preF Tryd.prog E2 3000 Tryd.f11 2 5 [.int .i64 n] (MT x y)).bind (finF Tryd.prog E2 3000 Tryd.f11 2 5 37 11)) = true := by kernel_rfl
theorem fin12 (n : Int) (x y : Nat) : okB ((preF Tryd.prog E2 3000 Tryd.f11 2 5 [.int .i64 n] (MT x y)).bind (finF Tryd.prog E2 3000 Tryd.f11 2 5 37 12)) = true := by kernel_rfl
theorem fin13 (n : Int) (x y : Nat) : okB ((preF Tryd.prog E2 3000 Tryd.f11 2 5 [.int .i64 n] (MT x y)).bind (finF Tryd.prog E2 3000 Tryd.f11 2 5 37 13)) = true := by kernel_rfl
theorem fin14 (n : Int) (x y : Nat) : okB ((preF Tryd.prog E2 3000 Tryd.f11 2 5 [.int .i64 n] (MT x y)).bind (finF Tryd.prog E2 3000 Tryd.f11 2 5 37 14)) = true := by kernel_rfl
theorem fin15 (n : Int) (x y : Nat) : okB ((preF Tryd.prog E2 3000 Tryd.f11 2 5 [.int .i64 n] (MT x y)).bind (finF Tryd.prog E2 3000 Tryd.f11 2 5 37 15)) = true := by kernel_rfl
theorem fin16 (n : Int) (x y : Nat) : okB ((preF Tryd.prog E2 3000 Tryd.f11 2 5 [.int .i64 n] (MT x y)).bind (finF Tryd.prog E2 3000 Tryd.f11 2 5 37 16)) = true := by kernel_rfl
theorem fin17 (n : Int) (x y : Nat) : okB ((preF Tryd.prog E2 3000 Tryd.f11 2 5 [.int .i64 n] (MT x y)).bind (finF Tryd.prog E2 3000 Tryd.f11 2 5 37 17)) = true := by kernel_rfl
theorem fin18 (n : Int) (x y : Nat) : okB ((preF Tryd.prog E2 3000 Tryd.f11 2 5 [.int .i64 n] (MT x y)).bind (finF Tryd.prog E2 3000 Tryd.f11 2 5 37 18)) = true := by kernel_rfl
theorem fin19 (n : Int) (x y : Nat) : okB ((preF Tryd.prog E2 3000 Tryd.f11 2 5 [.int .i64 n] (MT x y)).bind (finF Tryd.prog E2 3000 Tryd.f11 2 5 37 19)) = true := by kernel_rfl
theorem fin20 (n : Int) (x y : Nat) : okB ((preF Tryd.prog E2 3000 Tryd.f11 2 5 [.int .i64 n] (MT x y)).bind (finF Tryd.prog E2 3000 Tryd.f11 2 5 37 20)) = true := by kernel_rfl
theorem fin21 (n : Int) (x y : Nat) : okB ((preF Tryd.prog E2 3000 Tryd.f11 2 5 [.int .i64 n] (MT x y)).bind (finF Tryd.prog E2 3000 Tryd.f11 2 5 37 21)) = true := by kernel_rfl
theorem fin22 (n : Int) (x y : Nat) : okB ((preF Tryd.prog E2 3000 Tryd.f11 2 5 [.int .i64 n] (MT x y)).bind (finF Tryd.prog E2 3000 Tryd.f11 2 5 37 22)) = true := by kernel_rfl
theorem run (n : Int) (x y : Nat) : ∃ M', acall Tryd.prog E2 3001 true F.fettlelaw4_NameForms #[.int .i64 n] (MT x y) = some (.bool true, M') := by
  obtain ⟨s, hs, h2⟩ := Option.map_eq_some_iff.1 (two n x y)
  simp only [twoF, Prod.mk.injEq] at h2
  obtain ⟨r, hr, e⟩ := and255 n
  rw [e] at h2
  have hb : ∀ r : Nat, r < 23 → okB ((preF Tryd.prog E2 3000 Tryd.f11 2 5 [.int .i64 n] (MT x y)).bind (finF Tryd.prog E2 3000 Tryd.f11 2 5 37 r)) = true := by
    intro r hr
    rcases (show r = 0 ∨ r = 1 ∨ r = 2 ∨ r = 3 ∨ r = 4 ∨ r = 5 ∨ r = 6 ∨ r = 7 ∨ r = 8 ∨ r = 9 ∨ r = 10 ∨ r = 11 ∨ r = 12 ∨ r = 13 ∨ r = 14 ∨ r = 15 ∨ r = 16 ∨ r = 17 ∨ r = 18 ∨ r = 19 ∨ r = 20 ∨ r = 21 ∨ r = 22 by omega) with rfl | rfl | rfl | rfl | rfl | rfl | rfl | rfl | rfl | rfl | rfl | rfl | rfl | rfl | rfl | rfl | rfl | rfl | rfl | rfl | rfl | rfl | rfl
    · exact fin0 n x y
    · exact fin1 n x y
    · exact fin2 n x y
    · exact fin3 n x y
    · exact fin4 n x y
    · exact fin5 n x y
    · exact fin6 n x y
    · exact fin7 n x y
    · exact fin8 n x y
    · exact fin9 n x y
    · exact fin10 n x y
    · exact fin11 n x y
    · exact fin12 n x y
    · exact fin13 n x y
    · exact fin14 n x y
    · exact fin15 n x y
    · exact fin16 n x y
    · exact fin17 n x y
    · exact fin18 n x y
    · exact fin19 n x y
    · exact fin20 n x y
    · exact fin21 n x y
    · exact fin22 n x y
  refine forms (c := bodyOf Tryd.f11) (i := 2) (j := 5) (x := .tmp 34) (y := .tmp 36) (d := 37) (args := [.int .i64 n]) Tryd.func11 rfl (by kernel_rfl) (by kernel_rfl) (by kernel_rfl) hs h2.1 h2.2 (by decide) ?_
  have := hb (r % 23) (Nat.mod_lt _ (by decide))
  rw [hs, Option.bind_some] at this
  have e3 : (r : Int).tmod 23 = ((r % 23 : Nat) : Int) := by rw [Int.tmod_eq_emod_of_nonneg (by omega)]; omega
  rw [e3]; exact this
theorem calls {n : Int}{x y : Nat} {cargs : Array Value} {μ : Map} {w : World} (hL : Lay Tryd.prog w μ (MT x y)) (ha : LRel (VRel Tryd.prog μ w.shape?) cargs.toList (#[.int .i64 n] : Array Value).toList) :
    Calls Tryd.prog F.fettlelaw4_NameForms cargs w fun e w' => e = .returned (.bool true) ∧ Below w.heap.size w w' := by
  obtain ⟨M', h⟩ := run n x y
  exact calls_true (call_fnE E2 E2_ok _ rfl) h hL.glob hL.rel hL.ro ha
end nameForms
end Go.G
