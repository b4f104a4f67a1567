/- ActsForms: its run for each row of its table. -/
import Derived.Test.YtjchjhkhopcalaaDoorPAW
import Derived.Test.YtjchjhkhopcalaaDoorPKE
namespace Go.G
open Go.Ab Go.Proofs Go.RowKit
set_option linter.unusedVariables false
set_option maxRecDepth 100000

namespace actsForms
def E2 : Ext := fun f => match EC f with
  | some g => some g
  | none => Ex f
theorem E2_ok : ∀ f g, E2 f = some g → CallOk1 Tryd.prog f g ∨ ExtOk1 Tryd.prog f g := by
  intro f g h
  unfold E2 at h
  split at h
  · rename_i g1 h1; injection h with h; subst h; exact EC_ok _ _ h1
  · exact Ex_ok f g h
theorem and255 (n : Int) : ∃ r : Nat, r < 256 ∧ IntKind.wrap .i64 (((BitVec.ofInt 64 n &&& BitVec.ofInt 64 255).toNat : Nat) : Int) = (r : Int) := by
  have hk : (BitVec.ofInt 64 n &&& BitVec.ofInt 64 255).toNat < 256 := by
    rw [BitVec.toNat_and]
    have : (BitVec.ofInt 64 255).toNat = 255 := rfl
    rw [this]
    exact Nat.lt_of_le_of_lt Nat.and_le_right (by decide)
  exact ⟨_, hk, w64 (by omega) (by omega)⟩

theorem two (n : Int) : (preF Tryd.prog E2 9000 Tryd.f6 2 5 [.int .i64 n] M00).map (twoF (.tmp 82) (.tmp 84)) = some (.int .i64 (IntKind.wrap .i64 (((BitVec.ofInt 64 n &&& BitVec.ofInt 64 255).toNat : Nat) : Int)), .int .i64 21) := by kernel_rfl
theorem fin0 (n : Int) : okB ((preF Tryd.prog E2 9000 Tryd.f6 2 5 [.int .i64 n] M00).bind (finF Tryd.prog E2 9000 Tryd.f6 2 5 85 0)) = true := by kernel_rfl
theorem fin1 (n : Int) : okB ((preF Tryd.prog E2 9000 Tryd.f6 2 5 [.int .i64 n] M00).bind (finF Tryd.prog E2 9000 Tryd.f6 2 5 85 1)) = true := by kernel_rfl
theorem fin2 (n : Int) : okB ((preF Tryd.prog E2 9000 Tryd.f6 2 5 [.int .i64 n] M00).bind (finF Tryd.prog E2 9000 Tryd.f6 2 5 85 2)) = true := by kernel_rfl
theorem fin3 (n : Int) : okB ((preF Tryd.prog E2 9000 Tryd.f6 2 5 [.int .i64 n] M00).bind (finF Tryd.prog E2 9000 Tryd.f6 2 5 85 3)) = true := by kernel_rfl
theorem fin4 (n : Int) : okB ((preF Tryd.prog E2 9000 Tryd.f6 2 5 [.int .i64 n] M00).bind (finF Tryd.prog E2 9000 Tryd.f6 2 5 85 4)) = true := by kernel_rfl
theorem fin5 (n : Int) : okB ((preF Tryd.prog E2 9000 Tryd.f6 2 5 [.int .i64 n] M00).bind (finF Tryd.prog E2 9000 Tryd.f6 2 5 85 5)) = true := by kernel_rfl
theorem fin6 (n : Int) : okB ((preF Tryd.prog E2 9000 Tryd.f6 2 5 [.int .i64 n] M00).bind (finF Tryd.prog E2 9000 Tryd.f6 2 5 85 6)) = true := by kernel_rfl
theorem fin7 (n : Int) : okB ((preF Tryd.prog E2 9000 Tryd.f6 2 5 [.int .i64 n] M00).bind (finF Tryd.prog E2 9000 Tryd.f6 2 5 85 7)) = true := by kernel_rfl
theorem fin8 (n : Int) : okB ((preF Tryd.prog E2 9000 Tryd.f6 2 5 [.int .i64 n] M00).bind (finF Tryd.prog E2 9000 Tryd.f6 2 5 85 8)) = true := by kernel_rfl
theorem fin9 (n : Int) : okB ((preF Tryd.prog E2 9000 Tryd.f6 2 5 [.int .i64 n] M00).bind (finF Tryd.prog E2 9000 Tryd.f6 2 5 85 9)) = true := by kernel_rfl
theorem fin10 (n : Int) : okB ((preF Tryd.prog E2 9000 Tryd.f6 2 5 [.int .i64 n] M00).bind (finF Tryd.prog E2 9000 Tryd.f6 2 5 85 10)) = true := by kernel_rfl
theorem fin11 (n : Int) : okB ((preF Tryd.prog E2 9000 Tryd.f6 2 5 [.int .i64 n] M00).bind (finF Tryd.prog E2 9000 Tryd.f6 2 5 85 11)) = true := by kernel_rfl
theorem fin12 (n : Int) : okB ((preF Tryd.prog E2 9000 Tryd.f6 2 5 [.int .i64 n] M00).bind (finF Tryd.prog E2 9000 Tryd.f6 2 5 85 12)) = true := by kernel_rfl
theorem fin13 (n : Int) : okB ((preF Tryd.prog E2 9000 Tryd.f6 2 5 [.int .i64 n] M00).bind (finF Tryd.prog E2 9000 Tryd.f6 2 5 85 13)) = true := by kernel_rfl
theorem fin14 (n : Int) : okB ((preF Tryd.prog E2 9000 Tryd.f6 2 5 [.int .i64 n] M00).bind (finF Tryd.prog E2 9000 Tryd.f6 2 5 85 14)) = true := by kernel_rfl
theorem fin15 (n : Int) : okB ((preF Tryd.prog E2 9000 Tryd.f6 2 5 [.int .i64 n] M00).bind (finF Tryd.prog E2 9000 Tryd.f6 2 5 85 15)) = true := by kernel_rfl
theorem fin16 (n : Int) : okB ((preF Tryd.prog E2 9000 Tryd.f6 2 5 [.int .i64 n] M00).bind (finF Tryd.prog E2 9000 Tryd.f6 2 5 85 16)) = true := by kernel_rfl
theorem fin17 (n : Int) : okB ((preF Tryd.prog E2 9000 Tryd.f6 2 5 [.int .i64 n] M00).bind (finF Tryd.prog E2 9000 Tryd.f6 2 5 85 17)) = true := by kernel_rfl
theorem fin18 (n : Int) : okB ((preF Tryd.prog E2 9000 Tryd.f6 2 5 [.int .i64 n] M00).bind (finF Tryd.prog E2 9000 Tryd.f6 2 5 85 18)) = true := by kernel_rfl
theorem fin19 (n : Int) : okB ((preF Tryd.prog E2 9000 Tryd.f6 2 5 [.int .i64 n] M00).bind (finF Tryd.prog E2 9000 Tryd.f6 2 5 85 19)) = true := by kernel_rfl
theorem fin20 (n : Int) : okB ((preF Tryd.prog E2 9000 Tryd.f6 2 5 [.int .i64 n] M00).bind (finF Tryd.prog E2 9000 Tryd.f6 2 5 85 20)) = true := by kernel_rfl
theorem run (n : Int) : ∃ M', acall Tryd.prog E2 9001 true F.fettlelaw6_ActsForms #[.int .i64 n] M00 = some (.bool true, M') := by
  obtain ⟨s, hs, h2⟩ := Option.map_eq_some_iff.1 (two n)
  simp only [twoF, Prod.mk.injEq] at h2
  obtain ⟨r, hr, e⟩ := and255 n
  rw [e] at h2
  have hb : ∀ r : Nat, r < 21 → okB ((preF Tryd.prog E2 9000 Tryd.f6 2 5 [.int .i64 n] M00).bind (finF Tryd.prog E2 9000 Tryd.f6 2 5 85 r)) = true := by
    intro r hr
    rcases (show r = 0 ∨ r = 1 ∨ r = 2 ∨ r = 3 ∨ r = 4 ∨ r = 5 ∨ r = 6 ∨ r = 7 ∨ r = 8 ∨ r = 9 ∨ r = 10 ∨ r = 11 ∨ r = 12 ∨ r = 13 ∨ r = 14 ∨ r = 15 ∨ r = 16 ∨ r = 17 ∨ r = 18 ∨ r = 19 ∨ r = 20 by omega) with rfl | rfl | rfl | rfl | rfl | rfl | rfl | rfl | rfl | rfl | rfl | rfl | rfl | rfl | rfl | rfl | rfl | rfl | rfl | rfl | rfl
    · exact fin0 n
    · exact fin1 n
    · exact fin2 n
    · exact fin3 n
    · exact fin4 n
    · exact fin5 n
    · exact fin6 n
    · exact fin7 n
    · exact fin8 n
    · exact fin9 n
    · exact fin10 n
    · exact fin11 n
    · exact fin12 n
    · exact fin13 n
    · exact fin14 n
    · exact fin15 n
    · exact fin16 n
    · exact fin17 n
    · exact fin18 n
    · exact fin19 n
    · exact fin20 n
  refine forms (c := bodyOf Tryd.f6) (i := 2) (j := 5) (x := .tmp 82) (y := .tmp 84) (d := 85) (args := [.int .i64 n]) Tryd.func6 rfl (by kernel_rfl) (by kernel_rfl) (by kernel_rfl) hs h2.1 h2.2 (by decide) ?_
  have := hb (r % 21) (Nat.mod_lt _ (by decide))
  rw [hs, Option.bind_some] at this
  have e3 : (r : Int).tmod 21 = ((r % 21 : Nat) : Int) := by rw [Int.tmod_eq_emod_of_nonneg (by omega)]; omega
  rw [e3]; exact this
theorem calls {n : Int} {cargs : Array Value} {μ : Map} {w : World} (hL : Lay Tryd.prog w μ M00) (ha : LRel (VRel Tryd.prog μ w.shape?) cargs.toList (#[.int .i64 n] : Array Value).toList) :
    Calls Tryd.prog F.fettlelaw6_ActsForms cargs w fun e w' => e = .returned (.bool true) ∧ Below w.heap.size w w' := by
  obtain ⟨M', h⟩ := run n
  exact calls_true (call_fnE E2 E2_ok _ rfl) h hL.glob hL.rel hL.ro ha
end actsForms
end Go.G
