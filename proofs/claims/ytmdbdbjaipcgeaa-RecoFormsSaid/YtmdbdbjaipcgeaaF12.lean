/- RecoForms: its run for each row of its table. -/
import Derived.Test.YtmdbdbjaipcgeaaAW
import Derived.Test.YtmdbdbjaipcgeaaAbArgs
namespace Go.G
open Go.Ab Go.Proofs Go.RowKit
set_option linter.unusedVariables false
set_option maxRecDepth 100000

namespace recoForms
theorem run_fettlelaw12_awake : okB (acall Try.prog G0.E1 9000 true F.fettlelaw12_awake #[] M00) = true := by kernel_rfl
def E2 : Ext := fun f => bif Nat.beq f F.fettlelaw12_awake then some yes0 else match G0.E1 f with
  | some g => some g
  | none => Ex f
theorem E2_ok : ∀ f g, E2 f = some g → CallOk1 Try.prog f g := by
  intro f g h
  unfold E2 at h
  cases h0 : Nat.beq f F.fettlelaw12_awake with
  | true => rw [h0, cond_true] at h; injection h with h; subst h; obtain rfl := Nat.eq_of_beq_eq_true h0; exact G0.closed1 run_fettlelaw12_awake
  | false =>
    rw [h0, cond_false] at h
    split at h
    · rename_i g1 h1; injection h with h; subst h; exact G0.E1_ok _ _ h1
    · exact Ex_ok f g h
theorem and255 (n : Int) : ∃ r : Nat, r < 256 ∧ IntKind.wrap .i64 (((BitVec.ofInt 64 n &&& BitVec.ofInt 64 255).toNat : Nat) : Int) = (r : Int) := by
  have hk : (BitVec.ofInt 64 n &&& BitVec.ofInt 64 255).toNat < 256 := by
    rw [BitVec.toNat_and]
    have : (BitVec.ofInt 64 255).toNat = 255 := rfl
    rw [this]
    exact Nat.lt_of_le_of_lt Nat.and_le_right (by decide)
  exact ⟨_, hk, w64 (by omega) (by omega)⟩

theorem two (n : Int) : (preF Try.prog E2 9000 Try.f14 3 5 [.int .i64 n]).map (twoF (.tmp 42) (.tmp 44)) = some (.int .i64 (IntKind.wrap .i64 (((BitVec.ofInt 64 n &&& BitVec.ofInt 64 255).toNat : Nat) : Int)), .int .i64 11) := by kernel_rfl
theorem fin0 (n : Int) : okB ((preF Try.prog E2 9000 Try.f14 3 5 [.int .i64 n]).bind (finF Try.prog E2 9000 Try.f14 3 5 45 0)) = true := by kernel_rfl
theorem fin1 (n : Int) : okB ((preF Try.prog E2 9000 Try.f14 3 5 [.int .i64 n]).bind (finF Try.prog E2 9000 Try.f14 3 5 45 1)) = true := by kernel_rfl
theorem fin2 (n : Int) : okB ((preF Try.prog E2 9000 Try.f14 3 5 [.int .i64 n]).bind (finF Try.prog E2 9000 Try.f14 3 5 45 2)) = true := by kernel_rfl
theorem fin3 (n : Int) : okB ((preF Try.prog E2 9000 Try.f14 3 5 [.int .i64 n]).bind (finF Try.prog E2 9000 Try.f14 3 5 45 3)) = true := by kernel_rfl
theorem fin4 (n : Int) : okB ((preF Try.prog E2 9000 Try.f14 3 5 [.int .i64 n]).bind (finF Try.prog E2 9000 Try.f14 3 5 45 4)) = true := by kernel_rfl
theorem fin5 (n : Int) : okB ((preF Try.prog E2 9000 Try.f14 3 5 [.int .i64 n]).bind (finF Try.prog E2 9000 Try.f14 3 5 45 5)) = true := by kernel_rfl
theorem fin6 (n : Int) : okB ((preF Try.prog E2 9000 Try.f14 3 5 [.int .i64 n]).bind (finF Try.prog E2 9000 Try.f14 3 5 45 6)) = true := by kernel_rfl
theorem fin7 (n : Int) : okB ((preF Try.prog E2 9000 Try.f14 3 5 [.int .i64 n]).bind (finF Try.prog E2 9000 Try.f14 3 5 45 7)) = true := by kernel_rfl
theorem fin8 (n : Int) : okB ((preF Try.prog E2 9000 Try.f14 3 5 [.int .i64 n]).bind (finF Try.prog E2 9000 Try.f14 3 5 45 8)) = true := by kernel_rfl
theorem fin9 (n : Int) : okB ((preF Try.prog E2 9000 Try.f14 3 5 [.int .i64 n]).bind (finF Try.prog E2 9000 Try.f14 3 5 45 9)) = true := by kernel_rfl
theorem fin10 (n : Int) : okB ((preF Try.prog E2 9000 Try.f14 3 5 [.int .i64 n]).bind (finF Try.prog E2 9000 Try.f14 3 5 45 10)) = true := by kernel_rfl
theorem run (n : Int) : ∃ M', acall Try.prog E2 9001 true F.fettlelaw12_RecoForms #[.int .i64 n] M00 = some (.bool true, M') := by
  obtain ⟨s, hs, h2⟩ := Option.map_eq_some_iff.1 (two n)
  simp only [twoF, Prod.mk.injEq] at h2
  obtain ⟨r, hr, e⟩ := and255 n
  rw [e] at h2
  have hb : ∀ r : Nat, r < 11 → okB ((preF Try.prog E2 9000 Try.f14 3 5 [.int .i64 n]).bind (finF Try.prog E2 9000 Try.f14 3 5 45 r)) = true := by
    intro r hr
    rcases (show r = 0 ∨ r = 1 ∨ r = 2 ∨ r = 3 ∨ r = 4 ∨ r = 5 ∨ r = 6 ∨ r = 7 ∨ r = 8 ∨ r = 9 ∨ r = 10 by omega) with rfl | rfl | rfl | rfl | rfl | rfl | rfl | rfl | rfl | rfl | rfl
    · exact fin0 n
    · exact fin1 n
    · exact fin2 n
    · exact fin3 n
    · exact fin4 n
    · exact fin5 n
    · exact fin6 n
    · exact fin7 n
    · exact fin8 n
    · exact fin9 n
    · exact fin10 n
  refine forms (c := bodyOf Try.f14) (i := 3) (j := 5) (x := .tmp 42) (y := .tmp 44) (d := 45) (args := [.int .i64 n]) Try.func14 rfl (by kernel_rfl) (by kernel_rfl) (by kernel_rfl) hs h2.1 h2.2 (by decide) ?_
  have := hb (r % 11) (Nat.mod_lt _ (by decide))
  rw [hs, Option.bind_some] at this
  have e3 : (r : Int).tmod 11 = ((r % 11 : Nat) : Int) := by rw [Int.tmod_eq_emod_of_nonneg (by omega)]; omega
  rw [e3]; exact this
theorem calls {n : Int} {cargs : Array Value} {μ : Map} {w : World} (hL : Lay Try.prog w μ M00) (ha : LRel (VRel Try.prog μ w.shape?) cargs.toList (#[.int .i64 n] : Array Value).toList) :
    Calls Try.prog F.fettlelaw12_RecoForms cargs w fun e w' => e = .returned (.bool true) ∧ Below w.heap.size w w' := by
  obtain ⟨M', h⟩ := run n
  exact calls_true (call_okE E2 E2_ok _) h hL.rel hL.ro ha
end recoForms
end Go.G
