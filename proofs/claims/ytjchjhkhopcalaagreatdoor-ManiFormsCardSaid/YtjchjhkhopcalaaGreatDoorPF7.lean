/- ManiForms: its run for each row of its table. -/
import Derived.Test.YtjchjhkhopcalaaGreatDoorPAW
import Derived.Test.YtjchjhkhopcalaaGreatDoorPKE
namespace Go.G
open Go.Ab Go.Proofs Go.RowKit
set_option linter.unusedVariables false
set_option maxRecDepth 100000
namespace maniForms
def E2 : Ext := fun f => match EC f with
 | some g => some g
 | none => Ex f
theorem iX : ∀ f g, E2 f = some g → aj Tryz.prog f g ∨ aX Tryz.prog f g := by
 intro f g h
 unfold E2 at h
 split at h
 ·rename_i g1 h1; injection h with h; subst h; exact io _ _ h1
 ·exact ip f g h
theorem iL (n : Int) : ∃ r : Nat, r < 256 ∧ IntKind.wrap .i64 (((BitVec.ofInt 64 n &&& BitVec.ofInt 64 255).toNat : Nat) : Int) = (r : Int) := by
 have hk : (BitVec.ofInt 64 n &&& BitVec.ofInt 64 255).toNat < 256 := by
  rw [BitVec.toNat_and]
  have : (BitVec.ofInt 64 255).toNat = 255 := rfl
  rw [this]
  exact Nat.lt_of_le_of_lt Nat.and_le_right (by decide)
 exact ⟨_, hk, w64 (by omega) (by omega)⟩
theorem two (n : Int) : (ak Tryz.prog E2 9000 Tryz.f6 2 5 [.int .i64 n] M00).map (iU (.tmp 88) (.tmp 90)) = some (.int .i64 (IntKind.wrap .i64 (((BitVec.ofInt 64 n &&& BitVec.ofInt 64 255).toNat : Nat) : Int)), .int .i64 39) := by kernel_rfl
theorem kT (n : Int) : okB ((ak Tryz.prog E2 9000 Tryz.f6 2 5 [.int .i64 n] M00).bind (al Tryz.prog E2 9000 Tryz.f6 2 5 91 0)) = true := by kernel_rfl
theorem kU (n : Int) : okB ((ak Tryz.prog E2 9000 Tryz.f6 2 5 [.int .i64 n] M00).bind (al Tryz.prog E2 9000 Tryz.f6 2 5 91 1)) = true := by kernel_rfl
theorem kV (n : Int) : okB ((ak Tryz.prog E2 9000 Tryz.f6 2 5 [.int .i64 n] M00).bind (al Tryz.prog E2 9000 Tryz.f6 2 5 91 2)) = true := by kernel_rfl
theorem kW (n : Int) : okB ((ak Tryz.prog E2 9000 Tryz.f6 2 5 [.int .i64 n] M00).bind (al Tryz.prog E2 9000 Tryz.f6 2 5 91 3)) = true := by kernel_rfl
theorem kX (n : Int) : okB ((ak Tryz.prog E2 9000 Tryz.f6 2 5 [.int .i64 n] M00).bind (al Tryz.prog E2 9000 Tryz.f6 2 5 91 4)) = true := by kernel_rfl
theorem kY (n : Int) : okB ((ak Tryz.prog E2 9000 Tryz.f6 2 5 [.int .i64 n] M00).bind (al Tryz.prog E2 9000 Tryz.f6 2 5 91 5)) = true := by kernel_rfl
theorem kZ (n : Int) : okB ((ak Tryz.prog E2 9000 Tryz.f6 2 5 [.int .i64 n] M00).bind (al Tryz.prog E2 9000 Tryz.f6 2 5 91 6)) = true := by kernel_rfl
theorem k5 (n : Int) : okB ((ak Tryz.prog E2 9000 Tryz.f6 2 5 [.int .i64 n] M00).bind (al Tryz.prog E2 9000 Tryz.f6 2 5 91 7)) = true := by kernel_rfl
theorem k6 (n : Int) : okB ((ak Tryz.prog E2 9000 Tryz.f6 2 5 [.int .i64 n] M00).bind (al Tryz.prog E2 9000 Tryz.f6 2 5 91 8)) = true := by kernel_rfl
theorem k7 (n : Int) : okB ((ak Tryz.prog E2 9000 Tryz.f6 2 5 [.int .i64 n] M00).bind (al Tryz.prog E2 9000 Tryz.f6 2 5 91 9)) = true := by kernel_rfl
theorem km (n : Int) : okB ((ak Tryz.prog E2 9000 Tryz.f6 2 5 [.int .i64 n] M00).bind (al Tryz.prog E2 9000 Tryz.f6 2 5 91 10)) = true := by kernel_rfl
theorem kn (n : Int) : okB ((ak Tryz.prog E2 9000 Tryz.f6 2 5 [.int .i64 n] M00).bind (al Tryz.prog E2 9000 Tryz.f6 2 5 91 11)) = true := by kernel_rfl
theorem ko (n : Int) : okB ((ak Tryz.prog E2 9000 Tryz.f6 2 5 [.int .i64 n] M00).bind (al Tryz.prog E2 9000 Tryz.f6 2 5 91 12)) = true := by kernel_rfl
theorem kp (n : Int) : okB ((ak Tryz.prog E2 9000 Tryz.f6 2 5 [.int .i64 n] M00).bind (al Tryz.prog E2 9000 Tryz.f6 2 5 91 13)) = true := by kernel_rfl
theorem kq (n : Int) : okB ((ak Tryz.prog E2 9000 Tryz.f6 2 5 [.int .i64 n] M00).bind (al Tryz.prog E2 9000 Tryz.f6 2 5 91 14)) = true := by kernel_rfl
theorem kr (n : Int) : okB ((ak Tryz.prog E2 9000 Tryz.f6 2 5 [.int .i64 n] M00).bind (al Tryz.prog E2 9000 Tryz.f6 2 5 91 15)) = true := by kernel_rfl
theorem ku (n : Int) : okB ((ak Tryz.prog E2 9000 Tryz.f6 2 5 [.int .i64 n] M00).bind (al Tryz.prog E2 9000 Tryz.f6 2 5 91 16)) = true := by kernel_rfl
theorem kw (n : Int) : okB ((ak Tryz.prog E2 9000 Tryz.f6 2 5 [.int .i64 n] M00).bind (al Tryz.prog E2 9000 Tryz.f6 2 5 91 17)) = true := by kernel_rfl
theorem kx (n : Int) : okB ((ak Tryz.prog E2 9000 Tryz.f6 2 5 [.int .i64 n] M00).bind (al Tryz.prog E2 9000 Tryz.f6 2 5 91 18)) = true := by kernel_rfl
theorem ky (n : Int) : okB ((ak Tryz.prog E2 9000 Tryz.f6 2 5 [.int .i64 n] M00).bind (al Tryz.prog E2 9000 Tryz.f6 2 5 91 19)) = true := by kernel_rfl
theorem kz (n : Int) : okB ((ak Tryz.prog E2 9000 Tryz.f6 2 5 [.int .i64 n] M00).bind (al Tryz.prog E2 9000 Tryz.f6 2 5 91 20)) = true := by kernel_rfl
theorem kA (n : Int) : okB ((ak Tryz.prog E2 9000 Tryz.f6 2 5 [.int .i64 n] M00).bind (al Tryz.prog E2 9000 Tryz.f6 2 5 91 21)) = true := by kernel_rfl
theorem kB (n : Int) : okB ((ak Tryz.prog E2 9000 Tryz.f6 2 5 [.int .i64 n] M00).bind (al Tryz.prog E2 9000 Tryz.f6 2 5 91 22)) = true := by kernel_rfl
theorem kC (n : Int) : okB ((ak Tryz.prog E2 9000 Tryz.f6 2 5 [.int .i64 n] M00).bind (al Tryz.prog E2 9000 Tryz.f6 2 5 91 23)) = true := by kernel_rfl
theorem kD (n : Int) : okB ((ak Tryz.prog E2 9000 Tryz.f6 2 5 [.int .i64 n] M00).bind (al Tryz.prog E2 9000 Tryz.f6 2 5 91 24)) = true := by kernel_rfl
theorem kE (n : Int) : okB ((ak Tryz.prog E2 9000 Tryz.f6 2 5 [.int .i64 n] M00).bind (al Tryz.prog E2 9000 Tryz.f6 2 5 91 25)) = true := by kernel_rfl
theorem kF (n : Int) : okB ((ak Tryz.prog E2 9000 Tryz.f6 2 5 [.int .i64 n] M00).bind (al Tryz.prog E2 9000 Tryz.f6 2 5 91 26)) = true := by kernel_rfl
theorem kG (n : Int) : okB ((ak Tryz.prog E2 9000 Tryz.f6 2 5 [.int .i64 n] M00).bind (al Tryz.prog E2 9000 Tryz.f6 2 5 91 27)) = true := by kernel_rfl
theorem kH (n : Int) : okB ((ak Tryz.prog E2 9000 Tryz.f6 2 5 [.int .i64 n] M00).bind (al Tryz.prog E2 9000 Tryz.f6 2 5 91 28)) = true := by kernel_rfl
theorem kI (n : Int) : okB ((ak Tryz.prog E2 9000 Tryz.f6 2 5 [.int .i64 n] M00).bind (al Tryz.prog E2 9000 Tryz.f6 2 5 91 29)) = true := by kernel_rfl
theorem kJ (n : Int) : okB ((ak Tryz.prog E2 9000 Tryz.f6 2 5 [.int .i64 n] M00).bind (al Tryz.prog E2 9000 Tryz.f6 2 5 91 30)) = true := by kernel_rfl
theorem kK (n : Int) : okB ((ak Tryz.prog E2 9000 Tryz.f6 2 5 [.int .i64 n] M00).bind (al Tryz.prog E2 9000 Tryz.f6 2 5 91 31)) = true := by kernel_rfl
theorem kL (n : Int) : okB ((ak Tryz.prog E2 9000 Tryz.f6 2 5 [.int .i64 n] M00).bind (al Tryz.prog E2 9000 Tryz.f6 2 5 91 32)) = true := by kernel_rfl
theorem kM (n : Int) : okB ((ak Tryz.prog E2 9000 Tryz.f6 2 5 [.int .i64 n] M00).bind (al Tryz.prog E2 9000 Tryz.f6 2 5 91 33)) = true := by kernel_rfl
theorem kN (n : Int) : okB ((ak Tryz.prog E2 9000 Tryz.f6 2 5 [.int .i64 n] M00).bind (al Tryz.prog E2 9000 Tryz.f6 2 5 91 34)) = true := by kernel_rfl
theorem kO (n : Int) : okB ((ak Tryz.prog E2 9000 Tryz.f6 2 5 [.int .i64 n] M00).bind (al Tryz.prog E2 9000 Tryz.f6 2 5 91 35)) = true := by kernel_rfl
theorem kP (n : Int) : okB ((ak Tryz.prog E2 9000 Tryz.f6 2 5 [.int .i64 n] M00).bind (al Tryz.prog E2 9000 Tryz.f6 2 5 91 36)) = true := by kernel_rfl
theorem kQ (n : Int) : okB ((ak Tryz.prog E2 9000 Tryz.f6 2 5 [.int .i64 n] M00).bind (al Tryz.prog E2 9000 Tryz.f6 2 5 91 37)) = true := by kernel_rfl
theorem kR (n : Int) : okB ((ak Tryz.prog E2 9000 Tryz.f6 2 5 [.int .i64 n] M00).bind (al Tryz.prog E2 9000 Tryz.f6 2 5 91 38)) = true := by kernel_rfl
theorem run (n : Int) : ∃ M', af Tryz.prog E2 9001 true F.k #[.int .i64 n] M00 = some (.bool true, M') := by
 obtain ⟨s, hs, h2⟩ := Option.map_eq_some_iff.1 (two n)
 simp only [iU, Prod.mk.injEq] at h2
 obtain ⟨r, hr, e⟩ := iL n
 rw [e] at h2
 have hb : ∀ r : Nat, r < 39 → okB ((ak Tryz.prog E2 9000 Tryz.f6 2 5 [.int .i64 n] M00).bind (al Tryz.prog E2 9000 Tryz.f6 2 5 91 r)) = true := by
  intro r hr
  rcases (show r = 0 ∨ r = 1 ∨ r = 2 ∨ r = 3 ∨ r = 4 ∨ r = 5 ∨ r = 6 ∨ r = 7 ∨ r = 8 ∨ r = 9 ∨ r = 10 ∨ r = 11 ∨ r = 12 ∨ r = 13 ∨ r = 14 ∨ r = 15 ∨ r = 16 ∨ r = 17 ∨ r = 18 ∨ r = 19 ∨ r = 20 ∨ r = 21 ∨ r = 22 ∨ r = 23 ∨ r = 24 ∨ r = 25 ∨ r = 26 ∨ r = 27 ∨ r = 28 ∨ r = 29 ∨ r = 30 ∨ r = 31 ∨ r = 32 ∨ r = 33 ∨ r = 34 ∨ r = 35 ∨ r = 36 ∨ r = 37 ∨ r = 38 by omega) with rfl | rfl | rfl | rfl | rfl | rfl | rfl | rfl | rfl | rfl | rfl | rfl | rfl | rfl | rfl | rfl | rfl | rfl | rfl | rfl | rfl | rfl | rfl | rfl | rfl | rfl | rfl | rfl | rfl | rfl | rfl | rfl | rfl | rfl | rfl | rfl | rfl | rfl | rfl
  ·exact kT n
  ·exact kU n
  ·exact kV n
  ·exact kW n
  ·exact kX n
  ·exact kY n
  ·exact kZ n
  ·exact k5 n
  ·exact k6 n
  ·exact k7 n
  ·exact km n
  ·exact kn n
  ·exact ko n
  ·exact kp n
  ·exact kq n
  ·exact kr n
  ·exact ku n
  ·exact kw n
  ·exact kx n
  ·exact ky n
  ·exact kz n
  ·exact kA n
  ·exact kB n
  ·exact kC n
  ·exact kD n
  ·exact kE n
  ·exact kF n
  ·exact kG n
  ·exact kH n
  ·exact kI n
  ·exact kJ n
  ·exact kK n
  ·exact kL n
  ·exact kM n
  ·exact kN n
  ·exact kO n
  ·exact kP n
  ·exact kQ n
  ·exact kR n
 refine kS (c := bD Tryz.f6) (i := 2) (j := 5) (x := .tmp 88) (y := .tmp 90) (d := 91) (args := [.int .i64 n]) Tryz.func6 rfl (by kernel_rfl) (by kernel_rfl) (by kernel_rfl) hs h2.1 h2.2 (by decide) ?_
 have := hb (r % 39) (Nat.mod_lt _ (by decide))
 rw [hs, Option.bind_some] at this
 have e3 : (r : Int).tmod 39 = ((r % 39 : Nat) : Int) := by rw [Int.tmod_eq_emod_of_nonneg (by omega)]; omega
 rw [e3]; exact this
theorem calls {n : Int} {cargs : Array Value} {μ : Map} {w : World} (hL : Lay Tryz.prog w μ M00) (ha : LRel (VRel Tryz.prog μ w.shape?) cargs.toList (#[.int .i64 n] : Array Value).toList) :
    Calls Tryz.prog F.k cargs w fun e w' => e = .returned (.bool true) ∧ Below w.heap.size w w' := by
 obtain ⟨M', h⟩ := run n
 exact dL (dA E2 iX _ rfl) h hL.glob hL.rel hL.ro ha
end maniForms
end Go.G
