/- SweeList: its run for all values. -/
import Derived.Test.YtjchjhkhopcalaaGreatDoorPF19S0
import Derived.Test.YtjchjhkhopcalaaGreatDoorPF19S1
import Derived.Test.YtjchjhkhopcalaaGreatDoorPF19S2
import Derived.Test.YtjchjhkhopcalaaGreatDoorPF19S3
import Derived.Test.YtjchjhkhopcalaaGreatDoorPKE
namespace Go.G
open Go.Ab Go.Proofs Go.RowKit
set_option linter.unusedVariables false
set_option maxRecDepth 100000
namespace sweeList
theorem e (n0 n1 : Int) : (toF Tryz.prog Ex 9000 Tryz.f3 0 0 4 1 (AAct.enter Tryz.f3.ntmps [.int .i64 n0, .int .i64 n1], M00)).map (fun s => s.1.eval (.tmp 13)) = some (.int .i64 n0) := by kernel_rfl
theorem run (n0 n1 : Int) : ∃ M', af Tryz.prog Ex (9000 + 1) true F.i #[.int .i64 n0, .int .i64 n1] M00 = some (.bool true, M') := by
 have e0 := gL (P := Tryz.prog) (E := Ex) (k := 9000) (c := bD Tryz.f3) (o := (ah Tryz.f3 0)[0]!) (args := [.int .i64 n0, .int .i64 n1]) (M0 := M00) Tryz.func3 rfl (by kernel_rfl) (by kernel_rfl) (by kernel_rfl)
 refine ff (x := af Tryz.prog Ex (9000 + 1) true F.i #[.int .i64 n0, .int .i64 n1] M00) ?_
 rw [show af Tryz.prog Ex (9000 + 1) true F.i #[.int .i64 n0, .int .i64 n1] M00 = ad Tryz.prog Ex 9000 Tryz.f3 0 0 (AAct.enter Tryz.f3.ntmps [.int .i64 n0, .int .i64 n1], M00) from e0]
 obtain ⟨s1, h1, x1⟩ := Option.map_eq_some_iff.1 (e n0 n1)
 rw [aJ (m := 7) (d := 14) (x := .tmp 13) (by decide) (by kernel_rfl) h1 x1]
 obtain ⟨z, hz, vz⟩ := bd n0 7 (by decide)
 rw [vz]
 have all : ∀ z : Nat, z ≤ 7 → okB (ad Tryz.prog Ex 9000 Tryz.f3 4 2 (s1.1.put (some 14) (.int .i64 z), s1.2)) = true := by
  intro z hz
  rcases (show z = 0 ∨ z = 1 ∨ z = 2 ∨ z = 3 ∨ z = 4 ∨ z = 5 ∨ z = 6 ∨ z = 7 by omega) with rfl | rfl | rfl | rfl | rfl | rfl | rfl | rfl
  ·exact g_0 n0 n1 s1 h1
  ·exact g_1 n0 n1 s1 h1
  ·exact g_2 n0 n1 s1 h1
  ·exact g_3 n0 n1 s1 h1
  ·exact g_4 n0 n1 s1 h1
  ·exact g_5 n0 n1 s1 h1
  ·exact g_6 n0 n1 s1 h1
  ·exact g_7 n0 n1 s1 h1
 exact all z hz
theorem calls {n0 n1 : Int} {cargs : Array Value} {μ : Map} {w : World} (hL : Lay Tryz.prog w μ M00) (ha : LRel (VRel Tryz.prog μ w.shape?) cargs.toList (#[.int .i64 n0, .int .i64 n1] : Array Value).toList) :
    Calls Tryz.prog F.i cargs w fun e w' => e = .returned (.bool true) ∧ Below w.heap.size w w' := by
 obtain ⟨M', h⟩ := run n0 n1
 exact dL (dA Ex ip _ rfl) h hL.glob hL.rel hL.ro ha
end sweeList
end Go.G
