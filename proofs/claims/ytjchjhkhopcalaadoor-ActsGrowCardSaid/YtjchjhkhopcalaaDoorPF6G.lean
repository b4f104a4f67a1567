/- ActsGrow: its run for all values. -/
import Derived.Test.YtjchjhkhopcalaaDoorPF6G0
import Derived.Test.YtjchjhkhopcalaaDoorPF6G1
import Derived.Test.YtjchjhkhopcalaaDoorPF6G2
import Derived.Test.YtjchjhkhopcalaaDoorPF6G3
import Derived.Test.YtjchjhkhopcalaaDoorPF6G4
import Derived.Test.YtjchjhkhopcalaaDoorPF6G5
import Derived.Test.YtjchjhkhopcalaaDoorPF6G6
import Derived.Test.YtjchjhkhopcalaaDoorPF6G7
import Derived.Test.YtjchjhkhopcalaaDoorPKE
namespace Go.G
open Go.Ab Go.Proofs Go.RowKit
set_option linter.unusedVariables false
set_option maxRecDepth 100000
namespace actsGrow
theorem e (n0 n1 : Int) : (toF Tryd.prog Ex 9000 Tryd.f7 0 0 1 1 (AAct.enter Tryd.f7.ntmps [.int .i64 n0, .int .i64 n1], M00)).map (fun s => s.1.eval (.tmp 12)) = some (.int .i64 n0) := by kernel_rfl
theorem run (n0 n1 : Int) : ∃ M', acall Tryd.prog Ex (9000 + 1) true F.fettlelaw6_ActsGrow #[.int .i64 n0, .int .i64 n1] M00 = some (.bool true, M') := by
  have e0 := call_rest (P := Tryd.prog) (E := Ex) (k := 9000) (c := bodyOf Tryd.f7) (o := (opsAt Tryd.f7 0)[0]!) (args := [.int .i64 n0, .int .i64 n1]) (M0 := M00) Tryd.func7 rfl (by kernel_rfl) (by kernel_rfl) (by kernel_rfl)
  refine okB_of (x := acall Tryd.prog Ex (9000 + 1) true F.fettlelaw6_ActsGrow #[.int .i64 n0, .int .i64 n1] M00) ?_
  rw [show acall Tryd.prog Ex (9000 + 1) true F.fettlelaw6_ActsGrow #[.int .i64 n0, .int .i64 n1] M00 = restF Tryd.prog Ex 9000 Tryd.f7 0 0 (AAct.enter Tryd.f7.ntmps [.int .i64 n0, .int .i64 n1], M00) from e0]
  obtain ⟨s1, h1, x1⟩ := Option.map_eq_some_iff.1 (e n0 n1)
  rw [rest_bits (m := 63) (d := 13) (x := .tmp 12) (by decide) (by kernel_rfl) h1 x1]
  obtain ⟨z, hz, vz⟩ := bits_le n0 63 (by decide)
  rw [vz]
  have all : ∀ z : Nat, z ≤ 63 → okB (restF Tryd.prog Ex 9000 Tryd.f7 1 2 (s1.1.put (some 13) (.int .i64 z), s1.2)) = true := by
    intro z hz
    rcases (show z = 0 ∨ z = 1 ∨ z = 2 ∨ z = 3 ∨ z = 4 ∨ z = 5 ∨ z = 6 ∨ z = 7 ∨ z = 8 ∨ z = 9 ∨ z = 10 ∨ z = 11 ∨ z = 12 ∨ z = 13 ∨ z = 14 ∨ z = 15 ∨ z = 16 ∨ z = 17 ∨ z = 18 ∨ z = 19 ∨ z = 20 ∨ z = 21 ∨ z = 22 ∨ z = 23 ∨ z = 24 ∨ z = 25 ∨ z = 26 ∨ z = 27 ∨ z = 28 ∨ z = 29 ∨ z = 30 ∨ z = 31 ∨ z = 32 ∨ z = 33 ∨ z = 34 ∨ z = 35 ∨ z = 36 ∨ z = 37 ∨ z = 38 ∨ z = 39 ∨ z = 40 ∨ z = 41 ∨ z = 42 ∨ z = 43 ∨ z = 44 ∨ z = 45 ∨ z = 46 ∨ z = 47 ∨ z = 48 ∨ z = 49 ∨ z = 50 ∨ z = 51 ∨ z = 52 ∨ z = 53 ∨ z = 54 ∨ z = 55 ∨ z = 56 ∨ z = 57 ∨ z = 58 ∨ z = 59 ∨ z = 60 ∨ z = 61 ∨ z = 62 ∨ z = 63 by omega) with rfl | rfl | rfl | rfl | rfl | rfl | rfl | rfl | rfl | rfl | rfl | rfl | rfl | rfl | rfl | rfl | rfl | rfl | rfl | rfl | rfl | rfl | rfl | rfl | rfl | rfl | rfl | rfl | rfl | rfl | rfl | rfl | rfl | rfl | rfl | rfl | rfl | rfl | rfl | rfl | rfl | rfl | rfl | rfl | rfl | rfl | rfl | rfl | rfl | rfl | rfl | rfl | rfl | rfl | rfl | rfl | rfl | rfl | rfl | rfl | rfl | rfl | rfl | rfl
    · exact g_0 n0 n1 s1 h1
    · exact g_1 n0 n1 s1 h1
    · exact g_2 n0 n1 s1 h1
    · exact g_3 n0 n1 s1 h1
    · exact g_4 n0 n1 s1 h1
    · exact g_5 n0 n1 s1 h1
    · exact g_6 n0 n1 s1 h1
    · exact g_7 n0 n1 s1 h1
    · exact g_8 n0 n1 s1 h1
    · exact g_9 n0 n1 s1 h1
    · exact g_10 n0 n1 s1 h1
    · exact g_11 n0 n1 s1 h1
    · exact g_12 n0 n1 s1 h1
    · exact g_13 n0 n1 s1 h1
    · exact g_14 n0 n1 s1 h1
    · exact g_15 n0 n1 s1 h1
    · exact g_16 n0 n1 s1 h1
    · exact g_17 n0 n1 s1 h1
    · exact g_18 n0 n1 s1 h1
    · exact g_19 n0 n1 s1 h1
    · exact g_20 n0 n1 s1 h1
    · exact g_21 n0 n1 s1 h1
    · exact g_22 n0 n1 s1 h1
    · exact g_23 n0 n1 s1 h1
    · exact g_24 n0 n1 s1 h1
    · exact g_25 n0 n1 s1 h1
    · exact g_26 n0 n1 s1 h1
    · exact g_27 n0 n1 s1 h1
    · exact g_28 n0 n1 s1 h1
    · exact g_29 n0 n1 s1 h1
    · exact g_30 n0 n1 s1 h1
    · exact g_31 n0 n1 s1 h1
    · exact g_32 n0 n1 s1 h1
    · exact g_33 n0 n1 s1 h1
    · exact g_34 n0 n1 s1 h1
    · exact g_35 n0 n1 s1 h1
    · exact g_36 n0 n1 s1 h1
    · exact g_37 n0 n1 s1 h1
    · exact g_38 n0 n1 s1 h1
    · exact g_39 n0 n1 s1 h1
    · exact g_40 n0 n1 s1 h1
    · exact g_41 n0 n1 s1 h1
    · exact g_42 n0 n1 s1 h1
    · exact g_43 n0 n1 s1 h1
    · exact g_44 n0 n1 s1 h1
    · exact g_45 n0 n1 s1 h1
    · exact g_46 n0 n1 s1 h1
    · exact g_47 n0 n1 s1 h1
    · exact g_48 n0 n1 s1 h1
    · exact g_49 n0 n1 s1 h1
    · exact g_50 n0 n1 s1 h1
    · exact g_51 n0 n1 s1 h1
    · exact g_52 n0 n1 s1 h1
    · exact g_53 n0 n1 s1 h1
    · exact g_54 n0 n1 s1 h1
    · exact g_55 n0 n1 s1 h1
    · exact g_56 n0 n1 s1 h1
    · exact g_57 n0 n1 s1 h1
    · exact g_58 n0 n1 s1 h1
    · exact g_59 n0 n1 s1 h1
    · exact g_60 n0 n1 s1 h1
    · exact g_61 n0 n1 s1 h1
    · exact g_62 n0 n1 s1 h1
    · exact g_63 n0 n1 s1 h1
  exact all z hz
theorem calls {n0 n1 : Int} {cargs : Array Value} {μ : Map} {w : World} (hL : Lay Tryd.prog w μ M00) (ha : LRel (VRel Tryd.prog μ w.shape?) cargs.toList (#[.int .i64 n0, .int .i64 n1] : Array Value).toList) :
    Calls Tryd.prog F.fettlelaw6_ActsGrow cargs w fun e w' => e = .returned (.bool true) ∧ Below w.heap.size w w' := by
  obtain ⟨M', h⟩ := run n0 n1
  exact calls_true (call_fnE Ex Ex_ok _ rfl) h hL.glob hL.rel hL.ro ha
end actsGrow
end Go.G
