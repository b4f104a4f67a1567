/- SourSteps: its run for all values. -/
import Derived.Test.YtpacolplhcfamaaPF15S0
import Derived.Test.YtpacolplhcfamaaPF15S1
import Derived.Test.YtpacolplhcfamaaPF15S2
import Derived.Test.YtpacolplhcfamaaPF15S3
import Derived.Test.YtpacolplhcfamaaPF15S4
import Derived.Test.YtpacolplhcfamaaPF15S5
import Derived.Test.YtpacolplhcfamaaPF15S6
import Derived.Test.YtpacolplhcfamaaPF15S7
import Derived.Test.YtpacolplhcfamaaPKE
namespace Go.G
open Go.Ab Go.Proofs Go.RowKit
set_option linter.unusedVariables false
set_option maxRecDepth 100000
namespace sourSteps
theorem e (n0 n1 : Int) : (toF Try.prog Ex 9000 Try.f7 0 0 4 1 (AAct.enter Try.f7.ntmps [.int .i64 n0, .int .i64 n1], M00)).map (fun s => s.1.eval (.tmp 20)) = some (.int .i64 n0) := by kernel_rfl
theorem run (n0 n1 : Int) : ∃ M', acall Try.prog Ex (9000 + 1) true F.fettlelaw15_SourSteps #[.int .i64 n0, .int .i64 n1] M00 = some (.bool true, M') := by
  have e0 := call_rest (P := Try.prog) (E := Ex) (k := 9000) (c := bodyOf Try.f7) (o := (opsAt Try.f7 0)[0]!) (args := [.int .i64 n0, .int .i64 n1]) (M0 := M00) Try.func7 rfl (by kernel_rfl) (by kernel_rfl) (by kernel_rfl)
  refine okB_of (x := acall Try.prog Ex (9000 + 1) true F.fettlelaw15_SourSteps #[.int .i64 n0, .int .i64 n1] M00) ?_
  rw [show acall Try.prog Ex (9000 + 1) true F.fettlelaw15_SourSteps #[.int .i64 n0, .int .i64 n1] M00 = restF Try.prog Ex 9000 Try.f7 0 0 (AAct.enter Try.f7.ntmps [.int .i64 n0, .int .i64 n1], M00) from e0]
  obtain ⟨s1, h1, x1⟩ := Option.map_eq_some_iff.1 (e n0 n1)
  rw [rest_bits (m := 7) (d := 21) (x := .tmp 20) (by decide) (by kernel_rfl) h1 x1]
  obtain ⟨z, hz, vz⟩ := bits_le n0 7 (by decide)
  rw [vz]
  have all : ∀ z : Nat, z ≤ 7 → okB (restF Try.prog Ex 9000 Try.f7 4 2 (s1.1.put (some 21) (.int .i64 z), s1.2)) = true := by
    intro z hz
    rcases (show z = 0 ∨ z = 1 ∨ z = 2 ∨ z = 3 ∨ z = 4 ∨ z = 5 ∨ z = 6 ∨ z = 7 by omega) with rfl | rfl | rfl | rfl | rfl | rfl | rfl | rfl
    · exact g_0 n0 n1 s1 h1
    · exact g_1 n0 n1 s1 h1
    · exact g_2 n0 n1 s1 h1
    · exact g_3 n0 n1 s1 h1
    · exact g_4 n0 n1 s1 h1
    · exact g_5 n0 n1 s1 h1
    · exact g_6 n0 n1 s1 h1
    · exact g_7 n0 n1 s1 h1
  exact all z hz
theorem calls {n0 n1 : Int} {cargs : Array Value} {μ : Map} {w : World} (hL : Lay Try.prog w μ M00) (ha : LRel (VRel Try.prog μ w.shape?) cargs.toList (#[.int .i64 n0, .int .i64 n1] : Array Value).toList) :
    Calls Try.prog F.fettlelaw15_SourSteps cargs w fun e w' => e = .returned (.bool true) ∧ Below w.heap.size w w' := by
  obtain ⟨M', h⟩ := run n0 n1
  exact calls_true (call_fnE Ex Ex_ok _ rfl) h hL.glob hL.rel hL.ro ha
end sourSteps
end Go.G
