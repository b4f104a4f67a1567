/- SourSteps: its runs, part 2. -/
import Derived.Test.YtpacolplhcfamaaPAW
import Derived.Test.YtpacolplhcfamaaPAbFin
namespace Go.G
open Go.Ab Go.Proofs Go.RowKit
set_option linter.unusedVariables false
set_option maxRecDepth 100000
namespace sourSteps
theorem e_2 (n0 n1 : Int) : ((toF Try.prog Ex 9000 Try.f7 0 0 4 1 (AAct.enter Try.f7.ntmps [.int .i64 n0, .int .i64 n1], M00)).bind fun s => toF Try.prog Ex 9000 Try.f7 4 2 11 1 (s.1.put (some 21) (.int .i64 2), s.2)).map (fun s => s.1.eval (.tmp 46)) = some (.int .i64 n1) := by kernel_rfl
theorem f_2_0 (n0 n1 : Int) : okB (((toF Try.prog Ex 9000 Try.f7 0 0 4 1 (AAct.enter Try.f7.ntmps [.int .i64 n0, .int .i64 n1], M00)).bind fun s => toF Try.prog Ex 9000 Try.f7 4 2 11 1 (s.1.put (some 21) (.int .i64 2), s.2)).bind fun s => restF Try.prog Ex 9000 Try.f7 11 2 (s.1.put (some 47) (.int .i64 0), s.2)) = true := by kernel_rfl
theorem f_2_1 (n0 n1 : Int) : okB (((toF Try.prog Ex 9000 Try.f7 0 0 4 1 (AAct.enter Try.f7.ntmps [.int .i64 n0, .int .i64 n1], M00)).bind fun s => toF Try.prog Ex 9000 Try.f7 4 2 11 1 (s.1.put (some 21) (.int .i64 2), s.2)).bind fun s => restF Try.prog Ex 9000 Try.f7 11 2 (s.1.put (some 47) (.int .i64 1), s.2)) = true := by kernel_rfl
theorem f_2_2 (n0 n1 : Int) : okB (((toF Try.prog Ex 9000 Try.f7 0 0 4 1 (AAct.enter Try.f7.ntmps [.int .i64 n0, .int .i64 n1], M00)).bind fun s => toF Try.prog Ex 9000 Try.f7 4 2 11 1 (s.1.put (some 21) (.int .i64 2), s.2)).bind fun s => restF Try.prog Ex 9000 Try.f7 11 2 (s.1.put (some 47) (.int .i64 2), s.2)) = true := by kernel_rfl
theorem f_2_3 (n0 n1 : Int) : okB (((toF Try.prog Ex 9000 Try.f7 0 0 4 1 (AAct.enter Try.f7.ntmps [.int .i64 n0, .int .i64 n1], M00)).bind fun s => toF Try.prog Ex 9000 Try.f7 4 2 11 1 (s.1.put (some 21) (.int .i64 2), s.2)).bind fun s => restF Try.prog Ex 9000 Try.f7 11 2 (s.1.put (some 47) (.int .i64 3), s.2)) = true := by kernel_rfl
theorem f_2_4 (n0 n1 : Int) : okB (((toF Try.prog Ex 9000 Try.f7 0 0 4 1 (AAct.enter Try.f7.ntmps [.int .i64 n0, .int .i64 n1], M00)).bind fun s => toF Try.prog Ex 9000 Try.f7 4 2 11 1 (s.1.put (some 21) (.int .i64 2), s.2)).bind fun s => restF Try.prog Ex 9000 Try.f7 11 2 (s.1.put (some 47) (.int .i64 4), s.2)) = true := by kernel_rfl
theorem f_2_5 (n0 n1 : Int) : okB (((toF Try.prog Ex 9000 Try.f7 0 0 4 1 (AAct.enter Try.f7.ntmps [.int .i64 n0, .int .i64 n1], M00)).bind fun s => toF Try.prog Ex 9000 Try.f7 4 2 11 1 (s.1.put (some 21) (.int .i64 2), s.2)).bind fun s => restF Try.prog Ex 9000 Try.f7 11 2 (s.1.put (some 47) (.int .i64 5), s.2)) = true := by kernel_rfl
theorem f_2_6 (n0 n1 : Int) : okB (((toF Try.prog Ex 9000 Try.f7 0 0 4 1 (AAct.enter Try.f7.ntmps [.int .i64 n0, .int .i64 n1], M00)).bind fun s => toF Try.prog Ex 9000 Try.f7 4 2 11 1 (s.1.put (some 21) (.int .i64 2), s.2)).bind fun s => restF Try.prog Ex 9000 Try.f7 11 2 (s.1.put (some 47) (.int .i64 6), s.2)) = true := by kernel_rfl
theorem f_2_7 (n0 n1 : Int) : okB (((toF Try.prog Ex 9000 Try.f7 0 0 4 1 (AAct.enter Try.f7.ntmps [.int .i64 n0, .int .i64 n1], M00)).bind fun s => toF Try.prog Ex 9000 Try.f7 4 2 11 1 (s.1.put (some 21) (.int .i64 2), s.2)).bind fun s => restF Try.prog Ex 9000 Try.f7 11 2 (s.1.put (some 47) (.int .i64 7), s.2)) = true := by kernel_rfl
theorem f_2_8 (n0 n1 : Int) : okB (((toF Try.prog Ex 9000 Try.f7 0 0 4 1 (AAct.enter Try.f7.ntmps [.int .i64 n0, .int .i64 n1], M00)).bind fun s => toF Try.prog Ex 9000 Try.f7 4 2 11 1 (s.1.put (some 21) (.int .i64 2), s.2)).bind fun s => restF Try.prog Ex 9000 Try.f7 11 2 (s.1.put (some 47) (.int .i64 8), s.2)) = true := by kernel_rfl
theorem f_2_9 (n0 n1 : Int) : okB (((toF Try.prog Ex 9000 Try.f7 0 0 4 1 (AAct.enter Try.f7.ntmps [.int .i64 n0, .int .i64 n1], M00)).bind fun s => toF Try.prog Ex 9000 Try.f7 4 2 11 1 (s.1.put (some 21) (.int .i64 2), s.2)).bind fun s => restF Try.prog Ex 9000 Try.f7 11 2 (s.1.put (some 47) (.int .i64 9), s.2)) = true := by kernel_rfl
theorem f_2_10 (n0 n1 : Int) : okB (((toF Try.prog Ex 9000 Try.f7 0 0 4 1 (AAct.enter Try.f7.ntmps [.int .i64 n0, .int .i64 n1], M00)).bind fun s => toF Try.prog Ex 9000 Try.f7 4 2 11 1 (s.1.put (some 21) (.int .i64 2), s.2)).bind fun s => restF Try.prog Ex 9000 Try.f7 11 2 (s.1.put (some 47) (.int .i64 10), s.2)) = true := by kernel_rfl
theorem f_2_11 (n0 n1 : Int) : okB (((toF Try.prog Ex 9000 Try.f7 0 0 4 1 (AAct.enter Try.f7.ntmps [.int .i64 n0, .int .i64 n1], M00)).bind fun s => toF Try.prog Ex 9000 Try.f7 4 2 11 1 (s.1.put (some 21) (.int .i64 2), s.2)).bind fun s => restF Try.prog Ex 9000 Try.f7 11 2 (s.1.put (some 47) (.int .i64 11), s.2)) = true := by kernel_rfl
theorem f_2_12 (n0 n1 : Int) : okB (((toF Try.prog Ex 9000 Try.f7 0 0 4 1 (AAct.enter Try.f7.ntmps [.int .i64 n0, .int .i64 n1], M00)).bind fun s => toF Try.prog Ex 9000 Try.f7 4 2 11 1 (s.1.put (some 21) (.int .i64 2), s.2)).bind fun s => restF Try.prog Ex 9000 Try.f7 11 2 (s.1.put (some 47) (.int .i64 12), s.2)) = true := by kernel_rfl
theorem f_2_13 (n0 n1 : Int) : okB (((toF Try.prog Ex 9000 Try.f7 0 0 4 1 (AAct.enter Try.f7.ntmps [.int .i64 n0, .int .i64 n1], M00)).bind fun s => toF Try.prog Ex 9000 Try.f7 4 2 11 1 (s.1.put (some 21) (.int .i64 2), s.2)).bind fun s => restF Try.prog Ex 9000 Try.f7 11 2 (s.1.put (some 47) (.int .i64 13), s.2)) = true := by kernel_rfl
theorem f_2_14 (n0 n1 : Int) : okB (((toF Try.prog Ex 9000 Try.f7 0 0 4 1 (AAct.enter Try.f7.ntmps [.int .i64 n0, .int .i64 n1], M00)).bind fun s => toF Try.prog Ex 9000 Try.f7 4 2 11 1 (s.1.put (some 21) (.int .i64 2), s.2)).bind fun s => restF Try.prog Ex 9000 Try.f7 11 2 (s.1.put (some 47) (.int .i64 14), s.2)) = true := by kernel_rfl
theorem f_2_15 (n0 n1 : Int) : okB (((toF Try.prog Ex 9000 Try.f7 0 0 4 1 (AAct.enter Try.f7.ntmps [.int .i64 n0, .int .i64 n1], M00)).bind fun s => toF Try.prog Ex 9000 Try.f7 4 2 11 1 (s.1.put (some 21) (.int .i64 2), s.2)).bind fun s => restF Try.prog Ex 9000 Try.f7 11 2 (s.1.put (some 47) (.int .i64 15), s.2)) = true := by kernel_rfl
theorem f_2_16 (n0 n1 : Int) : okB (((toF Try.prog Ex 9000 Try.f7 0 0 4 1 (AAct.enter Try.f7.ntmps [.int .i64 n0, .int .i64 n1], M00)).bind fun s => toF Try.prog Ex 9000 Try.f7 4 2 11 1 (s.1.put (some 21) (.int .i64 2), s.2)).bind fun s => restF Try.prog Ex 9000 Try.f7 11 2 (s.1.put (some 47) (.int .i64 16), s.2)) = true := by kernel_rfl
theorem f_2_17 (n0 n1 : Int) : okB (((toF Try.prog Ex 9000 Try.f7 0 0 4 1 (AAct.enter Try.f7.ntmps [.int .i64 n0, .int .i64 n1], M00)).bind fun s => toF Try.prog Ex 9000 Try.f7 4 2 11 1 (s.1.put (some 21) (.int .i64 2), s.2)).bind fun s => restF Try.prog Ex 9000 Try.f7 11 2 (s.1.put (some 47) (.int .i64 17), s.2)) = true := by kernel_rfl
theorem f_2_18 (n0 n1 : Int) : okB (((toF Try.prog Ex 9000 Try.f7 0 0 4 1 (AAct.enter Try.f7.ntmps [.int .i64 n0, .int .i64 n1], M00)).bind fun s => toF Try.prog Ex 9000 Try.f7 4 2 11 1 (s.1.put (some 21) (.int .i64 2), s.2)).bind fun s => restF Try.prog Ex 9000 Try.f7 11 2 (s.1.put (some 47) (.int .i64 18), s.2)) = true := by kernel_rfl
theorem f_2_19 (n0 n1 : Int) : okB (((toF Try.prog Ex 9000 Try.f7 0 0 4 1 (AAct.enter Try.f7.ntmps [.int .i64 n0, .int .i64 n1], M00)).bind fun s => toF Try.prog Ex 9000 Try.f7 4 2 11 1 (s.1.put (some 21) (.int .i64 2), s.2)).bind fun s => restF Try.prog Ex 9000 Try.f7 11 2 (s.1.put (some 47) (.int .i64 19), s.2)) = true := by kernel_rfl
theorem f_2_20 (n0 n1 : Int) : okB (((toF Try.prog Ex 9000 Try.f7 0 0 4 1 (AAct.enter Try.f7.ntmps [.int .i64 n0, .int .i64 n1], M00)).bind fun s => toF Try.prog Ex 9000 Try.f7 4 2 11 1 (s.1.put (some 21) (.int .i64 2), s.2)).bind fun s => restF Try.prog Ex 9000 Try.f7 11 2 (s.1.put (some 47) (.int .i64 20), s.2)) = true := by kernel_rfl
theorem f_2_21 (n0 n1 : Int) : okB (((toF Try.prog Ex 9000 Try.f7 0 0 4 1 (AAct.enter Try.f7.ntmps [.int .i64 n0, .int .i64 n1], M00)).bind fun s => toF Try.prog Ex 9000 Try.f7 4 2 11 1 (s.1.put (some 21) (.int .i64 2), s.2)).bind fun s => restF Try.prog Ex 9000 Try.f7 11 2 (s.1.put (some 47) (.int .i64 21), s.2)) = true := by kernel_rfl
theorem f_2_22 (n0 n1 : Int) : okB (((toF Try.prog Ex 9000 Try.f7 0 0 4 1 (AAct.enter Try.f7.ntmps [.int .i64 n0, .int .i64 n1], M00)).bind fun s => toF Try.prog Ex 9000 Try.f7 4 2 11 1 (s.1.put (some 21) (.int .i64 2), s.2)).bind fun s => restF Try.prog Ex 9000 Try.f7 11 2 (s.1.put (some 47) (.int .i64 22), s.2)) = true := by kernel_rfl
theorem f_2_23 (n0 n1 : Int) : okB (((toF Try.prog Ex 9000 Try.f7 0 0 4 1 (AAct.enter Try.f7.ntmps [.int .i64 n0, .int .i64 n1], M00)).bind fun s => toF Try.prog Ex 9000 Try.f7 4 2 11 1 (s.1.put (some 21) (.int .i64 2), s.2)).bind fun s => restF Try.prog Ex 9000 Try.f7 11 2 (s.1.put (some 47) (.int .i64 23), s.2)) = true := by kernel_rfl
theorem f_2_24 (n0 n1 : Int) : okB (((toF Try.prog Ex 9000 Try.f7 0 0 4 1 (AAct.enter Try.f7.ntmps [.int .i64 n0, .int .i64 n1], M00)).bind fun s => toF Try.prog Ex 9000 Try.f7 4 2 11 1 (s.1.put (some 21) (.int .i64 2), s.2)).bind fun s => restF Try.prog Ex 9000 Try.f7 11 2 (s.1.put (some 47) (.int .i64 24), s.2)) = true := by kernel_rfl
theorem f_2_25 (n0 n1 : Int) : okB (((toF Try.prog Ex 9000 Try.f7 0 0 4 1 (AAct.enter Try.f7.ntmps [.int .i64 n0, .int .i64 n1], M00)).bind fun s => toF Try.prog Ex 9000 Try.f7 4 2 11 1 (s.1.put (some 21) (.int .i64 2), s.2)).bind fun s => restF Try.prog Ex 9000 Try.f7 11 2 (s.1.put (some 47) (.int .i64 25), s.2)) = true := by kernel_rfl
theorem f_2_26 (n0 n1 : Int) : okB (((toF Try.prog Ex 9000 Try.f7 0 0 4 1 (AAct.enter Try.f7.ntmps [.int .i64 n0, .int .i64 n1], M00)).bind fun s => toF Try.prog Ex 9000 Try.f7 4 2 11 1 (s.1.put (some 21) (.int .i64 2), s.2)).bind fun s => restF Try.prog Ex 9000 Try.f7 11 2 (s.1.put (some 47) (.int .i64 26), s.2)) = true := by kernel_rfl
theorem f_2_27 (n0 n1 : Int) : okB (((toF Try.prog Ex 9000 Try.f7 0 0 4 1 (AAct.enter Try.f7.ntmps [.int .i64 n0, .int .i64 n1], M00)).bind fun s => toF Try.prog Ex 9000 Try.f7 4 2 11 1 (s.1.put (some 21) (.int .i64 2), s.2)).bind fun s => restF Try.prog Ex 9000 Try.f7 11 2 (s.1.put (some 47) (.int .i64 27), s.2)) = true := by kernel_rfl
theorem f_2_28 (n0 n1 : Int) : okB (((toF Try.prog Ex 9000 Try.f7 0 0 4 1 (AAct.enter Try.f7.ntmps [.int .i64 n0, .int .i64 n1], M00)).bind fun s => toF Try.prog Ex 9000 Try.f7 4 2 11 1 (s.1.put (some 21) (.int .i64 2), s.2)).bind fun s => restF Try.prog Ex 9000 Try.f7 11 2 (s.1.put (some 47) (.int .i64 28), s.2)) = true := by kernel_rfl
theorem f_2_29 (n0 n1 : Int) : okB (((toF Try.prog Ex 9000 Try.f7 0 0 4 1 (AAct.enter Try.f7.ntmps [.int .i64 n0, .int .i64 n1], M00)).bind fun s => toF Try.prog Ex 9000 Try.f7 4 2 11 1 (s.1.put (some 21) (.int .i64 2), s.2)).bind fun s => restF Try.prog Ex 9000 Try.f7 11 2 (s.1.put (some 47) (.int .i64 29), s.2)) = true := by kernel_rfl
theorem f_2_30 (n0 n1 : Int) : okB (((toF Try.prog Ex 9000 Try.f7 0 0 4 1 (AAct.enter Try.f7.ntmps [.int .i64 n0, .int .i64 n1], M00)).bind fun s => toF Try.prog Ex 9000 Try.f7 4 2 11 1 (s.1.put (some 21) (.int .i64 2), s.2)).bind fun s => restF Try.prog Ex 9000 Try.f7 11 2 (s.1.put (some 47) (.int .i64 30), s.2)) = true := by kernel_rfl
theorem f_2_31 (n0 n1 : Int) : okB (((toF Try.prog Ex 9000 Try.f7 0 0 4 1 (AAct.enter Try.f7.ntmps [.int .i64 n0, .int .i64 n1], M00)).bind fun s => toF Try.prog Ex 9000 Try.f7 4 2 11 1 (s.1.put (some 21) (.int .i64 2), s.2)).bind fun s => restF Try.prog Ex 9000 Try.f7 11 2 (s.1.put (some 47) (.int .i64 31), s.2)) = true := by kernel_rfl
theorem g_2 (n0 n1 : Int) (s1 : AAct × Store) (h1 : toF Try.prog Ex 9000 Try.f7 0 0 4 1 (AAct.enter Try.f7.ntmps [.int .i64 n0, .int .i64 n1], M00) = some s1) : okB (restF Try.prog Ex 9000 Try.f7 4 2 (s1.1.put (some 21) (.int .i64 2), s1.2)) = true := by
  have h := e_2 n0 n1
  rw [h1, Option.bind_some] at h
  obtain ⟨s2, h2, x2⟩ := Option.map_eq_some_iff.1 h
  rw [rest_bits (m := 31) (d := 47) (x := .tmp 46) (by decide) (by kernel_rfl) h2 x2]
  obtain ⟨y, hy, vy⟩ := bits_le n1 31 (by decide)
  rw [vy]
  have all : ∀ y : Nat, y ≤ 31 → okB (((toF Try.prog Ex 9000 Try.f7 0 0 4 1 (AAct.enter Try.f7.ntmps [.int .i64 n0, .int .i64 n1], M00)).bind fun s => toF Try.prog Ex 9000 Try.f7 4 2 11 1 (s.1.put (some 21) (.int .i64 2), s.2)).bind fun s => restF Try.prog Ex 9000 Try.f7 11 2 (s.1.put (some 47) (.int .i64 y), s.2)) = true := by
    intro y hy
    rcases (show y = 0 ∨ y = 1 ∨ y = 2 ∨ y = 3 ∨ y = 4 ∨ y = 5 ∨ y = 6 ∨ y = 7 ∨ y = 8 ∨ y = 9 ∨ y = 10 ∨ y = 11 ∨ y = 12 ∨ y = 13 ∨ y = 14 ∨ y = 15 ∨ y = 16 ∨ y = 17 ∨ y = 18 ∨ y = 19 ∨ y = 20 ∨ y = 21 ∨ y = 22 ∨ y = 23 ∨ y = 24 ∨ y = 25 ∨ y = 26 ∨ y = 27 ∨ y = 28 ∨ y = 29 ∨ y = 30 ∨ y = 31 by omega) with rfl | rfl | rfl | rfl | rfl | rfl | rfl | rfl | rfl | rfl | rfl | rfl | rfl | rfl | rfl | rfl | rfl | rfl | rfl | rfl | rfl | rfl | rfl | rfl | rfl | rfl | rfl | rfl | rfl | rfl | rfl | rfl
    · exact f_2_0 n0 n1
    · exact f_2_1 n0 n1
    · exact f_2_2 n0 n1
    · exact f_2_3 n0 n1
    · exact f_2_4 n0 n1
    · exact f_2_5 n0 n1
    · exact f_2_6 n0 n1
    · exact f_2_7 n0 n1
    · exact f_2_8 n0 n1
    · exact f_2_9 n0 n1
    · exact f_2_10 n0 n1
    · exact f_2_11 n0 n1
    · exact f_2_12 n0 n1
    · exact f_2_13 n0 n1
    · exact f_2_14 n0 n1
    · exact f_2_15 n0 n1
    · exact f_2_16 n0 n1
    · exact f_2_17 n0 n1
    · exact f_2_18 n0 n1
    · exact f_2_19 n0 n1
    · exact f_2_20 n0 n1
    · exact f_2_21 n0 n1
    · exact f_2_22 n0 n1
    · exact f_2_23 n0 n1
    · exact f_2_24 n0 n1
    · exact f_2_25 n0 n1
    · exact f_2_26 n0 n1
    · exact f_2_27 n0 n1
    · exact f_2_28 n0 n1
    · exact f_2_29 n0 n1
    · exact f_2_30 n0 n1
    · exact f_2_31 n0 n1
  have h3 := all y hy
  rw [h1, Option.bind_some, h2, Option.bind_some] at h3
  exact h3
end sourSteps
end Go.G
