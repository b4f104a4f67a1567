/- PrntLong: its runs, part 0. -/
import Derived.Test.YtpacolplhcfamaaPAW
import Derived.Test.YtpacolplhcfamaaPAbFin
namespace Go.G
open Go.Ab Go.Proofs Go.RowKit
set_option linter.unusedVariables false
set_option maxRecDepth 100000
namespace prntLong
theorem e_0 (n0 n1 : Int) : ((toF Try.prog Ex 9000 Try.f3 0 0 1 2 (AAct.enter Try.f3.ntmps [.int .i64 n0, .int .i64 n1], M00)).bind fun s => toF Try.prog Ex 9000 Try.f3 1 3 1 4 (s.1.put (some 16) (.int .i64 0), s.2)).map (fun s => s.1.eval (.tmp 17)) = some (.int .i64 n1) := by kernel_rfl
theorem f_0_0 (n0 n1 : Int) : okB (((toF Try.prog Ex 9000 Try.f3 0 0 1 2 (AAct.enter Try.f3.ntmps [.int .i64 n0, .int .i64 n1], M00)).bind fun s => toF Try.prog Ex 9000 Try.f3 1 3 1 4 (s.1.put (some 16) (.int .i64 0), s.2)).bind fun s => restF Try.prog Ex 9000 Try.f3 1 5 (s.1.put (some 18) (.int .i64 0), s.2)) = true := by kernel_rfl
theorem f_0_1 (n0 n1 : Int) : okB (((toF Try.prog Ex 9000 Try.f3 0 0 1 2 (AAct.enter Try.f3.ntmps [.int .i64 n0, .int .i64 n1], M00)).bind fun s => toF Try.prog Ex 9000 Try.f3 1 3 1 4 (s.1.put (some 16) (.int .i64 0), s.2)).bind fun s => restF Try.prog Ex 9000 Try.f3 1 5 (s.1.put (some 18) (.int .i64 1), s.2)) = true := by kernel_rfl
theorem f_0_2 (n0 n1 : Int) : okB (((toF Try.prog Ex 9000 Try.f3 0 0 1 2 (AAct.enter Try.f3.ntmps [.int .i64 n0, .int .i64 n1], M00)).bind fun s => toF Try.prog Ex 9000 Try.f3 1 3 1 4 (s.1.put (some 16) (.int .i64 0), s.2)).bind fun s => restF Try.prog Ex 9000 Try.f3 1 5 (s.1.put (some 18) (.int .i64 2), s.2)) = true := by kernel_rfl
theorem f_0_3 (n0 n1 : Int) : okB (((toF Try.prog Ex 9000 Try.f3 0 0 1 2 (AAct.enter Try.f3.ntmps [.int .i64 n0, .int .i64 n1], M00)).bind fun s => toF Try.prog Ex 9000 Try.f3 1 3 1 4 (s.1.put (some 16) (.int .i64 0), s.2)).bind fun s => restF Try.prog Ex 9000 Try.f3 1 5 (s.1.put (some 18) (.int .i64 3), s.2)) = true := by kernel_rfl
theorem f_0_4 (n0 n1 : Int) : okB (((toF Try.prog Ex 9000 Try.f3 0 0 1 2 (AAct.enter Try.f3.ntmps [.int .i64 n0, .int .i64 n1], M00)).bind fun s => toF Try.prog Ex 9000 Try.f3 1 3 1 4 (s.1.put (some 16) (.int .i64 0), s.2)).bind fun s => restF Try.prog Ex 9000 Try.f3 1 5 (s.1.put (some 18) (.int .i64 4), s.2)) = true := by kernel_rfl
theorem f_0_5 (n0 n1 : Int) : okB (((toF Try.prog Ex 9000 Try.f3 0 0 1 2 (AAct.enter Try.f3.ntmps [.int .i64 n0, .int .i64 n1], M00)).bind fun s => toF Try.prog Ex 9000 Try.f3 1 3 1 4 (s.1.put (some 16) (.int .i64 0), s.2)).bind fun s => restF Try.prog Ex 9000 Try.f3 1 5 (s.1.put (some 18) (.int .i64 5), s.2)) = true := by kernel_rfl
theorem f_0_6 (n0 n1 : Int) : okB (((toF Try.prog Ex 9000 Try.f3 0 0 1 2 (AAct.enter Try.f3.ntmps [.int .i64 n0, .int .i64 n1], M00)).bind fun s => toF Try.prog Ex 9000 Try.f3 1 3 1 4 (s.1.put (some 16) (.int .i64 0), s.2)).bind fun s => restF Try.prog Ex 9000 Try.f3 1 5 (s.1.put (some 18) (.int .i64 6), s.2)) = true := by kernel_rfl
theorem f_0_7 (n0 n1 : Int) : okB (((toF Try.prog Ex 9000 Try.f3 0 0 1 2 (AAct.enter Try.f3.ntmps [.int .i64 n0, .int .i64 n1], M00)).bind fun s => toF Try.prog Ex 9000 Try.f3 1 3 1 4 (s.1.put (some 16) (.int .i64 0), s.2)).bind fun s => restF Try.prog Ex 9000 Try.f3 1 5 (s.1.put (some 18) (.int .i64 7), s.2)) = true := by kernel_rfl
theorem f_0_8 (n0 n1 : Int) : okB (((toF Try.prog Ex 9000 Try.f3 0 0 1 2 (AAct.enter Try.f3.ntmps [.int .i64 n0, .int .i64 n1], M00)).bind fun s => toF Try.prog Ex 9000 Try.f3 1 3 1 4 (s.1.put (some 16) (.int .i64 0), s.2)).bind fun s => restF Try.prog Ex 9000 Try.f3 1 5 (s.1.put (some 18) (.int .i64 8), s.2)) = true := by kernel_rfl
theorem f_0_9 (n0 n1 : Int) : okB (((toF Try.prog Ex 9000 Try.f3 0 0 1 2 (AAct.enter Try.f3.ntmps [.int .i64 n0, .int .i64 n1], M00)).bind fun s => toF Try.prog Ex 9000 Try.f3 1 3 1 4 (s.1.put (some 16) (.int .i64 0), s.2)).bind fun s => restF Try.prog Ex 9000 Try.f3 1 5 (s.1.put (some 18) (.int .i64 9), s.2)) = true := by kernel_rfl
theorem f_0_10 (n0 n1 : Int) : okB (((toF Try.prog Ex 9000 Try.f3 0 0 1 2 (AAct.enter Try.f3.ntmps [.int .i64 n0, .int .i64 n1], M00)).bind fun s => toF Try.prog Ex 9000 Try.f3 1 3 1 4 (s.1.put (some 16) (.int .i64 0), s.2)).bind fun s => restF Try.prog Ex 9000 Try.f3 1 5 (s.1.put (some 18) (.int .i64 10), s.2)) = true := by kernel_rfl
theorem f_0_11 (n0 n1 : Int) : okB (((toF Try.prog Ex 9000 Try.f3 0 0 1 2 (AAct.enter Try.f3.ntmps [.int .i64 n0, .int .i64 n1], M00)).bind fun s => toF Try.prog Ex 9000 Try.f3 1 3 1 4 (s.1.put (some 16) (.int .i64 0), s.2)).bind fun s => restF Try.prog Ex 9000 Try.f3 1 5 (s.1.put (some 18) (.int .i64 11), s.2)) = true := by kernel_rfl
theorem f_0_12 (n0 n1 : Int) : okB (((toF Try.prog Ex 9000 Try.f3 0 0 1 2 (AAct.enter Try.f3.ntmps [.int .i64 n0, .int .i64 n1], M00)).bind fun s => toF Try.prog Ex 9000 Try.f3 1 3 1 4 (s.1.put (some 16) (.int .i64 0), s.2)).bind fun s => restF Try.prog Ex 9000 Try.f3 1 5 (s.1.put (some 18) (.int .i64 12), s.2)) = true := by kernel_rfl
theorem f_0_13 (n0 n1 : Int) : okB (((toF Try.prog Ex 9000 Try.f3 0 0 1 2 (AAct.enter Try.f3.ntmps [.int .i64 n0, .int .i64 n1], M00)).bind fun s => toF Try.prog Ex 9000 Try.f3 1 3 1 4 (s.1.put (some 16) (.int .i64 0), s.2)).bind fun s => restF Try.prog Ex 9000 Try.f3 1 5 (s.1.put (some 18) (.int .i64 13), s.2)) = true := by kernel_rfl
theorem f_0_14 (n0 n1 : Int) : okB (((toF Try.prog Ex 9000 Try.f3 0 0 1 2 (AAct.enter Try.f3.ntmps [.int .i64 n0, .int .i64 n1], M00)).bind fun s => toF Try.prog Ex 9000 Try.f3 1 3 1 4 (s.1.put (some 16) (.int .i64 0), s.2)).bind fun s => restF Try.prog Ex 9000 Try.f3 1 5 (s.1.put (some 18) (.int .i64 14), s.2)) = true := by kernel_rfl
theorem f_0_15 (n0 n1 : Int) : okB (((toF Try.prog Ex 9000 Try.f3 0 0 1 2 (AAct.enter Try.f3.ntmps [.int .i64 n0, .int .i64 n1], M00)).bind fun s => toF Try.prog Ex 9000 Try.f3 1 3 1 4 (s.1.put (some 16) (.int .i64 0), s.2)).bind fun s => restF Try.prog Ex 9000 Try.f3 1 5 (s.1.put (some 18) (.int .i64 15), s.2)) = true := by kernel_rfl
theorem g_0 (n0 n1 : Int) (s1 : AAct × Store) (h1 : toF Try.prog Ex 9000 Try.f3 0 0 1 2 (AAct.enter Try.f3.ntmps [.int .i64 n0, .int .i64 n1], M00) = some s1) : okB (restF Try.prog Ex 9000 Try.f3 1 3 (s1.1.put (some 16) (.int .i64 0), s1.2)) = true := by
  have h := e_0 n0 n1
  rw [h1, Option.bind_some] at h
  obtain ⟨s2, h2, x2⟩ := Option.map_eq_some_iff.1 h
  rw [rest_bits (m := 15) (d := 18) (x := .tmp 17) (by decide) (by kernel_rfl) h2 x2]
  obtain ⟨y, hy, vy⟩ := bits_le n1 15 (by decide)
  rw [vy]
  have all : ∀ y : Nat, y ≤ 15 → okB (((toF Try.prog Ex 9000 Try.f3 0 0 1 2 (AAct.enter Try.f3.ntmps [.int .i64 n0, .int .i64 n1], M00)).bind fun s => toF Try.prog Ex 9000 Try.f3 1 3 1 4 (s.1.put (some 16) (.int .i64 0), s.2)).bind fun s => restF Try.prog Ex 9000 Try.f3 1 5 (s.1.put (some 18) (.int .i64 y), s.2)) = true := by
    intro y hy
    rcases (show y = 0 ∨ y = 1 ∨ y = 2 ∨ y = 3 ∨ y = 4 ∨ y = 5 ∨ y = 6 ∨ y = 7 ∨ y = 8 ∨ y = 9 ∨ y = 10 ∨ y = 11 ∨ y = 12 ∨ y = 13 ∨ y = 14 ∨ y = 15 by omega) with rfl | rfl | rfl | rfl | rfl | rfl | rfl | rfl | rfl | rfl | rfl | rfl | rfl | rfl | rfl | rfl
    · exact f_0_0 n0 n1
    · exact f_0_1 n0 n1
    · exact f_0_2 n0 n1
    · exact f_0_3 n0 n1
    · exact f_0_4 n0 n1
    · exact f_0_5 n0 n1
    · exact f_0_6 n0 n1
    · exact f_0_7 n0 n1
    · exact f_0_8 n0 n1
    · exact f_0_9 n0 n1
    · exact f_0_10 n0 n1
    · exact f_0_11 n0 n1
    · exact f_0_12 n0 n1
    · exact f_0_13 n0 n1
    · exact f_0_14 n0 n1
    · exact f_0_15 n0 n1
  have h3 := all y hy
  rw [h1, Option.bind_some, h2, Option.bind_some] at h3
  exact h3
theorem e_3 (n0 n1 : Int) : ((toF Try.prog Ex 9000 Try.f3 0 0 1 2 (AAct.enter Try.f3.ntmps [.int .i64 n0, .int .i64 n1], M00)).bind fun s => toF Try.prog Ex 9000 Try.f3 1 3 1 4 (s.1.put (some 16) (.int .i64 3), s.2)).map (fun s => s.1.eval (.tmp 17)) = some (.int .i64 n1) := by kernel_rfl
theorem f_3_0 (n0 n1 : Int) : okB (((toF Try.prog Ex 9000 Try.f3 0 0 1 2 (AAct.enter Try.f3.ntmps [.int .i64 n0, .int .i64 n1], M00)).bind fun s => toF Try.prog Ex 9000 Try.f3 1 3 1 4 (s.1.put (some 16) (.int .i64 3), s.2)).bind fun s => restF Try.prog Ex 9000 Try.f3 1 5 (s.1.put (some 18) (.int .i64 0), s.2)) = true := by kernel_rfl
theorem f_3_1 (n0 n1 : Int) : okB (((toF Try.prog Ex 9000 Try.f3 0 0 1 2 (AAct.enter Try.f3.ntmps [.int .i64 n0, .int .i64 n1], M00)).bind fun s => toF Try.prog Ex 9000 Try.f3 1 3 1 4 (s.1.put (some 16) (.int .i64 3), s.2)).bind fun s => restF Try.prog Ex 9000 Try.f3 1 5 (s.1.put (some 18) (.int .i64 1), s.2)) = true := by kernel_rfl
theorem f_3_2 (n0 n1 : Int) : okB (((toF Try.prog Ex 9000 Try.f3 0 0 1 2 (AAct.enter Try.f3.ntmps [.int .i64 n0, .int .i64 n1], M00)).bind fun s => toF Try.prog Ex 9000 Try.f3 1 3 1 4 (s.1.put (some 16) (.int .i64 3), s.2)).bind fun s => restF Try.prog Ex 9000 Try.f3 1 5 (s.1.put (some 18) (.int .i64 2), s.2)) = true := by kernel_rfl
theorem f_3_3 (n0 n1 : Int) : okB (((toF Try.prog Ex 9000 Try.f3 0 0 1 2 (AAct.enter Try.f3.ntmps [.int .i64 n0, .int .i64 n1], M00)).bind fun s => toF Try.prog Ex 9000 Try.f3 1 3 1 4 (s.1.put (some 16) (.int .i64 3), s.2)).bind fun s => restF Try.prog Ex 9000 Try.f3 1 5 (s.1.put (some 18) (.int .i64 3), s.2)) = true := by kernel_rfl
theorem f_3_4 (n0 n1 : Int) : okB (((toF Try.prog Ex 9000 Try.f3 0 0 1 2 (AAct.enter Try.f3.ntmps [.int .i64 n0, .int .i64 n1], M00)).bind fun s => toF Try.prog Ex 9000 Try.f3 1 3 1 4 (s.1.put (some 16) (.int .i64 3), s.2)).bind fun s => restF Try.prog Ex 9000 Try.f3 1 5 (s.1.put (some 18) (.int .i64 4), s.2)) = true := by kernel_rfl
theorem f_3_5 (n0 n1 : Int) : okB (((toF Try.prog Ex 9000 Try.f3 0 0 1 2 (AAct.enter Try.f3.ntmps [.int .i64 n0, .int .i64 n1], M00)).bind fun s => toF Try.prog Ex 9000 Try.f3 1 3 1 4 (s.1.put (some 16) (.int .i64 3), s.2)).bind fun s => restF Try.prog Ex 9000 Try.f3 1 5 (s.1.put (some 18) (.int .i64 5), s.2)) = true := by kernel_rfl
theorem f_3_6 (n0 n1 : Int) : okB (((toF Try.prog Ex 9000 Try.f3 0 0 1 2 (AAct.enter Try.f3.ntmps [.int .i64 n0, .int .i64 n1], M00)).bind fun s => toF Try.prog Ex 9000 Try.f3 1 3 1 4 (s.1.put (some 16) (.int .i64 3), s.2)).bind fun s => restF Try.prog Ex 9000 Try.f3 1 5 (s.1.put (some 18) (.int .i64 6), s.2)) = true := by kernel_rfl
theorem f_3_7 (n0 n1 : Int) : okB (((toF Try.prog Ex 9000 Try.f3 0 0 1 2 (AAct.enter Try.f3.ntmps [.int .i64 n0, .int .i64 n1], M00)).bind fun s => toF Try.prog Ex 9000 Try.f3 1 3 1 4 (s.1.put (some 16) (.int .i64 3), s.2)).bind fun s => restF Try.prog Ex 9000 Try.f3 1 5 (s.1.put (some 18) (.int .i64 7), s.2)) = true := by kernel_rfl
theorem f_3_8 (n0 n1 : Int) : okB (((toF Try.prog Ex 9000 Try.f3 0 0 1 2 (AAct.enter Try.f3.ntmps [.int .i64 n0, .int .i64 n1], M00)).bind fun s => toF Try.prog Ex 9000 Try.f3 1 3 1 4 (s.1.put (some 16) (.int .i64 3), s.2)).bind fun s => restF Try.prog Ex 9000 Try.f3 1 5 (s.1.put (some 18) (.int .i64 8), s.2)) = true := by kernel_rfl
theorem f_3_9 (n0 n1 : Int) : okB (((toF Try.prog Ex 9000 Try.f3 0 0 1 2 (AAct.enter Try.f3.ntmps [.int .i64 n0, .int .i64 n1], M00)).bind fun s => toF Try.prog Ex 9000 Try.f3 1 3 1 4 (s.1.put (some 16) (.int .i64 3), s.2)).bind fun s => restF Try.prog Ex 9000 Try.f3 1 5 (s.1.put (some 18) (.int .i64 9), s.2)) = true := by kernel_rfl
theorem f_3_10 (n0 n1 : Int) : okB (((toF Try.prog Ex 9000 Try.f3 0 0 1 2 (AAct.enter Try.f3.ntmps [.int .i64 n0, .int .i64 n1], M00)).bind fun s => toF Try.prog Ex 9000 Try.f3 1 3 1 4 (s.1.put (some 16) (.int .i64 3), s.2)).bind fun s => restF Try.prog Ex 9000 Try.f3 1 5 (s.1.put (some 18) (.int .i64 10), s.2)) = true := by kernel_rfl
theorem f_3_11 (n0 n1 : Int) : okB (((toF Try.prog Ex 9000 Try.f3 0 0 1 2 (AAct.enter Try.f3.ntmps [.int .i64 n0, .int .i64 n1], M00)).bind fun s => toF Try.prog Ex 9000 Try.f3 1 3 1 4 (s.1.put (some 16) (.int .i64 3), s.2)).bind fun s => restF Try.prog Ex 9000 Try.f3 1 5 (s.1.put (some 18) (.int .i64 11), s.2)) = true := by kernel_rfl
theorem f_3_12 (n0 n1 : Int) : okB (((toF Try.prog Ex 9000 Try.f3 0 0 1 2 (AAct.enter Try.f3.ntmps [.int .i64 n0, .int .i64 n1], M00)).bind fun s => toF Try.prog Ex 9000 Try.f3 1 3 1 4 (s.1.put (some 16) (.int .i64 3), s.2)).bind fun s => restF Try.prog Ex 9000 Try.f3 1 5 (s.1.put (some 18) (.int .i64 12), s.2)) = true := by kernel_rfl
theorem f_3_13 (n0 n1 : Int) : okB (((toF Try.prog Ex 9000 Try.f3 0 0 1 2 (AAct.enter Try.f3.ntmps [.int .i64 n0, .int .i64 n1], M00)).bind fun s => toF Try.prog Ex 9000 Try.f3 1 3 1 4 (s.1.put (some 16) (.int .i64 3), s.2)).bind fun s => restF Try.prog Ex 9000 Try.f3 1 5 (s.1.put (some 18) (.int .i64 13), s.2)) = true := by kernel_rfl
theorem f_3_14 (n0 n1 : Int) : okB (((toF Try.prog Ex 9000 Try.f3 0 0 1 2 (AAct.enter Try.f3.ntmps [.int .i64 n0, .int .i64 n1], M00)).bind fun s => toF Try.prog Ex 9000 Try.f3 1 3 1 4 (s.1.put (some 16) (.int .i64 3), s.2)).bind fun s => restF Try.prog Ex 9000 Try.f3 1 5 (s.1.put (some 18) (.int .i64 14), s.2)) = true := by kernel_rfl
theorem f_3_15 (n0 n1 : Int) : okB (((toF Try.prog Ex 9000 Try.f3 0 0 1 2 (AAct.enter Try.f3.ntmps [.int .i64 n0, .int .i64 n1], M00)).bind fun s => toF Try.prog Ex 9000 Try.f3 1 3 1 4 (s.1.put (some 16) (.int .i64 3), s.2)).bind fun s => restF Try.prog Ex 9000 Try.f3 1 5 (s.1.put (some 18) (.int .i64 15), s.2)) = true := by kernel_rfl
theorem g_3 (n0 n1 : Int) (s1 : AAct × Store) (h1 : toF Try.prog Ex 9000 Try.f3 0 0 1 2 (AAct.enter Try.f3.ntmps [.int .i64 n0, .int .i64 n1], M00) = some s1) : okB (restF Try.prog Ex 9000 Try.f3 1 3 (s1.1.put (some 16) (.int .i64 3), s1.2)) = true := by
  have h := e_3 n0 n1
  rw [h1, Option.bind_some] at h
  obtain ⟨s2, h2, x2⟩ := Option.map_eq_some_iff.1 h
  rw [rest_bits (m := 15) (d := 18) (x := .tmp 17) (by decide) (by kernel_rfl) h2 x2]
  obtain ⟨y, hy, vy⟩ := bits_le n1 15 (by decide)
  rw [vy]
  have all : ∀ y : Nat, y ≤ 15 → okB (((toF Try.prog Ex 9000 Try.f3 0 0 1 2 (AAct.enter Try.f3.ntmps [.int .i64 n0, .int .i64 n1], M00)).bind fun s => toF Try.prog Ex 9000 Try.f3 1 3 1 4 (s.1.put (some 16) (.int .i64 3), s.2)).bind fun s => restF Try.prog Ex 9000 Try.f3 1 5 (s.1.put (some 18) (.int .i64 y), s.2)) = true := by
    intro y hy
    rcases (show y = 0 ∨ y = 1 ∨ y = 2 ∨ y = 3 ∨ y = 4 ∨ y = 5 ∨ y = 6 ∨ y = 7 ∨ y = 8 ∨ y = 9 ∨ y = 10 ∨ y = 11 ∨ y = 12 ∨ y = 13 ∨ y = 14 ∨ y = 15 by omega) with rfl | rfl | rfl | rfl | rfl | rfl | rfl | rfl | rfl | rfl | rfl | rfl | rfl | rfl | rfl | rfl
    · exact f_3_0 n0 n1
    · exact f_3_1 n0 n1
    · exact f_3_2 n0 n1
    · exact f_3_3 n0 n1
    · exact f_3_4 n0 n1
    · exact f_3_5 n0 n1
    · exact f_3_6 n0 n1
    · exact f_3_7 n0 n1
    · exact f_3_8 n0 n1
    · exact f_3_9 n0 n1
    · exact f_3_10 n0 n1
    · exact f_3_11 n0 n1
    · exact f_3_12 n0 n1
    · exact f_3_13 n0 n1
    · exact f_3_14 n0 n1
    · exact f_3_15 n0 n1
  have h3 := all y hy
  rw [h1, Option.bind_some, h2, Option.bind_some] at h3
  exact h3
theorem e_6 (n0 n1 : Int) : ((toF Try.prog Ex 9000 Try.f3 0 0 1 2 (AAct.enter Try.f3.ntmps [.int .i64 n0, .int .i64 n1], M00)).bind fun s => toF Try.prog Ex 9000 Try.f3 1 3 1 4 (s.1.put (some 16) (.int .i64 6), s.2)).map (fun s => s.1.eval (.tmp 17)) = some (.int .i64 n1) := by kernel_rfl
theorem f_6_0 (n0 n1 : Int) : okB (((toF Try.prog Ex 9000 Try.f3 0 0 1 2 (AAct.enter Try.f3.ntmps [.int .i64 n0, .int .i64 n1], M00)).bind fun s => toF Try.prog Ex 9000 Try.f3 1 3 1 4 (s.1.put (some 16) (.int .i64 6), s.2)).bind fun s => restF Try.prog Ex 9000 Try.f3 1 5 (s.1.put (some 18) (.int .i64 0), s.2)) = true := by kernel_rfl
theorem f_6_1 (n0 n1 : Int) : okB (((toF Try.prog Ex 9000 Try.f3 0 0 1 2 (AAct.enter Try.f3.ntmps [.int .i64 n0, .int .i64 n1], M00)).bind fun s => toF Try.prog Ex 9000 Try.f3 1 3 1 4 (s.1.put (some 16) (.int .i64 6), s.2)).bind fun s => restF Try.prog Ex 9000 Try.f3 1 5 (s.1.put (some 18) (.int .i64 1), s.2)) = true := by kernel_rfl
theorem f_6_2 (n0 n1 : Int) : okB (((toF Try.prog Ex 9000 Try.f3 0 0 1 2 (AAct.enter Try.f3.ntmps [.int .i64 n0, .int .i64 n1], M00)).bind fun s => toF Try.prog Ex 9000 Try.f3 1 3 1 4 (s.1.put (some 16) (.int .i64 6), s.2)).bind fun s => restF Try.prog Ex 9000 Try.f3 1 5 (s.1.put (some 18) (.int .i64 2), s.2)) = true := by kernel_rfl
theorem f_6_3 (n0 n1 : Int) : okB (((toF Try.prog Ex 9000 Try.f3 0 0 1 2 (AAct.enter Try.f3.ntmps [.int .i64 n0, .int .i64 n1], M00)).bind fun s => toF Try.prog Ex 9000 Try.f3 1 3 1 4 (s.1.put (some 16) (.int .i64 6), s.2)).bind fun s => restF Try.prog Ex 9000 Try.f3 1 5 (s.1.put (some 18) (.int .i64 3), s.2)) = true := by kernel_rfl
theorem f_6_4 (n0 n1 : Int) : okB (((toF Try.prog Ex 9000 Try.f3 0 0 1 2 (AAct.enter Try.f3.ntmps [.int .i64 n0, .int .i64 n1], M00)).bind fun s => toF Try.prog Ex 9000 Try.f3 1 3 1 4 (s.1.put (some 16) (.int .i64 6), s.2)).bind fun s => restF Try.prog Ex 9000 Try.f3 1 5 (s.1.put (some 18) (.int .i64 4), s.2)) = true := by kernel_rfl
theorem f_6_5 (n0 n1 : Int) : okB (((toF Try.prog Ex 9000 Try.f3 0 0 1 2 (AAct.enter Try.f3.ntmps [.int .i64 n0, .int .i64 n1], M00)).bind fun s => toF Try.prog Ex 9000 Try.f3 1 3 1 4 (s.1.put (some 16) (.int .i64 6), s.2)).bind fun s => restF Try.prog Ex 9000 Try.f3 1 5 (s.1.put (some 18) (.int .i64 5), s.2)) = true := by kernel_rfl
theorem f_6_6 (n0 n1 : Int) : okB (((toF Try.prog Ex 9000 Try.f3 0 0 1 2 (AAct.enter Try.f3.ntmps [.int .i64 n0, .int .i64 n1], M00)).bind fun s => toF Try.prog Ex 9000 Try.f3 1 3 1 4 (s.1.put (some 16) (.int .i64 6), s.2)).bind fun s => restF Try.prog Ex 9000 Try.f3 1 5 (s.1.put (some 18) (.int .i64 6), s.2)) = true := by kernel_rfl
theorem f_6_7 (n0 n1 : Int) : okB (((toF Try.prog Ex 9000 Try.f3 0 0 1 2 (AAct.enter Try.f3.ntmps [.int .i64 n0, .int .i64 n1], M00)).bind fun s => toF Try.prog Ex 9000 Try.f3 1 3 1 4 (s.1.put (some 16) (.int .i64 6), s.2)).bind fun s => restF Try.prog Ex 9000 Try.f3 1 5 (s.1.put (some 18) (.int .i64 7), s.2)) = true := by kernel_rfl
theorem f_6_8 (n0 n1 : Int) : okB (((toF Try.prog Ex 9000 Try.f3 0 0 1 2 (AAct.enter Try.f3.ntmps [.int .i64 n0, .int .i64 n1], M00)).bind fun s => toF Try.prog Ex 9000 Try.f3 1 3 1 4 (s.1.put (some 16) (.int .i64 6), s.2)).bind fun s => restF Try.prog Ex 9000 Try.f3 1 5 (s.1.put (some 18) (.int .i64 8), s.2)) = true := by kernel_rfl
theorem f_6_9 (n0 n1 : Int) : okB (((toF Try.prog Ex 9000 Try.f3 0 0 1 2 (AAct.enter Try.f3.ntmps [.int .i64 n0, .int .i64 n1], M00)).bind fun s => toF Try.prog Ex 9000 Try.f3 1 3 1 4 (s.1.put (some 16) (.int .i64 6), s.2)).bind fun s => restF Try.prog Ex 9000 Try.f3 1 5 (s.1.put (some 18) (.int .i64 9), s.2)) = true := by kernel_rfl
theorem f_6_10 (n0 n1 : Int) : okB (((toF Try.prog Ex 9000 Try.f3 0 0 1 2 (AAct.enter Try.f3.ntmps [.int .i64 n0, .int .i64 n1], M00)).bind fun s => toF Try.prog Ex 9000 Try.f3 1 3 1 4 (s.1.put (some 16) (.int .i64 6), s.2)).bind fun s => restF Try.prog Ex 9000 Try.f3 1 5 (s.1.put (some 18) (.int .i64 10), s.2)) = true := by kernel_rfl
theorem f_6_11 (n0 n1 : Int) : okB (((toF Try.prog Ex 9000 Try.f3 0 0 1 2 (AAct.enter Try.f3.ntmps [.int .i64 n0, .int .i64 n1], M00)).bind fun s => toF Try.prog Ex 9000 Try.f3 1 3 1 4 (s.1.put (some 16) (.int .i64 6), s.2)).bind fun s => restF Try.prog Ex 9000 Try.f3 1 5 (s.1.put (some 18) (.int .i64 11), s.2)) = true := by kernel_rfl
theorem f_6_12 (n0 n1 : Int) : okB (((toF Try.prog Ex 9000 Try.f3 0 0 1 2 (AAct.enter Try.f3.ntmps [.int .i64 n0, .int .i64 n1], M00)).bind fun s => toF Try.prog Ex 9000 Try.f3 1 3 1 4 (s.1.put (some 16) (.int .i64 6), s.2)).bind fun s => restF Try.prog Ex 9000 Try.f3 1 5 (s.1.put (some 18) (.int .i64 12), s.2)) = true := by kernel_rfl
theorem f_6_13 (n0 n1 : Int) : okB (((toF Try.prog Ex 9000 Try.f3 0 0 1 2 (AAct.enter Try.f3.ntmps [.int .i64 n0, .int .i64 n1], M00)).bind fun s => toF Try.prog Ex 9000 Try.f3 1 3 1 4 (s.1.put (some 16) (.int .i64 6), s.2)).bind fun s => restF Try.prog Ex 9000 Try.f3 1 5 (s.1.put (some 18) (.int .i64 13), s.2)) = true := by kernel_rfl
theorem f_6_14 (n0 n1 : Int) : okB (((toF Try.prog Ex 9000 Try.f3 0 0 1 2 (AAct.enter Try.f3.ntmps [.int .i64 n0, .int .i64 n1], M00)).bind fun s => toF Try.prog Ex 9000 Try.f3 1 3 1 4 (s.1.put (some 16) (.int .i64 6), s.2)).bind fun s => restF Try.prog Ex 9000 Try.f3 1 5 (s.1.put (some 18) (.int .i64 14), s.2)) = true := by kernel_rfl
theorem f_6_15 (n0 n1 : Int) : okB (((toF Try.prog Ex 9000 Try.f3 0 0 1 2 (AAct.enter Try.f3.ntmps [.int .i64 n0, .int .i64 n1], M00)).bind fun s => toF Try.prog Ex 9000 Try.f3 1 3 1 4 (s.1.put (some 16) (.int .i64 6), s.2)).bind fun s => restF Try.prog Ex 9000 Try.f3 1 5 (s.1.put (some 18) (.int .i64 15), s.2)) = true := by kernel_rfl
theorem g_6 (n0 n1 : Int) (s1 : AAct × Store) (h1 : toF Try.prog Ex 9000 Try.f3 0 0 1 2 (AAct.enter Try.f3.ntmps [.int .i64 n0, .int .i64 n1], M00) = some s1) : okB (restF Try.prog Ex 9000 Try.f3 1 3 (s1.1.put (some 16) (.int .i64 6), s1.2)) = true := by
  have h := e_6 n0 n1
  rw [h1, Option.bind_some] at h
  obtain ⟨s2, h2, x2⟩ := Option.map_eq_some_iff.1 h
  rw [rest_bits (m := 15) (d := 18) (x := .tmp 17) (by decide) (by kernel_rfl) h2 x2]
  obtain ⟨y, hy, vy⟩ := bits_le n1 15 (by decide)
  rw [vy]
  have all : ∀ y : Nat, y ≤ 15 → okB (((toF Try.prog Ex 9000 Try.f3 0 0 1 2 (AAct.enter Try.f3.ntmps [.int .i64 n0, .int .i64 n1], M00)).bind fun s => toF Try.prog Ex 9000 Try.f3 1 3 1 4 (s.1.put (some 16) (.int .i64 6), s.2)).bind fun s => restF Try.prog Ex 9000 Try.f3 1 5 (s.1.put (some 18) (.int .i64 y), s.2)) = true := by
    intro y hy
    rcases (show y = 0 ∨ y = 1 ∨ y = 2 ∨ y = 3 ∨ y = 4 ∨ y = 5 ∨ y = 6 ∨ y = 7 ∨ y = 8 ∨ y = 9 ∨ y = 10 ∨ y = 11 ∨ y = 12 ∨ y = 13 ∨ y = 14 ∨ y = 15 by omega) with rfl | rfl | rfl | rfl | rfl | rfl | rfl | rfl | rfl | rfl | rfl | rfl | rfl | rfl | rfl | rfl
    · exact f_6_0 n0 n1
    · exact f_6_1 n0 n1
    · exact f_6_2 n0 n1
    · exact f_6_3 n0 n1
    · exact f_6_4 n0 n1
    · exact f_6_5 n0 n1
    · exact f_6_6 n0 n1
    · exact f_6_7 n0 n1
    · exact f_6_8 n0 n1
    · exact f_6_9 n0 n1
    · exact f_6_10 n0 n1
    · exact f_6_11 n0 n1
    · exact f_6_12 n0 n1
    · exact f_6_13 n0 n1
    · exact f_6_14 n0 n1
    · exact f_6_15 n0 n1
  have h3 := all y hy
  rw [h1, Option.bind_some, h2, Option.bind_some] at h3
  exact h3
end prntLong
end Go.G
