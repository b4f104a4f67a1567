/- PrntLong: its runs, part 1. -/
import Derived.Test.YtpacolplhcfamaaPAW
import Derived.Test.YtpacolplhcfamaaPAbFin
namespace Go.G
open Go.Ab Go.Proofs Go.RowKit
set_option linter.unusedVariables false
set_option maxRecDepth 100000
namespace prntLong
theorem e_1 (n0 n1 : Int) : ((toF Try.prog Ex 9000 Try.f3 0 0 1 2 (AAct.enter Try.f3.ntmps [.int .i64 n0, .int .i64 n1], M00)).bind fun s => toF Try.prog Ex 9000 Try.f3 1 3 1 4 (s.1.put (some 16) (.int .i64 1), s.2)).map (fun s => s.1.eval (.tmp 17)) = some (.int .i64 n1) := by kernel_rfl
theorem f_1_0 (n0 n1 : Int) : okB (((toF Try.prog Ex 9000 Try.f3 0 0 1 2 (AAct.enter Try.f3.ntmps [.int .i64 n0, .int .i64 n1], M00)).bind fun s => toF Try.prog Ex 9000 Try.f3 1 3 1 4 (s.1.put (some 16) (.int .i64 1), s.2)).bind fun s => restF Try.prog Ex 9000 Try.f3 1 5 (s.1.put (some 18) (.int .i64 0), s.2)) = true := by kernel_rfl
theorem f_1_1 (n0 n1 : Int) : okB (((toF Try.prog Ex 9000 Try.f3 0 0 1 2 (AAct.enter Try.f3.ntmps [.int .i64 n0, .int .i64 n1], M00)).bind fun s => toF Try.prog Ex 9000 Try.f3 1 3 1 4 (s.1.put (some 16) (.int .i64 1), s.2)).bind fun s => restF Try.prog Ex 9000 Try.f3 1 5 (s.1.put (some 18) (.int .i64 1), s.2)) = true := by kernel_rfl
theorem f_1_2 (n0 n1 : Int) : okB (((toF Try.prog Ex 9000 Try.f3 0 0 1 2 (AAct.enter Try.f3.ntmps [.int .i64 n0, .int .i64 n1], M00)).bind fun s => toF Try.prog Ex 9000 Try.f3 1 3 1 4 (s.1.put (some 16) (.int .i64 1), s.2)).bind fun s => restF Try.prog Ex 9000 Try.f3 1 5 (s.1.put (some 18) (.int .i64 2), s.2)) = true := by kernel_rfl
theorem f_1_3 (n0 n1 : Int) : okB (((toF Try.prog Ex 9000 Try.f3 0 0 1 2 (AAct.enter Try.f3.ntmps [.int .i64 n0, .int .i64 n1], M00)).bind fun s => toF Try.prog Ex 9000 Try.f3 1 3 1 4 (s.1.put (some 16) (.int .i64 1), s.2)).bind fun s => restF Try.prog Ex 9000 Try.f3 1 5 (s.1.put (some 18) (.int .i64 3), s.2)) = true := by kernel_rfl
theorem f_1_4 (n0 n1 : Int) : okB (((toF Try.prog Ex 9000 Try.f3 0 0 1 2 (AAct.enter Try.f3.ntmps [.int .i64 n0, .int .i64 n1], M00)).bind fun s => toF Try.prog Ex 9000 Try.f3 1 3 1 4 (s.1.put (some 16) (.int .i64 1), s.2)).bind fun s => restF Try.prog Ex 9000 Try.f3 1 5 (s.1.put (some 18) (.int .i64 4), s.2)) = true := by kernel_rfl
theorem f_1_5 (n0 n1 : Int) : okB (((toF Try.prog Ex 9000 Try.f3 0 0 1 2 (AAct.enter Try.f3.ntmps [.int .i64 n0, .int .i64 n1], M00)).bind fun s => toF Try.prog Ex 9000 Try.f3 1 3 1 4 (s.1.put (some 16) (.int .i64 1), s.2)).bind fun s => restF Try.prog Ex 9000 Try.f3 1 5 (s.1.put (some 18) (.int .i64 5), s.2)) = true := by kernel_rfl
theorem f_1_6 (n0 n1 : Int) : okB (((toF Try.prog Ex 9000 Try.f3 0 0 1 2 (AAct.enter Try.f3.ntmps [.int .i64 n0, .int .i64 n1], M00)).bind fun s => toF Try.prog Ex 9000 Try.f3 1 3 1 4 (s.1.put (some 16) (.int .i64 1), s.2)).bind fun s => restF Try.prog Ex 9000 Try.f3 1 5 (s.1.put (some 18) (.int .i64 6), s.2)) = true := by kernel_rfl
theorem f_1_7 (n0 n1 : Int) : okB (((toF Try.prog Ex 9000 Try.f3 0 0 1 2 (AAct.enter Try.f3.ntmps [.int .i64 n0, .int .i64 n1], M00)).bind fun s => toF Try.prog Ex 9000 Try.f3 1 3 1 4 (s.1.put (some 16) (.int .i64 1), s.2)).bind fun s => restF Try.prog Ex 9000 Try.f3 1 5 (s.1.put (some 18) (.int .i64 7), s.2)) = true := by kernel_rfl
theorem f_1_8 (n0 n1 : Int) : okB (((toF Try.prog Ex 9000 Try.f3 0 0 1 2 (AAct.enter Try.f3.ntmps [.int .i64 n0, .int .i64 n1], M00)).bind fun s => toF Try.prog Ex 9000 Try.f3 1 3 1 4 (s.1.put (some 16) (.int .i64 1), s.2)).bind fun s => restF Try.prog Ex 9000 Try.f3 1 5 (s.1.put (some 18) (.int .i64 8), s.2)) = true := by kernel_rfl
theorem f_1_9 (n0 n1 : Int) : okB (((toF Try.prog Ex 9000 Try.f3 0 0 1 2 (AAct.enter Try.f3.ntmps [.int .i64 n0, .int .i64 n1], M00)).bind fun s => toF Try.prog Ex 9000 Try.f3 1 3 1 4 (s.1.put (some 16) (.int .i64 1), s.2)).bind fun s => restF Try.prog Ex 9000 Try.f3 1 5 (s.1.put (some 18) (.int .i64 9), s.2)) = true := by kernel_rfl
theorem f_1_10 (n0 n1 : Int) : okB (((toF Try.prog Ex 9000 Try.f3 0 0 1 2 (AAct.enter Try.f3.ntmps [.int .i64 n0, .int .i64 n1], M00)).bind fun s => toF Try.prog Ex 9000 Try.f3 1 3 1 4 (s.1.put (some 16) (.int .i64 1), s.2)).bind fun s => restF Try.prog Ex 9000 Try.f3 1 5 (s.1.put (some 18) (.int .i64 10), s.2)) = true := by kernel_rfl
theorem f_1_11 (n0 n1 : Int) : okB (((toF Try.prog Ex 9000 Try.f3 0 0 1 2 (AAct.enter Try.f3.ntmps [.int .i64 n0, .int .i64 n1], M00)).bind fun s => toF Try.prog Ex 9000 Try.f3 1 3 1 4 (s.1.put (some 16) (.int .i64 1), s.2)).bind fun s => restF Try.prog Ex 9000 Try.f3 1 5 (s.1.put (some 18) (.int .i64 11), s.2)) = true := by kernel_rfl
theorem f_1_12 (n0 n1 : Int) : okB (((toF Try.prog Ex 9000 Try.f3 0 0 1 2 (AAct.enter Try.f3.ntmps [.int .i64 n0, .int .i64 n1], M00)).bind fun s => toF Try.prog Ex 9000 Try.f3 1 3 1 4 (s.1.put (some 16) (.int .i64 1), s.2)).bind fun s => restF Try.prog Ex 9000 Try.f3 1 5 (s.1.put (some 18) (.int .i64 12), s.2)) = true := by kernel_rfl
theorem f_1_13 (n0 n1 : Int) : okB (((toF Try.prog Ex 9000 Try.f3 0 0 1 2 (AAct.enter Try.f3.ntmps [.int .i64 n0, .int .i64 n1], M00)).bind fun s => toF Try.prog Ex 9000 Try.f3 1 3 1 4 (s.1.put (some 16) (.int .i64 1), s.2)).bind fun s => restF Try.prog Ex 9000 Try.f3 1 5 (s.1.put (some 18) (.int .i64 13), s.2)) = true := by kernel_rfl
theorem f_1_14 (n0 n1 : Int) : okB (((toF Try.prog Ex 9000 Try.f3 0 0 1 2 (AAct.enter Try.f3.ntmps [.int .i64 n0, .int .i64 n1], M00)).bind fun s => toF Try.prog Ex 9000 Try.f3 1 3 1 4 (s.1.put (some 16) (.int .i64 1), s.2)).bind fun s => restF Try.prog Ex 9000 Try.f3 1 5 (s.1.put (some 18) (.int .i64 14), s.2)) = true := by kernel_rfl
theorem f_1_15 (n0 n1 : Int) : okB (((toF Try.prog Ex 9000 Try.f3 0 0 1 2 (AAct.enter Try.f3.ntmps [.int .i64 n0, .int .i64 n1], M00)).bind fun s => toF Try.prog Ex 9000 Try.f3 1 3 1 4 (s.1.put (some 16) (.int .i64 1), s.2)).bind fun s => restF Try.prog Ex 9000 Try.f3 1 5 (s.1.put (some 18) (.int .i64 15), s.2)) = true := by kernel_rfl
theorem g_1 (n0 n1 : Int) (s1 : AAct × Store) (h1 : toF Try.prog Ex 9000 Try.f3 0 0 1 2 (AAct.enter Try.f3.ntmps [.int .i64 n0, .int .i64 n1], M00) = some s1) : okB (restF Try.prog Ex 9000 Try.f3 1 3 (s1.1.put (some 16) (.int .i64 1), s1.2)) = true := by
  have h := e_1 n0 n1
  rw [h1, Option.bind_some] at h
  obtain ⟨s2, h2, x2⟩ := Option.map_eq_some_iff.1 h
  rw [rest_bits (m := 15) (d := 18) (x := .tmp 17) (by decide) (by kernel_rfl) h2 x2]
  obtain ⟨y, hy, vy⟩ := bits_le n1 15 (by decide)
  rw [vy]
  have all : ∀ y : Nat, y ≤ 15 → okB (((toF Try.prog Ex 9000 Try.f3 0 0 1 2 (AAct.enter Try.f3.ntmps [.int .i64 n0, .int .i64 n1], M00)).bind fun s => toF Try.prog Ex 9000 Try.f3 1 3 1 4 (s.1.put (some 16) (.int .i64 1), s.2)).bind fun s => restF Try.prog Ex 9000 Try.f3 1 5 (s.1.put (some 18) (.int .i64 y), s.2)) = true := by
    intro y hy
    rcases (show y = 0 ∨ y = 1 ∨ y = 2 ∨ y = 3 ∨ y = 4 ∨ y = 5 ∨ y = 6 ∨ y = 7 ∨ y = 8 ∨ y = 9 ∨ y = 10 ∨ y = 11 ∨ y = 12 ∨ y = 13 ∨ y = 14 ∨ y = 15 by omega) with rfl | rfl | rfl | rfl | rfl | rfl | rfl | rfl | rfl | rfl | rfl | rfl | rfl | rfl | rfl | rfl
    · exact f_1_0 n0 n1
    · exact f_1_1 n0 n1
    · exact f_1_2 n0 n1
    · exact f_1_3 n0 n1
    · exact f_1_4 n0 n1
    · exact f_1_5 n0 n1
    · exact f_1_6 n0 n1
    · exact f_1_7 n0 n1
    · exact f_1_8 n0 n1
    · exact f_1_9 n0 n1
    · exact f_1_10 n0 n1
    · exact f_1_11 n0 n1
    · exact f_1_12 n0 n1
    · exact f_1_13 n0 n1
    · exact f_1_14 n0 n1
    · exact f_1_15 n0 n1
  have h3 := all y hy
  rw [h1, Option.bind_some, h2, Option.bind_some] at h3
  exact h3
theorem e_4 (n0 n1 : Int) : ((toF Try.prog Ex 9000 Try.f3 0 0 1 2 (AAct.enter Try.f3.ntmps [.int .i64 n0, .int .i64 n1], M00)).bind fun s => toF Try.prog Ex 9000 Try.f3 1 3 1 4 (s.1.put (some 16) (.int .i64 4), s.2)).map (fun s => s.1.eval (.tmp 17)) = some (.int .i64 n1) := by kernel_rfl
theorem f_4_0 (n0 n1 : Int) : okB (((toF Try.prog Ex 9000 Try.f3 0 0 1 2 (AAct.enter Try.f3.ntmps [.int .i64 n0, .int .i64 n1], M00)).bind fun s => toF Try.prog Ex 9000 Try.f3 1 3 1 4 (s.1.put (some 16) (.int .i64 4), s.2)).bind fun s => restF Try.prog Ex 9000 Try.f3 1 5 (s.1.put (some 18) (.int .i64 0), s.2)) = true := by kernel_rfl
theorem f_4_1 (n0 n1 : Int) : okB (((toF Try.prog Ex 9000 Try.f3 0 0 1 2 (AAct.enter Try.f3.ntmps [.int .i64 n0, .int .i64 n1], M00)).bind fun s => toF Try.prog Ex 9000 Try.f3 1 3 1 4 (s.1.put (some 16) (.int .i64 4), s.2)).bind fun s => restF Try.prog Ex 9000 Try.f3 1 5 (s.1.put (some 18) (.int .i64 1), s.2)) = true := by kernel_rfl
theorem f_4_2 (n0 n1 : Int) : okB (((toF Try.prog Ex 9000 Try.f3 0 0 1 2 (AAct.enter Try.f3.ntmps [.int .i64 n0, .int .i64 n1], M00)).bind fun s => toF Try.prog Ex 9000 Try.f3 1 3 1 4 (s.1.put (some 16) (.int .i64 4), s.2)).bind fun s => restF Try.prog Ex 9000 Try.f3 1 5 (s.1.put (some 18) (.int .i64 2), s.2)) = true := by kernel_rfl
theorem f_4_3 (n0 n1 : Int) : okB (((toF Try.prog Ex 9000 Try.f3 0 0 1 2 (AAct.enter Try.f3.ntmps [.int .i64 n0, .int .i64 n1], M00)).bind fun s => toF Try.prog Ex 9000 Try.f3 1 3 1 4 (s.1.put (some 16) (.int .i64 4), s.2)).bind fun s => restF Try.prog Ex 9000 Try.f3 1 5 (s.1.put (some 18) (.int .i64 3), s.2)) = true := by kernel_rfl
theorem f_4_4 (n0 n1 : Int) : okB (((toF Try.prog Ex 9000 Try.f3 0 0 1 2 (AAct.enter Try.f3.ntmps [.int .i64 n0, .int .i64 n1], M00)).bind fun s => toF Try.prog Ex 9000 Try.f3 1 3 1 4 (s.1.put (some 16) (.int .i64 4), s.2)).bind fun s => restF Try.prog Ex 9000 Try.f3 1 5 (s.1.put (some 18) (.int .i64 4), s.2)) = true := by kernel_rfl
theorem f_4_5 (n0 n1 : Int) : okB (((toF Try.prog Ex 9000 Try.f3 0 0 1 2 (AAct.enter Try.f3.ntmps [.int .i64 n0, .int .i64 n1], M00)).bind fun s => toF Try.prog Ex 9000 Try.f3 1 3 1 4 (s.1.put (some 16) (.int .i64 4), s.2)).bind fun s => restF Try.prog Ex 9000 Try.f3 1 5 (s.1.put (some 18) (.int .i64 5), s.2)) = true := by kernel_rfl
theorem f_4_6 (n0 n1 : Int) : okB (((toF Try.prog Ex 9000 Try.f3 0 0 1 2 (AAct.enter Try.f3.ntmps [.int .i64 n0, .int .i64 n1], M00)).bind fun s => toF Try.prog Ex 9000 Try.f3 1 3 1 4 (s.1.put (some 16) (.int .i64 4), s.2)).bind fun s => restF Try.prog Ex 9000 Try.f3 1 5 (s.1.put (some 18) (.int .i64 6), s.2)) = true := by kernel_rfl
theorem f_4_7 (n0 n1 : Int) : okB (((toF Try.prog Ex 9000 Try.f3 0 0 1 2 (AAct.enter Try.f3.ntmps [.int .i64 n0, .int .i64 n1], M00)).bind fun s => toF Try.prog Ex 9000 Try.f3 1 3 1 4 (s.1.put (some 16) (.int .i64 4), s.2)).bind fun s => restF Try.prog Ex 9000 Try.f3 1 5 (s.1.put (some 18) (.int .i64 7), s.2)) = true := by kernel_rfl
theorem f_4_8 (n0 n1 : Int) : okB (((toF Try.prog Ex 9000 Try.f3 0 0 1 2 (AAct.enter Try.f3.ntmps [.int .i64 n0, .int .i64 n1], M00)).bind fun s => toF Try.prog Ex 9000 Try.f3 1 3 1 4 (s.1.put (some 16) (.int .i64 4), s.2)).bind fun s => restF Try.prog Ex 9000 Try.f3 1 5 (s.1.put (some 18) (.int .i64 8), s.2)) = true := by kernel_rfl
theorem f_4_9 (n0 n1 : Int) : okB (((toF Try.prog Ex 9000 Try.f3 0 0 1 2 (AAct.enter Try.f3.ntmps [.int .i64 n0, .int .i64 n1], M00)).bind fun s => toF Try.prog Ex 9000 Try.f3 1 3 1 4 (s.1.put (some 16) (.int .i64 4), s.2)).bind fun s => restF Try.prog Ex 9000 Try.f3 1 5 (s.1.put (some 18) (.int .i64 9), s.2)) = true := by kernel_rfl
theorem f_4_10 (n0 n1 : Int) : okB (((toF Try.prog Ex 9000 Try.f3 0 0 1 2 (AAct.enter Try.f3.ntmps [.int .i64 n0, .int .i64 n1], M00)).bind fun s => toF Try.prog Ex 9000 Try.f3 1 3 1 4 (s.1.put (some 16) (.int .i64 4), s.2)).bind fun s => restF Try.prog Ex 9000 Try.f3 1 5 (s.1.put (some 18) (.int .i64 10), s.2)) = true := by kernel_rfl
theorem f_4_11 (n0 n1 : Int) : okB (((toF Try.prog Ex 9000 Try.f3 0 0 1 2 (AAct.enter Try.f3.ntmps [.int .i64 n0, .int .i64 n1], M00)).bind fun s => toF Try.prog Ex 9000 Try.f3 1 3 1 4 (s.1.put (some 16) (.int .i64 4), s.2)).bind fun s => restF Try.prog Ex 9000 Try.f3 1 5 (s.1.put (some 18) (.int .i64 11), s.2)) = true := by kernel_rfl
theorem f_4_12 (n0 n1 : Int) : okB (((toF Try.prog Ex 9000 Try.f3 0 0 1 2 (AAct.enter Try.f3.ntmps [.int .i64 n0, .int .i64 n1], M00)).bind fun s => toF Try.prog Ex 9000 Try.f3 1 3 1 4 (s.1.put (some 16) (.int .i64 4), s.2)).bind fun s => restF Try.prog Ex 9000 Try.f3 1 5 (s.1.put (some 18) (.int .i64 12), s.2)) = true := by kernel_rfl
theorem f_4_13 (n0 n1 : Int) : okB (((toF Try.prog Ex 9000 Try.f3 0 0 1 2 (AAct.enter Try.f3.ntmps [.int .i64 n0, .int .i64 n1], M00)).bind fun s => toF Try.prog Ex 9000 Try.f3 1 3 1 4 (s.1.put (some 16) (.int .i64 4), s.2)).bind fun s => restF Try.prog Ex 9000 Try.f3 1 5 (s.1.put (some 18) (.int .i64 13), s.2)) = true := by kernel_rfl
theorem f_4_14 (n0 n1 : Int) : okB (((toF Try.prog Ex 9000 Try.f3 0 0 1 2 (AAct.enter Try.f3.ntmps [.int .i64 n0, .int .i64 n1], M00)).bind fun s => toF Try.prog Ex 9000 Try.f3 1 3 1 4 (s.1.put (some 16) (.int .i64 4), s.2)).bind fun s => restF Try.prog Ex 9000 Try.f3 1 5 (s.1.put (some 18) (.int .i64 14), s.2)) = true := by kernel_rfl
theorem f_4_15 (n0 n1 : Int) : okB (((toF Try.prog Ex 9000 Try.f3 0 0 1 2 (AAct.enter Try.f3.ntmps [.int .i64 n0, .int .i64 n1], M00)).bind fun s => toF Try.prog Ex 9000 Try.f3 1 3 1 4 (s.1.put (some 16) (.int .i64 4), s.2)).bind fun s => restF Try.prog Ex 9000 Try.f3 1 5 (s.1.put (some 18) (.int .i64 15), s.2)) = true := by kernel_rfl
theorem g_4 (n0 n1 : Int) (s1 : AAct × Store) (h1 : toF Try.prog Ex 9000 Try.f3 0 0 1 2 (AAct.enter Try.f3.ntmps [.int .i64 n0, .int .i64 n1], M00) = some s1) : okB (restF Try.prog Ex 9000 Try.f3 1 3 (s1.1.put (some 16) (.int .i64 4), s1.2)) = true := by
  have h := e_4 n0 n1
  rw [h1, Option.bind_some] at h
  obtain ⟨s2, h2, x2⟩ := Option.map_eq_some_iff.1 h
  rw [rest_bits (m := 15) (d := 18) (x := .tmp 17) (by decide) (by kernel_rfl) h2 x2]
  obtain ⟨y, hy, vy⟩ := bits_le n1 15 (by decide)
  rw [vy]
  have all : ∀ y : Nat, y ≤ 15 → okB (((toF Try.prog Ex 9000 Try.f3 0 0 1 2 (AAct.enter Try.f3.ntmps [.int .i64 n0, .int .i64 n1], M00)).bind fun s => toF Try.prog Ex 9000 Try.f3 1 3 1 4 (s.1.put (some 16) (.int .i64 4), s.2)).bind fun s => restF Try.prog Ex 9000 Try.f3 1 5 (s.1.put (some 18) (.int .i64 y), s.2)) = true := by
    intro y hy
    rcases (show y = 0 ∨ y = 1 ∨ y = 2 ∨ y = 3 ∨ y = 4 ∨ y = 5 ∨ y = 6 ∨ y = 7 ∨ y = 8 ∨ y = 9 ∨ y = 10 ∨ y = 11 ∨ y = 12 ∨ y = 13 ∨ y = 14 ∨ y = 15 by omega) with rfl | rfl | rfl | rfl | rfl | rfl | rfl | rfl | rfl | rfl | rfl | rfl | rfl | rfl | rfl | rfl
    · exact f_4_0 n0 n1
    · exact f_4_1 n0 n1
    · exact f_4_2 n0 n1
    · exact f_4_3 n0 n1
    · exact f_4_4 n0 n1
    · exact f_4_5 n0 n1
    · exact f_4_6 n0 n1
    · exact f_4_7 n0 n1
    · exact f_4_8 n0 n1
    · exact f_4_9 n0 n1
    · exact f_4_10 n0 n1
    · exact f_4_11 n0 n1
    · exact f_4_12 n0 n1
    · exact f_4_13 n0 n1
    · exact f_4_14 n0 n1
    · exact f_4_15 n0 n1
  have h3 := all y hy
  rw [h1, Option.bind_some, h2, Option.bind_some] at h3
  exact h3
theorem e_7 (n0 n1 : Int) : ((toF Try.prog Ex 9000 Try.f3 0 0 1 2 (AAct.enter Try.f3.ntmps [.int .i64 n0, .int .i64 n1], M00)).bind fun s => toF Try.prog Ex 9000 Try.f3 1 3 1 4 (s.1.put (some 16) (.int .i64 7), s.2)).map (fun s => s.1.eval (.tmp 17)) = some (.int .i64 n1) := by kernel_rfl
theorem f_7_0 (n0 n1 : Int) : okB (((toF Try.prog Ex 9000 Try.f3 0 0 1 2 (AAct.enter Try.f3.ntmps [.int .i64 n0, .int .i64 n1], M00)).bind fun s => toF Try.prog Ex 9000 Try.f3 1 3 1 4 (s.1.put (some 16) (.int .i64 7), s.2)).bind fun s => restF Try.prog Ex 9000 Try.f3 1 5 (s.1.put (some 18) (.int .i64 0), s.2)) = true := by kernel_rfl
theorem f_7_1 (n0 n1 : Int) : okB (((toF Try.prog Ex 9000 Try.f3 0 0 1 2 (AAct.enter Try.f3.ntmps [.int .i64 n0, .int .i64 n1], M00)).bind fun s => toF Try.prog Ex 9000 Try.f3 1 3 1 4 (s.1.put (some 16) (.int .i64 7), s.2)).bind fun s => restF Try.prog Ex 9000 Try.f3 1 5 (s.1.put (some 18) (.int .i64 1), s.2)) = true := by kernel_rfl
theorem f_7_2 (n0 n1 : Int) : okB (((toF Try.prog Ex 9000 Try.f3 0 0 1 2 (AAct.enter Try.f3.ntmps [.int .i64 n0, .int .i64 n1], M00)).bind fun s => toF Try.prog Ex 9000 Try.f3 1 3 1 4 (s.1.put (some 16) (.int .i64 7), s.2)).bind fun s => restF Try.prog Ex 9000 Try.f3 1 5 (s.1.put (some 18) (.int .i64 2), s.2)) = true := by kernel_rfl
theorem f_7_3 (n0 n1 : Int) : okB (((toF Try.prog Ex 9000 Try.f3 0 0 1 2 (AAct.enter Try.f3.ntmps [.int .i64 n0, .int .i64 n1], M00)).bind fun s => toF Try.prog Ex 9000 Try.f3 1 3 1 4 (s.1.put (some 16) (.int .i64 7), s.2)).bind fun s => restF Try.prog Ex 9000 Try.f3 1 5 (s.1.put (some 18) (.int .i64 3), s.2)) = true := by kernel_rfl
theorem f_7_4 (n0 n1 : Int) : okB (((toF Try.prog Ex 9000 Try.f3 0 0 1 2 (AAct.enter Try.f3.ntmps [.int .i64 n0, .int .i64 n1], M00)).bind fun s => toF Try.prog Ex 9000 Try.f3 1 3 1 4 (s.1.put (some 16) (.int .i64 7), s.2)).bind fun s => restF Try.prog Ex 9000 Try.f3 1 5 (s.1.put (some 18) (.int .i64 4), s.2)) = true := by kernel_rfl
theorem f_7_5 (n0 n1 : Int) : okB (((toF Try.prog Ex 9000 Try.f3 0 0 1 2 (AAct.enter Try.f3.ntmps [.int .i64 n0, .int .i64 n1], M00)).bind fun s => toF Try.prog Ex 9000 Try.f3 1 3 1 4 (s.1.put (some 16) (.int .i64 7), s.2)).bind fun s => restF Try.prog Ex 9000 Try.f3 1 5 (s.1.put (some 18) (.int .i64 5), s.2)) = true := by kernel_rfl
theorem f_7_6 (n0 n1 : Int) : okB (((toF Try.prog Ex 9000 Try.f3 0 0 1 2 (AAct.enter Try.f3.ntmps [.int .i64 n0, .int .i64 n1], M00)).bind fun s => toF Try.prog Ex 9000 Try.f3 1 3 1 4 (s.1.put (some 16) (.int .i64 7), s.2)).bind fun s => restF Try.prog Ex 9000 Try.f3 1 5 (s.1.put (some 18) (.int .i64 6), s.2)) = true := by kernel_rfl
theorem f_7_7 (n0 n1 : Int) : okB (((toF Try.prog Ex 9000 Try.f3 0 0 1 2 (AAct.enter Try.f3.ntmps [.int .i64 n0, .int .i64 n1], M00)).bind fun s => toF Try.prog Ex 9000 Try.f3 1 3 1 4 (s.1.put (some 16) (.int .i64 7), s.2)).bind fun s => restF Try.prog Ex 9000 Try.f3 1 5 (s.1.put (some 18) (.int .i64 7), s.2)) = true := by kernel_rfl
theorem f_7_8 (n0 n1 : Int) : okB (((toF Try.prog Ex 9000 Try.f3 0 0 1 2 (AAct.enter Try.f3.ntmps [.int .i64 n0, .int .i64 n1], M00)).bind fun s => toF Try.prog Ex 9000 Try.f3 1 3 1 4 (s.1.put (some 16) (.int .i64 7), s.2)).bind fun s => restF Try.prog Ex 9000 Try.f3 1 5 (s.1.put (some 18) (.int .i64 8), s.2)) = true := by kernel_rfl
theorem f_7_9 (n0 n1 : Int) : okB (((toF Try.prog Ex 9000 Try.f3 0 0 1 2 (AAct.enter Try.f3.ntmps [.int .i64 n0, .int .i64 n1], M00)).bind fun s => toF Try.prog Ex 9000 Try.f3 1 3 1 4 (s.1.put (some 16) (.int .i64 7), s.2)).bind fun s => restF Try.prog Ex 9000 Try.f3 1 5 (s.1.put (some 18) (.int .i64 9), s.2)) = true := by kernel_rfl
theorem f_7_10 (n0 n1 : Int) : okB (((toF Try.prog Ex 9000 Try.f3 0 0 1 2 (AAct.enter Try.f3.ntmps [.int .i64 n0, .int .i64 n1], M00)).bind fun s => toF Try.prog Ex 9000 Try.f3 1 3 1 4 (s.1.put (some 16) (.int .i64 7), s.2)).bind fun s => restF Try.prog Ex 9000 Try.f3 1 5 (s.1.put (some 18) (.int .i64 10), s.2)) = true := by kernel_rfl
theorem f_7_11 (n0 n1 : Int) : okB (((toF Try.prog Ex 9000 Try.f3 0 0 1 2 (AAct.enter Try.f3.ntmps [.int .i64 n0, .int .i64 n1], M00)).bind fun s => toF Try.prog Ex 9000 Try.f3 1 3 1 4 (s.1.put (some 16) (.int .i64 7), s.2)).bind fun s => restF Try.prog Ex 9000 Try.f3 1 5 (s.1.put (some 18) (.int .i64 11), s.2)) = true := by kernel_rfl
theorem f_7_12 (n0 n1 : Int) : okB (((toF Try.prog Ex 9000 Try.f3 0 0 1 2 (AAct.enter Try.f3.ntmps [.int .i64 n0, .int .i64 n1], M00)).bind fun s => toF Try.prog Ex 9000 Try.f3 1 3 1 4 (s.1.put (some 16) (.int .i64 7), s.2)).bind fun s => restF Try.prog Ex 9000 Try.f3 1 5 (s.1.put (some 18) (.int .i64 12), s.2)) = true := by kernel_rfl
theorem f_7_13 (n0 n1 : Int) : okB (((toF Try.prog Ex 9000 Try.f3 0 0 1 2 (AAct.enter Try.f3.ntmps [.int .i64 n0, .int .i64 n1], M00)).bind fun s => toF Try.prog Ex 9000 Try.f3 1 3 1 4 (s.1.put (some 16) (.int .i64 7), s.2)).bind fun s => restF Try.prog Ex 9000 Try.f3 1 5 (s.1.put (some 18) (.int .i64 13), s.2)) = true := by kernel_rfl
theorem f_7_14 (n0 n1 : Int) : okB (((toF Try.prog Ex 9000 Try.f3 0 0 1 2 (AAct.enter Try.f3.ntmps [.int .i64 n0, .int .i64 n1], M00)).bind fun s => toF Try.prog Ex 9000 Try.f3 1 3 1 4 (s.1.put (some 16) (.int .i64 7), s.2)).bind fun s => restF Try.prog Ex 9000 Try.f3 1 5 (s.1.put (some 18) (.int .i64 14), s.2)) = true := by kernel_rfl
theorem f_7_15 (n0 n1 : Int) : okB (((toF Try.prog Ex 9000 Try.f3 0 0 1 2 (AAct.enter Try.f3.ntmps [.int .i64 n0, .int .i64 n1], M00)).bind fun s => toF Try.prog Ex 9000 Try.f3 1 3 1 4 (s.1.put (some 16) (.int .i64 7), s.2)).bind fun s => restF Try.prog Ex 9000 Try.f3 1 5 (s.1.put (some 18) (.int .i64 15), s.2)) = true := by kernel_rfl
theorem g_7 (n0 n1 : Int) (s1 : AAct × Store) (h1 : toF Try.prog Ex 9000 Try.f3 0 0 1 2 (AAct.enter Try.f3.ntmps [.int .i64 n0, .int .i64 n1], M00) = some s1) : okB (restF Try.prog Ex 9000 Try.f3 1 3 (s1.1.put (some 16) (.int .i64 7), s1.2)) = true := by
  have h := e_7 n0 n1
  rw [h1, Option.bind_some] at h
  obtain ⟨s2, h2, x2⟩ := Option.map_eq_some_iff.1 h
  rw [rest_bits (m := 15) (d := 18) (x := .tmp 17) (by decide) (by kernel_rfl) h2 x2]
  obtain ⟨y, hy, vy⟩ := bits_le n1 15 (by decide)
  rw [vy]
  have all : ∀ y : Nat, y ≤ 15 → okB (((toF Try.prog Ex 9000 Try.f3 0 0 1 2 (AAct.enter Try.f3.ntmps [.int .i64 n0, .int .i64 n1], M00)).bind fun s => toF Try.prog Ex 9000 Try.f3 1 3 1 4 (s.1.put (some 16) (.int .i64 7), s.2)).bind fun s => restF Try.prog Ex 9000 Try.f3 1 5 (s.1.put (some 18) (.int .i64 y), s.2)) = true := by
    intro y hy
    rcases (show y = 0 ∨ y = 1 ∨ y = 2 ∨ y = 3 ∨ y = 4 ∨ y = 5 ∨ y = 6 ∨ y = 7 ∨ y = 8 ∨ y = 9 ∨ y = 10 ∨ y = 11 ∨ y = 12 ∨ y = 13 ∨ y = 14 ∨ y = 15 by omega) with rfl | rfl | rfl | rfl | rfl | rfl | rfl | rfl | rfl | rfl | rfl | rfl | rfl | rfl | rfl | rfl
    · exact f_7_0 n0 n1
    · exact f_7_1 n0 n1
    · exact f_7_2 n0 n1
    · exact f_7_3 n0 n1
    · exact f_7_4 n0 n1
    · exact f_7_5 n0 n1
    · exact f_7_6 n0 n1
    · exact f_7_7 n0 n1
    · exact f_7_8 n0 n1
    · exact f_7_9 n0 n1
    · exact f_7_10 n0 n1
    · exact f_7_11 n0 n1
    · exact f_7_12 n0 n1
    · exact f_7_13 n0 n1
    · exact f_7_14 n0 n1
    · exact f_7_15 n0 n1
  have h3 := all y hy
  rw [h1, Option.bind_some, h2, Option.bind_some] at h3
  exact h3
end prntLong
end Go.G
