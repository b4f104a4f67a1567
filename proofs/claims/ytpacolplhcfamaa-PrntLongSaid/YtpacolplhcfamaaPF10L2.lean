/- PrntLong: its runs, part 2. -/
import Derived.Test.YtpacolplhcfamaaPAW
import Derived.Test.YtpacolplhcfamaaPAbFin
namespace Go.G
open Go.Ab Go.Proofs Go.RowKit
set_option linter.unusedVariables false
set_option maxRecDepth 100000
namespace prntLong
theorem e_2 (n0 n1 : Int) : ((toF Try.prog Ex 9000 Try.f3 0 0 1 2 (AAct.enter Try.f3.ntmps [.int .i64 n0, .int .i64 n1], M00)).bind fun s => toF Try.prog Ex 9000 Try.f3 1 3 1 4 (s.1.put (some 16) (.int .i64 2), s.2)).map (fun s => s.1.eval (.tmp 17)) = some (.int .i64 n1) := by kernel_rfl
theorem f_2_0 (n0 n1 : Int) : okB (((toF Try.prog Ex 9000 Try.f3 0 0 1 2 (AAct.enter Try.f3.ntmps [.int .i64 n0, .int .i64 n1], M00)).bind fun s => toF Try.prog Ex 9000 Try.f3 1 3 1 4 (s.1.put (some 16) (.int .i64 2), s.2)).bind fun s => restF Try.prog Ex 9000 Try.f3 1 5 (s.1.put (some 18) (.int .i64 0), s.2)) = true := by kernel_rfl
theorem f_2_1 (n0 n1 : Int) : okB (((toF Try.prog Ex 9000 Try.f3 0 0 1 2 (AAct.enter Try.f3.ntmps [.int .i64 n0, .int .i64 n1], M00)).bind fun s => toF Try.prog Ex 9000 Try.f3 1 3 1 4 (s.1.put (some 16) (.int .i64 2), s.2)).bind fun s => restF Try.prog Ex 9000 Try.f3 1 5 (s.1.put (some 18) (.int .i64 1), s.2)) = true := by kernel_rfl
theorem f_2_2 (n0 n1 : Int) : okB (((toF Try.prog Ex 9000 Try.f3 0 0 1 2 (AAct.enter Try.f3.ntmps [.int .i64 n0, .int .i64 n1], M00)).bind fun s => toF Try.prog Ex 9000 Try.f3 1 3 1 4 (s.1.put (some 16) (.int .i64 2), s.2)).bind fun s => restF Try.prog Ex 9000 Try.f3 1 5 (s.1.put (some 18) (.int .i64 2), s.2)) = true := by kernel_rfl
theorem f_2_3 (n0 n1 : Int) : okB (((toF Try.prog Ex 9000 Try.f3 0 0 1 2 (AAct.enter Try.f3.ntmps [.int .i64 n0, .int .i64 n1], M00)).bind fun s => toF Try.prog Ex 9000 Try.f3 1 3 1 4 (s.1.put (some 16) (.int .i64 2), s.2)).bind fun s => restF Try.prog Ex 9000 Try.f3 1 5 (s.1.put (some 18) (.int .i64 3), s.2)) = true := by kernel_rfl
theorem f_2_4 (n0 n1 : Int) : okB (((toF Try.prog Ex 9000 Try.f3 0 0 1 2 (AAct.enter Try.f3.ntmps [.int .i64 n0, .int .i64 n1], M00)).bind fun s => toF Try.prog Ex 9000 Try.f3 1 3 1 4 (s.1.put (some 16) (.int .i64 2), s.2)).bind fun s => restF Try.prog Ex 9000 Try.f3 1 5 (s.1.put (some 18) (.int .i64 4), s.2)) = true := by kernel_rfl
theorem f_2_5 (n0 n1 : Int) : okB (((toF Try.prog Ex 9000 Try.f3 0 0 1 2 (AAct.enter Try.f3.ntmps [.int .i64 n0, .int .i64 n1], M00)).bind fun s => toF Try.prog Ex 9000 Try.f3 1 3 1 4 (s.1.put (some 16) (.int .i64 2), s.2)).bind fun s => restF Try.prog Ex 9000 Try.f3 1 5 (s.1.put (some 18) (.int .i64 5), s.2)) = true := by kernel_rfl
theorem f_2_6 (n0 n1 : Int) : okB (((toF Try.prog Ex 9000 Try.f3 0 0 1 2 (AAct.enter Try.f3.ntmps [.int .i64 n0, .int .i64 n1], M00)).bind fun s => toF Try.prog Ex 9000 Try.f3 1 3 1 4 (s.1.put (some 16) (.int .i64 2), s.2)).bind fun s => restF Try.prog Ex 9000 Try.f3 1 5 (s.1.put (some 18) (.int .i64 6), s.2)) = true := by kernel_rfl
theorem f_2_7 (n0 n1 : Int) : okB (((toF Try.prog Ex 9000 Try.f3 0 0 1 2 (AAct.enter Try.f3.ntmps [.int .i64 n0, .int .i64 n1], M00)).bind fun s => toF Try.prog Ex 9000 Try.f3 1 3 1 4 (s.1.put (some 16) (.int .i64 2), s.2)).bind fun s => restF Try.prog Ex 9000 Try.f3 1 5 (s.1.put (some 18) (.int .i64 7), s.2)) = true := by kernel_rfl
theorem f_2_8 (n0 n1 : Int) : okB (((toF Try.prog Ex 9000 Try.f3 0 0 1 2 (AAct.enter Try.f3.ntmps [.int .i64 n0, .int .i64 n1], M00)).bind fun s => toF Try.prog Ex 9000 Try.f3 1 3 1 4 (s.1.put (some 16) (.int .i64 2), s.2)).bind fun s => restF Try.prog Ex 9000 Try.f3 1 5 (s.1.put (some 18) (.int .i64 8), s.2)) = true := by kernel_rfl
theorem f_2_9 (n0 n1 : Int) : okB (((toF Try.prog Ex 9000 Try.f3 0 0 1 2 (AAct.enter Try.f3.ntmps [.int .i64 n0, .int .i64 n1], M00)).bind fun s => toF Try.prog Ex 9000 Try.f3 1 3 1 4 (s.1.put (some 16) (.int .i64 2), s.2)).bind fun s => restF Try.prog Ex 9000 Try.f3 1 5 (s.1.put (some 18) (.int .i64 9), s.2)) = true := by kernel_rfl
theorem f_2_10 (n0 n1 : Int) : okB (((toF Try.prog Ex 9000 Try.f3 0 0 1 2 (AAct.enter Try.f3.ntmps [.int .i64 n0, .int .i64 n1], M00)).bind fun s => toF Try.prog Ex 9000 Try.f3 1 3 1 4 (s.1.put (some 16) (.int .i64 2), s.2)).bind fun s => restF Try.prog Ex 9000 Try.f3 1 5 (s.1.put (some 18) (.int .i64 10), s.2)) = true := by kernel_rfl
theorem f_2_11 (n0 n1 : Int) : okB (((toF Try.prog Ex 9000 Try.f3 0 0 1 2 (AAct.enter Try.f3.ntmps [.int .i64 n0, .int .i64 n1], M00)).bind fun s => toF Try.prog Ex 9000 Try.f3 1 3 1 4 (s.1.put (some 16) (.int .i64 2), s.2)).bind fun s => restF Try.prog Ex 9000 Try.f3 1 5 (s.1.put (some 18) (.int .i64 11), s.2)) = true := by kernel_rfl
theorem f_2_12 (n0 n1 : Int) : okB (((toF Try.prog Ex 9000 Try.f3 0 0 1 2 (AAct.enter Try.f3.ntmps [.int .i64 n0, .int .i64 n1], M00)).bind fun s => toF Try.prog Ex 9000 Try.f3 1 3 1 4 (s.1.put (some 16) (.int .i64 2), s.2)).bind fun s => restF Try.prog Ex 9000 Try.f3 1 5 (s.1.put (some 18) (.int .i64 12), s.2)) = true := by kernel_rfl
theorem f_2_13 (n0 n1 : Int) : okB (((toF Try.prog Ex 9000 Try.f3 0 0 1 2 (AAct.enter Try.f3.ntmps [.int .i64 n0, .int .i64 n1], M00)).bind fun s => toF Try.prog Ex 9000 Try.f3 1 3 1 4 (s.1.put (some 16) (.int .i64 2), s.2)).bind fun s => restF Try.prog Ex 9000 Try.f3 1 5 (s.1.put (some 18) (.int .i64 13), s.2)) = true := by kernel_rfl
theorem f_2_14 (n0 n1 : Int) : okB (((toF Try.prog Ex 9000 Try.f3 0 0 1 2 (AAct.enter Try.f3.ntmps [.int .i64 n0, .int .i64 n1], M00)).bind fun s => toF Try.prog Ex 9000 Try.f3 1 3 1 4 (s.1.put (some 16) (.int .i64 2), s.2)).bind fun s => restF Try.prog Ex 9000 Try.f3 1 5 (s.1.put (some 18) (.int .i64 14), s.2)) = true := by kernel_rfl
theorem f_2_15 (n0 n1 : Int) : okB (((toF Try.prog Ex 9000 Try.f3 0 0 1 2 (AAct.enter Try.f3.ntmps [.int .i64 n0, .int .i64 n1], M00)).bind fun s => toF Try.prog Ex 9000 Try.f3 1 3 1 4 (s.1.put (some 16) (.int .i64 2), s.2)).bind fun s => restF Try.prog Ex 9000 Try.f3 1 5 (s.1.put (some 18) (.int .i64 15), s.2)) = true := by kernel_rfl
theorem g_2 (n0 n1 : Int) (s1 : AAct × Store) (h1 : toF Try.prog Ex 9000 Try.f3 0 0 1 2 (AAct.enter Try.f3.ntmps [.int .i64 n0, .int .i64 n1], M00) = some s1) : okB (restF Try.prog Ex 9000 Try.f3 1 3 (s1.1.put (some 16) (.int .i64 2), s1.2)) = true := by
  have h := e_2 n0 n1
  rw [h1, Option.bind_some] at h
  obtain ⟨s2, h2, x2⟩ := Option.map_eq_some_iff.1 h
  rw [rest_bits (m := 15) (d := 18) (x := .tmp 17) (by decide) (by kernel_rfl) h2 x2]
  obtain ⟨y, hy, vy⟩ := bits_le n1 15 (by decide)
  rw [vy]
  have all : ∀ y : Nat, y ≤ 15 → okB (((toF Try.prog Ex 9000 Try.f3 0 0 1 2 (AAct.enter Try.f3.ntmps [.int .i64 n0, .int .i64 n1], M00)).bind fun s => toF Try.prog Ex 9000 Try.f3 1 3 1 4 (s.1.put (some 16) (.int .i64 2), s.2)).bind fun s => restF Try.prog Ex 9000 Try.f3 1 5 (s.1.put (some 18) (.int .i64 y), s.2)) = true := by
    intro y hy
    rcases (show y = 0 ∨ y = 1 ∨ y = 2 ∨ y = 3 ∨ y = 4 ∨ y = 5 ∨ y = 6 ∨ y = 7 ∨ y = 8 ∨ y = 9 ∨ y = 10 ∨ y = 11 ∨ y = 12 ∨ y = 13 ∨ y = 14 ∨ y = 15 by omega) with rfl | rfl | rfl | rfl | rfl | rfl | rfl | rfl | rfl | rfl | rfl | rfl | rfl | rfl | rfl | rfl
    · exact f_2_0 n0 n1
    · exact f_2_1 n0 n1
    · exact f_2_2 n0 n1
    · exact f_2_3 n0 n1
    · exact f_2_4 n0 n1
    · exact f_2_5 n0 n1
    · exact f_2_6 n0 n1
    · exact f_2_7 n0 n1
    · exact f_2_8 n0 n1
    · exact f_2_9 n0 n1
    · exact f_2_10 n0 n1
    · exact f_2_11 n0 n1
    · exact f_2_12 n0 n1
    · exact f_2_13 n0 n1
    · exact f_2_14 n0 n1
    · exact f_2_15 n0 n1
  have h3 := all y hy
  rw [h1, Option.bind_some, h2, Option.bind_some] at h3
  exact h3
theorem e_5 (n0 n1 : Int) : ((toF Try.prog Ex 9000 Try.f3 0 0 1 2 (AAct.enter Try.f3.ntmps [.int .i64 n0, .int .i64 n1], M00)).bind fun s => toF Try.prog Ex 9000 Try.f3 1 3 1 4 (s.1.put (some 16) (.int .i64 5), s.2)).map (fun s => s.1.eval (.tmp 17)) = some (.int .i64 n1) := by kernel_rfl
theorem f_5_0 (n0 n1 : Int) : okB (((toF Try.prog Ex 9000 Try.f3 0 0 1 2 (AAct.enter Try.f3.ntmps [.int .i64 n0, .int .i64 n1], M00)).bind fun s => toF Try.prog Ex 9000 Try.f3 1 3 1 4 (s.1.put (some 16) (.int .i64 5), s.2)).bind fun s => restF Try.prog Ex 9000 Try.f3 1 5 (s.1.put (some 18) (.int .i64 0), s.2)) = true := by kernel_rfl
theorem f_5_1 (n0 n1 : Int) : okB (((toF Try.prog Ex 9000 Try.f3 0 0 1 2 (AAct.enter Try.f3.ntmps [.int .i64 n0, .int .i64 n1], M00)).bind fun s => toF Try.prog Ex 9000 Try.f3 1 3 1 4 (s.1.put (some 16) (.int .i64 5), s.2)).bind fun s => restF Try.prog Ex 9000 Try.f3 1 5 (s.1.put (some 18) (.int .i64 1), s.2)) = true := by kernel_rfl
theorem f_5_2 (n0 n1 : Int) : okB (((toF Try.prog Ex 9000 Try.f3 0 0 1 2 (AAct.enter Try.f3.ntmps [.int .i64 n0, .int .i64 n1], M00)).bind fun s => toF Try.prog Ex 9000 Try.f3 1 3 1 4 (s.1.put (some 16) (.int .i64 5), s.2)).bind fun s => restF Try.prog Ex 9000 Try.f3 1 5 (s.1.put (some 18) (.int .i64 2), s.2)) = true := by kernel_rfl
theorem f_5_3 (n0 n1 : Int) : okB (((toF Try.prog Ex 9000 Try.f3 0 0 1 2 (AAct.enter Try.f3.ntmps [.int .i64 n0, .int .i64 n1], M00)).bind fun s => toF Try.prog Ex 9000 Try.f3 1 3 1 4 (s.1.put (some 16) (.int .i64 5), s.2)).bind fun s => restF Try.prog Ex 9000 Try.f3 1 5 (s.1.put (some 18) (.int .i64 3), s.2)) = true := by kernel_rfl
theorem f_5_4 (n0 n1 : Int) : okB (((toF Try.prog Ex 9000 Try.f3 0 0 1 2 (AAct.enter Try.f3.ntmps [.int .i64 n0, .int .i64 n1], M00)).bind fun s => toF Try.prog Ex 9000 Try.f3 1 3 1 4 (s.1.put (some 16) (.int .i64 5), s.2)).bind fun s => restF Try.prog Ex 9000 Try.f3 1 5 (s.1.put (some 18) (.int .i64 4), s.2)) = true := by kernel_rfl
theorem f_5_5 (n0 n1 : Int) : okB (((toF Try.prog Ex 9000 Try.f3 0 0 1 2 (AAct.enter Try.f3.ntmps [.int .i64 n0, .int .i64 n1], M00)).bind fun s => toF Try.prog Ex 9000 Try.f3 1 3 1 4 (s.1.put (some 16) (.int .i64 5), s.2)).bind fun s => restF Try.prog Ex 9000 Try.f3 1 5 (s.1.put (some 18) (.int .i64 5), s.2)) = true := by kernel_rfl
theorem f_5_6 (n0 n1 : Int) : okB (((toF Try.prog Ex 9000 Try.f3 0 0 1 2 (AAct.enter Try.f3.ntmps [.int .i64 n0, .int .i64 n1], M00)).bind fun s => toF Try.prog Ex 9000 Try.f3 1 3 1 4 (s.1.put (some 16) (.int .i64 5), s.2)).bind fun s => restF Try.prog Ex 9000 Try.f3 1 5 (s.1.put (some 18) (.int .i64 6), s.2)) = true := by kernel_rfl
theorem f_5_7 (n0 n1 : Int) : okB (((toF Try.prog Ex 9000 Try.f3 0 0 1 2 (AAct.enter Try.f3.ntmps [.int .i64 n0, .int .i64 n1], M00)).bind fun s => toF Try.prog Ex 9000 Try.f3 1 3 1 4 (s.1.put (some 16) (.int .i64 5), s.2)).bind fun s => restF Try.prog Ex 9000 Try.f3 1 5 (s.1.put (some 18) (.int .i64 7), s.2)) = true := by kernel_rfl
theorem f_5_8 (n0 n1 : Int) : okB (((toF Try.prog Ex 9000 Try.f3 0 0 1 2 (AAct.enter Try.f3.ntmps [.int .i64 n0, .int .i64 n1], M00)).bind fun s => toF Try.prog Ex 9000 Try.f3 1 3 1 4 (s.1.put (some 16) (.int .i64 5), s.2)).bind fun s => restF Try.prog Ex 9000 Try.f3 1 5 (s.1.put (some 18) (.int .i64 8), s.2)) = true := by kernel_rfl
theorem f_5_9 (n0 n1 : Int) : okB (((toF Try.prog Ex 9000 Try.f3 0 0 1 2 (AAct.enter Try.f3.ntmps [.int .i64 n0, .int .i64 n1], M00)).bind fun s => toF Try.prog Ex 9000 Try.f3 1 3 1 4 (s.1.put (some 16) (.int .i64 5), s.2)).bind fun s => restF Try.prog Ex 9000 Try.f3 1 5 (s.1.put (some 18) (.int .i64 9), s.2)) = true := by kernel_rfl
theorem f_5_10 (n0 n1 : Int) : okB (((toF Try.prog Ex 9000 Try.f3 0 0 1 2 (AAct.enter Try.f3.ntmps [.int .i64 n0, .int .i64 n1], M00)).bind fun s => toF Try.prog Ex 9000 Try.f3 1 3 1 4 (s.1.put (some 16) (.int .i64 5), s.2)).bind fun s => restF Try.prog Ex 9000 Try.f3 1 5 (s.1.put (some 18) (.int .i64 10), s.2)) = true := by kernel_rfl
theorem f_5_11 (n0 n1 : Int) : okB (((toF Try.prog Ex 9000 Try.f3 0 0 1 2 (AAct.enter Try.f3.ntmps [.int .i64 n0, .int .i64 n1], M00)).bind fun s => toF Try.prog Ex 9000 Try.f3 1 3 1 4 (s.1.put (some 16) (.int .i64 5), s.2)).bind fun s => restF Try.prog Ex 9000 Try.f3 1 5 (s.1.put (some 18) (.int .i64 11), s.2)) = true := by kernel_rfl
theorem f_5_12 (n0 n1 : Int) : okB (((toF Try.prog Ex 9000 Try.f3 0 0 1 2 (AAct.enter Try.f3.ntmps [.int .i64 n0, .int .i64 n1], M00)).bind fun s => toF Try.prog Ex 9000 Try.f3 1 3 1 4 (s.1.put (some 16) (.int .i64 5), s.2)).bind fun s => restF Try.prog Ex 9000 Try.f3 1 5 (s.1.put (some 18) (.int .i64 12), s.2)) = true := by kernel_rfl
theorem f_5_13 (n0 n1 : Int) : okB (((toF Try.prog Ex 9000 Try.f3 0 0 1 2 (AAct.enter Try.f3.ntmps [.int .i64 n0, .int .i64 n1], M00)).bind fun s => toF Try.prog Ex 9000 Try.f3 1 3 1 4 (s.1.put (some 16) (.int .i64 5), s.2)).bind fun s => restF Try.prog Ex 9000 Try.f3 1 5 (s.1.put (some 18) (.int .i64 13), s.2)) = true := by kernel_rfl
theorem f_5_14 (n0 n1 : Int) : okB (((toF Try.prog Ex 9000 Try.f3 0 0 1 2 (AAct.enter Try.f3.ntmps [.int .i64 n0, .int .i64 n1], M00)).bind fun s => toF Try.prog Ex 9000 Try.f3 1 3 1 4 (s.1.put (some 16) (.int .i64 5), s.2)).bind fun s => restF Try.prog Ex 9000 Try.f3 1 5 (s.1.put (some 18) (.int .i64 14), s.2)) = true := by kernel_rfl
theorem f_5_15 (n0 n1 : Int) : okB (((toF Try.prog Ex 9000 Try.f3 0 0 1 2 (AAct.enter Try.f3.ntmps [.int .i64 n0, .int .i64 n1], M00)).bind fun s => toF Try.prog Ex 9000 Try.f3 1 3 1 4 (s.1.put (some 16) (.int .i64 5), s.2)).bind fun s => restF Try.prog Ex 9000 Try.f3 1 5 (s.1.put (some 18) (.int .i64 15), s.2)) = true := by kernel_rfl
theorem g_5 (n0 n1 : Int) (s1 : AAct × Store) (h1 : toF Try.prog Ex 9000 Try.f3 0 0 1 2 (AAct.enter Try.f3.ntmps [.int .i64 n0, .int .i64 n1], M00) = some s1) : okB (restF Try.prog Ex 9000 Try.f3 1 3 (s1.1.put (some 16) (.int .i64 5), s1.2)) = true := by
  have h := e_5 n0 n1
  rw [h1, Option.bind_some] at h
  obtain ⟨s2, h2, x2⟩ := Option.map_eq_some_iff.1 h
  rw [rest_bits (m := 15) (d := 18) (x := .tmp 17) (by decide) (by kernel_rfl) h2 x2]
  obtain ⟨y, hy, vy⟩ := bits_le n1 15 (by decide)
  rw [vy]
  have all : ∀ y : Nat, y ≤ 15 → okB (((toF Try.prog Ex 9000 Try.f3 0 0 1 2 (AAct.enter Try.f3.ntmps [.int .i64 n0, .int .i64 n1], M00)).bind fun s => toF Try.prog Ex 9000 Try.f3 1 3 1 4 (s.1.put (some 16) (.int .i64 5), s.2)).bind fun s => restF Try.prog Ex 9000 Try.f3 1 5 (s.1.put (some 18) (.int .i64 y), s.2)) = true := by
    intro y hy
    rcases (show y = 0 ∨ y = 1 ∨ y = 2 ∨ y = 3 ∨ y = 4 ∨ y = 5 ∨ y = 6 ∨ y = 7 ∨ y = 8 ∨ y = 9 ∨ y = 10 ∨ y = 11 ∨ y = 12 ∨ y = 13 ∨ y = 14 ∨ y = 15 by omega) with rfl | rfl | rfl | rfl | rfl | rfl | rfl | rfl | rfl | rfl | rfl | rfl | rfl | rfl | rfl | rfl
    · exact f_5_0 n0 n1
    · exact f_5_1 n0 n1
    · exact f_5_2 n0 n1
    · exact f_5_3 n0 n1
    · exact f_5_4 n0 n1
    · exact f_5_5 n0 n1
    · exact f_5_6 n0 n1
    · exact f_5_7 n0 n1
    · exact f_5_8 n0 n1
    · exact f_5_9 n0 n1
    · exact f_5_10 n0 n1
    · exact f_5_11 n0 n1
    · exact f_5_12 n0 n1
    · exact f_5_13 n0 n1
    · exact f_5_14 n0 n1
    · exact f_5_15 n0 n1
  have h3 := all y hy
  rw [h1, Option.bind_some, h2, Option.bind_some] at h3
  exact h3
theorem e_8 (n0 n1 : Int) : ((toF Try.prog Ex 9000 Try.f3 0 0 1 2 (AAct.enter Try.f3.ntmps [.int .i64 n0, .int .i64 n1], M00)).bind fun s => toF Try.prog Ex 9000 Try.f3 1 3 1 4 (s.1.put (some 16) (.int .i64 8), s.2)).map (fun s => s.1.eval (.tmp 17)) = some (.int .i64 n1) := by kernel_rfl
theorem f_8_0 (n0 n1 : Int) : okB (((toF Try.prog Ex 9000 Try.f3 0 0 1 2 (AAct.enter Try.f3.ntmps [.int .i64 n0, .int .i64 n1], M00)).bind fun s => toF Try.prog Ex 9000 Try.f3 1 3 1 4 (s.1.put (some 16) (.int .i64 8), s.2)).bind fun s => restF Try.prog Ex 9000 Try.f3 1 5 (s.1.put (some 18) (.int .i64 0), s.2)) = true := by kernel_rfl
theorem f_8_1 (n0 n1 : Int) : okB (((toF Try.prog Ex 9000 Try.f3 0 0 1 2 (AAct.enter Try.f3.ntmps [.int .i64 n0, .int .i64 n1], M00)).bind fun s => toF Try.prog Ex 9000 Try.f3 1 3 1 4 (s.1.put (some 16) (.int .i64 8), s.2)).bind fun s => restF Try.prog Ex 9000 Try.f3 1 5 (s.1.put (some 18) (.int .i64 1), s.2)) = true := by kernel_rfl
theorem f_8_2 (n0 n1 : Int) : okB (((toF Try.prog Ex 9000 Try.f3 0 0 1 2 (AAct.enter Try.f3.ntmps [.int .i64 n0, .int .i64 n1], M00)).bind fun s => toF Try.prog Ex 9000 Try.f3 1 3 1 4 (s.1.put (some 16) (.int .i64 8), s.2)).bind fun s => restF Try.prog Ex 9000 Try.f3 1 5 (s.1.put (some 18) (.int .i64 2), s.2)) = true := by kernel_rfl
theorem f_8_3 (n0 n1 : Int) : okB (((toF Try.prog Ex 9000 Try.f3 0 0 1 2 (AAct.enter Try.f3.ntmps [.int .i64 n0, .int .i64 n1], M00)).bind fun s => toF Try.prog Ex 9000 Try.f3 1 3 1 4 (s.1.put (some 16) (.int .i64 8), s.2)).bind fun s => restF Try.prog Ex 9000 Try.f3 1 5 (s.1.put (some 18) (.int .i64 3), s.2)) = true := by kernel_rfl
theorem f_8_4 (n0 n1 : Int) : okB (((toF Try.prog Ex 9000 Try.f3 0 0 1 2 (AAct.enter Try.f3.ntmps [.int .i64 n0, .int .i64 n1], M00)).bind fun s => toF Try.prog Ex 9000 Try.f3 1 3 1 4 (s.1.put (some 16) (.int .i64 8), s.2)).bind fun s => restF Try.prog Ex 9000 Try.f3 1 5 (s.1.put (some 18) (.int .i64 4), s.2)) = true := by kernel_rfl
theorem f_8_5 (n0 n1 : Int) : okB (((toF Try.prog Ex 9000 Try.f3 0 0 1 2 (AAct.enter Try.f3.ntmps [.int .i64 n0, .int .i64 n1], M00)).bind fun s => toF Try.prog Ex 9000 Try.f3 1 3 1 4 (s.1.put (some 16) (.int .i64 8), s.2)).bind fun s => restF Try.prog Ex 9000 Try.f3 1 5 (s.1.put (some 18) (.int .i64 5), s.2)) = true := by kernel_rfl
theorem f_8_6 (n0 n1 : Int) : okB (((toF Try.prog Ex 9000 Try.f3 0 0 1 2 (AAct.enter Try.f3.ntmps [.int .i64 n0, .int .i64 n1], M00)).bind fun s => toF Try.prog Ex 9000 Try.f3 1 3 1 4 (s.1.put (some 16) (.int .i64 8), s.2)).bind fun s => restF Try.prog Ex 9000 Try.f3 1 5 (s.1.put (some 18) (.int .i64 6), s.2)) = true := by kernel_rfl
theorem f_8_7 (n0 n1 : Int) : okB (((toF Try.prog Ex 9000 Try.f3 0 0 1 2 (AAct.enter Try.f3.ntmps [.int .i64 n0, .int .i64 n1], M00)).bind fun s => toF Try.prog Ex 9000 Try.f3 1 3 1 4 (s.1.put (some 16) (.int .i64 8), s.2)).bind fun s => restF Try.prog Ex 9000 Try.f3 1 5 (s.1.put (some 18) (.int .i64 7), s.2)) = true := by kernel_rfl
theorem f_8_8 (n0 n1 : Int) : okB (((toF Try.prog Ex 9000 Try.f3 0 0 1 2 (AAct.enter Try.f3.ntmps [.int .i64 n0, .int .i64 n1], M00)).bind fun s => toF Try.prog Ex 9000 Try.f3 1 3 1 4 (s.1.put (some 16) (.int .i64 8), s.2)).bind fun s => restF Try.prog Ex 9000 Try.f3 1 5 (s.1.put (some 18) (.int .i64 8), s.2)) = true := by kernel_rfl
theorem f_8_9 (n0 n1 : Int) : okB (((toF Try.prog Ex 9000 Try.f3 0 0 1 2 (AAct.enter Try.f3.ntmps [.int .i64 n0, .int .i64 n1], M00)).bind fun s => toF Try.prog Ex 9000 Try.f3 1 3 1 4 (s.1.put (some 16) (.int .i64 8), s.2)).bind fun s => restF Try.prog Ex 9000 Try.f3 1 5 (s.1.put (some 18) (.int .i64 9), s.2)) = true := by kernel_rfl
theorem f_8_10 (n0 n1 : Int) : okB (((toF Try.prog Ex 9000 Try.f3 0 0 1 2 (AAct.enter Try.f3.ntmps [.int .i64 n0, .int .i64 n1], M00)).bind fun s => toF Try.prog Ex 9000 Try.f3 1 3 1 4 (s.1.put (some 16) (.int .i64 8), s.2)).bind fun s => restF Try.prog Ex 9000 Try.f3 1 5 (s.1.put (some 18) (.int .i64 10), s.2)) = true := by kernel_rfl
theorem f_8_11 (n0 n1 : Int) : okB (((toF Try.prog Ex 9000 Try.f3 0 0 1 2 (AAct.enter Try.f3.ntmps [.int .i64 n0, .int .i64 n1], M00)).bind fun s => toF Try.prog Ex 9000 Try.f3 1 3 1 4 (s.1.put (some 16) (.int .i64 8), s.2)).bind fun s => restF Try.prog Ex 9000 Try.f3 1 5 (s.1.put (some 18) (.int .i64 11), s.2)) = true := by kernel_rfl
theorem f_8_12 (n0 n1 : Int) : okB (((toF Try.prog Ex 9000 Try.f3 0 0 1 2 (AAct.enter Try.f3.ntmps [.int .i64 n0, .int .i64 n1], M00)).bind fun s => toF Try.prog Ex 9000 Try.f3 1 3 1 4 (s.1.put (some 16) (.int .i64 8), s.2)).bind fun s => restF Try.prog Ex 9000 Try.f3 1 5 (s.1.put (some 18) (.int .i64 12), s.2)) = true := by kernel_rfl
theorem f_8_13 (n0 n1 : Int) : okB (((toF Try.prog Ex 9000 Try.f3 0 0 1 2 (AAct.enter Try.f3.ntmps [.int .i64 n0, .int .i64 n1], M00)).bind fun s => toF Try.prog Ex 9000 Try.f3 1 3 1 4 (s.1.put (some 16) (.int .i64 8), s.2)).bind fun s => restF Try.prog Ex 9000 Try.f3 1 5 (s.1.put (some 18) (.int .i64 13), s.2)) = true := by kernel_rfl
theorem f_8_14 (n0 n1 : Int) : okB (((toF Try.prog Ex 9000 Try.f3 0 0 1 2 (AAct.enter Try.f3.ntmps [.int .i64 n0, .int .i64 n1], M00)).bind fun s => toF Try.prog Ex 9000 Try.f3 1 3 1 4 (s.1.put (some 16) (.int .i64 8), s.2)).bind fun s => restF Try.prog Ex 9000 Try.f3 1 5 (s.1.put (some 18) (.int .i64 14), s.2)) = true := by kernel_rfl
theorem f_8_15 (n0 n1 : Int) : okB (((toF Try.prog Ex 9000 Try.f3 0 0 1 2 (AAct.enter Try.f3.ntmps [.int .i64 n0, .int .i64 n1], M00)).bind fun s => toF Try.prog Ex 9000 Try.f3 1 3 1 4 (s.1.put (some 16) (.int .i64 8), s.2)).bind fun s => restF Try.prog Ex 9000 Try.f3 1 5 (s.1.put (some 18) (.int .i64 15), s.2)) = true := by kernel_rfl
theorem g_8 (n0 n1 : Int) (s1 : AAct × Store) (h1 : toF Try.prog Ex 9000 Try.f3 0 0 1 2 (AAct.enter Try.f3.ntmps [.int .i64 n0, .int .i64 n1], M00) = some s1) : okB (restF Try.prog Ex 9000 Try.f3 1 3 (s1.1.put (some 16) (.int .i64 8), s1.2)) = true := by
  have h := e_8 n0 n1
  rw [h1, Option.bind_some] at h
  obtain ⟨s2, h2, x2⟩ := Option.map_eq_some_iff.1 h
  rw [rest_bits (m := 15) (d := 18) (x := .tmp 17) (by decide) (by kernel_rfl) h2 x2]
  obtain ⟨y, hy, vy⟩ := bits_le n1 15 (by decide)
  rw [vy]
  have all : ∀ y : Nat, y ≤ 15 → okB (((toF Try.prog Ex 9000 Try.f3 0 0 1 2 (AAct.enter Try.f3.ntmps [.int .i64 n0, .int .i64 n1], M00)).bind fun s => toF Try.prog Ex 9000 Try.f3 1 3 1 4 (s.1.put (some 16) (.int .i64 8), s.2)).bind fun s => restF Try.prog Ex 9000 Try.f3 1 5 (s.1.put (some 18) (.int .i64 y), s.2)) = true := by
    intro y hy
    rcases (show y = 0 ∨ y = 1 ∨ y = 2 ∨ y = 3 ∨ y = 4 ∨ y = 5 ∨ y = 6 ∨ y = 7 ∨ y = 8 ∨ y = 9 ∨ y = 10 ∨ y = 11 ∨ y = 12 ∨ y = 13 ∨ y = 14 ∨ y = 15 by omega) with rfl | rfl | rfl | rfl | rfl | rfl | rfl | rfl | rfl | rfl | rfl | rfl | rfl | rfl | rfl | rfl
    · exact f_8_0 n0 n1
    · exact f_8_1 n0 n1
    · exact f_8_2 n0 n1
    · exact f_8_3 n0 n1
    · exact f_8_4 n0 n1
    · exact f_8_5 n0 n1
    · exact f_8_6 n0 n1
    · exact f_8_7 n0 n1
    · exact f_8_8 n0 n1
    · exact f_8_9 n0 n1
    · exact f_8_10 n0 n1
    · exact f_8_11 n0 n1
    · exact f_8_12 n0 n1
    · exact f_8_13 n0 n1
    · exact f_8_14 n0 n1
    · exact f_8_15 n0 n1
  have h3 := all y hy
  rw [h1, Option.bind_some, h2, Option.bind_some] at h3
  exact h3
end prntLong
end Go.G
