/- ActsGrow: its runs, part 6. -/
import Derived.Test.YtjchjhkhopcalaaDoorPAW
import Derived.Test.YtjchjhkhopcalaaDoorPAbFin
namespace Go.G
open Go.Ab Go.Proofs Go.RowKit
set_option linter.unusedVariables false
set_option maxRecDepth 100000
namespace actsGrow
theorem e_6 (n0 n1 : Int) : ((toF Tryd.prog Ex 9000 Tryd.f7 0 0 1 1 (AAct.enter Tryd.f7.ntmps [.int .i64 n0, .int .i64 n1], M00)).bind fun s => toF Tryd.prog Ex 9000 Tryd.f7 1 2 1 4 (s.1.put (some 13) (.int .i64 6), s.2)).map (fun s => s.1.eval (.tmp 15)) = some (.int .i64 (Go.Ab.bits n1 255)) := by kernel_rfl
theorem f_6_0 (n0 n1 : Int) : okB (((toF Tryd.prog Ex 9000 Tryd.f7 0 0 1 1 (AAct.enter Tryd.f7.ntmps [.int .i64 n0, .int .i64 n1], M00)).bind fun s => toF Tryd.prog Ex 9000 Tryd.f7 1 2 1 4 (s.1.put (some 13) (.int .i64 6), s.2)).bind fun s => restF Tryd.prog Ex 9000 Tryd.f7 1 5 (s.1.put (some 16) (.int .i64 0), s.2)) = true := by kernel_rfl
theorem f_6_1 (n0 n1 : Int) : okB (((toF Tryd.prog Ex 9000 Tryd.f7 0 0 1 1 (AAct.enter Tryd.f7.ntmps [.int .i64 n0, .int .i64 n1], M00)).bind fun s => toF Tryd.prog Ex 9000 Tryd.f7 1 2 1 4 (s.1.put (some 13) (.int .i64 6), s.2)).bind fun s => restF Tryd.prog Ex 9000 Tryd.f7 1 5 (s.1.put (some 16) (.int .i64 1), s.2)) = true := by kernel_rfl
theorem f_6_2 (n0 n1 : Int) : okB (((toF Tryd.prog Ex 9000 Tryd.f7 0 0 1 1 (AAct.enter Tryd.f7.ntmps [.int .i64 n0, .int .i64 n1], M00)).bind fun s => toF Tryd.prog Ex 9000 Tryd.f7 1 2 1 4 (s.1.put (some 13) (.int .i64 6), s.2)).bind fun s => restF Tryd.prog Ex 9000 Tryd.f7 1 5 (s.1.put (some 16) (.int .i64 2), s.2)) = true := by kernel_rfl
theorem f_6_3 (n0 n1 : Int) : okB (((toF Tryd.prog Ex 9000 Tryd.f7 0 0 1 1 (AAct.enter Tryd.f7.ntmps [.int .i64 n0, .int .i64 n1], M00)).bind fun s => toF Tryd.prog Ex 9000 Tryd.f7 1 2 1 4 (s.1.put (some 13) (.int .i64 6), s.2)).bind fun s => restF Tryd.prog Ex 9000 Tryd.f7 1 5 (s.1.put (some 16) (.int .i64 3), s.2)) = true := by kernel_rfl
theorem f_6_4 (n0 n1 : Int) : okB (((toF Tryd.prog Ex 9000 Tryd.f7 0 0 1 1 (AAct.enter Tryd.f7.ntmps [.int .i64 n0, .int .i64 n1], M00)).bind fun s => toF Tryd.prog Ex 9000 Tryd.f7 1 2 1 4 (s.1.put (some 13) (.int .i64 6), s.2)).bind fun s => restF Tryd.prog Ex 9000 Tryd.f7 1 5 (s.1.put (some 16) (.int .i64 4), s.2)) = true := by kernel_rfl
theorem f_6_5 (n0 n1 : Int) : okB (((toF Tryd.prog Ex 9000 Tryd.f7 0 0 1 1 (AAct.enter Tryd.f7.ntmps [.int .i64 n0, .int .i64 n1], M00)).bind fun s => toF Tryd.prog Ex 9000 Tryd.f7 1 2 1 4 (s.1.put (some 13) (.int .i64 6), s.2)).bind fun s => restF Tryd.prog Ex 9000 Tryd.f7 1 5 (s.1.put (some 16) (.int .i64 5), s.2)) = true := by kernel_rfl
theorem f_6_6 (n0 n1 : Int) : okB (((toF Tryd.prog Ex 9000 Tryd.f7 0 0 1 1 (AAct.enter Tryd.f7.ntmps [.int .i64 n0, .int .i64 n1], M00)).bind fun s => toF Tryd.prog Ex 9000 Tryd.f7 1 2 1 4 (s.1.put (some 13) (.int .i64 6), s.2)).bind fun s => restF Tryd.prog Ex 9000 Tryd.f7 1 5 (s.1.put (some 16) (.int .i64 6), s.2)) = true := by kernel_rfl
theorem f_6_7 (n0 n1 : Int) : okB (((toF Tryd.prog Ex 9000 Tryd.f7 0 0 1 1 (AAct.enter Tryd.f7.ntmps [.int .i64 n0, .int .i64 n1], M00)).bind fun s => toF Tryd.prog Ex 9000 Tryd.f7 1 2 1 4 (s.1.put (some 13) (.int .i64 6), s.2)).bind fun s => restF Tryd.prog Ex 9000 Tryd.f7 1 5 (s.1.put (some 16) (.int .i64 7), s.2)) = true := by kernel_rfl
theorem g_6 (n0 n1 : Int) (s1 : AAct × Store) (h1 : toF Tryd.prog Ex 9000 Tryd.f7 0 0 1 1 (AAct.enter Tryd.f7.ntmps [.int .i64 n0, .int .i64 n1], M00) = some s1) : okB (restF Tryd.prog Ex 9000 Tryd.f7 1 2 (s1.1.put (some 13) (.int .i64 6), s1.2)) = true := by
  have h := e_6 n0 n1
  rw [h1, Option.bind_some] at h
  obtain ⟨s2, h2, x2⟩ := Option.map_eq_some_iff.1 h
  rw [rest_rem (m := 8) (d := 16) (x := .tmp 15) (by decide) (by kernel_rfl) (by decide) h2 x2]
  obtain ⟨y, hy, vy⟩ := bits_rem n1 255 8 (by decide) (by decide)
  rw [vy]
  have all : ∀ y : Nat, y < 8 → okB (((toF Tryd.prog Ex 9000 Tryd.f7 0 0 1 1 (AAct.enter Tryd.f7.ntmps [.int .i64 n0, .int .i64 n1], M00)).bind fun s => toF Tryd.prog Ex 9000 Tryd.f7 1 2 1 4 (s.1.put (some 13) (.int .i64 6), s.2)).bind fun s => restF Tryd.prog Ex 9000 Tryd.f7 1 5 (s.1.put (some 16) (.int .i64 y), s.2)) = true := by
    intro y hy
    rcases (show y = 0 ∨ y = 1 ∨ y = 2 ∨ y = 3 ∨ y = 4 ∨ y = 5 ∨ y = 6 ∨ y = 7 by omega) with rfl | rfl | rfl | rfl | rfl | rfl | rfl | rfl
    · exact f_6_0 n0 n1
    · exact f_6_1 n0 n1
    · exact f_6_2 n0 n1
    · exact f_6_3 n0 n1
    · exact f_6_4 n0 n1
    · exact f_6_5 n0 n1
    · exact f_6_6 n0 n1
    · exact f_6_7 n0 n1
  have h3 := all y hy
  rw [h1, Option.bind_some, h2, Option.bind_some] at h3
  exact h3
theorem e_14 (n0 n1 : Int) : ((toF Tryd.prog Ex 9000 Tryd.f7 0 0 1 1 (AAct.enter Tryd.f7.ntmps [.int .i64 n0, .int .i64 n1], M00)).bind fun s => toF Tryd.prog Ex 9000 Tryd.f7 1 2 1 4 (s.1.put (some 13) (.int .i64 14), s.2)).map (fun s => s.1.eval (.tmp 15)) = some (.int .i64 (Go.Ab.bits n1 255)) := by kernel_rfl
theorem f_14_0 (n0 n1 : Int) : okB (((toF Tryd.prog Ex 9000 Tryd.f7 0 0 1 1 (AAct.enter Tryd.f7.ntmps [.int .i64 n0, .int .i64 n1], M00)).bind fun s => toF Tryd.prog Ex 9000 Tryd.f7 1 2 1 4 (s.1.put (some 13) (.int .i64 14), s.2)).bind fun s => restF Tryd.prog Ex 9000 Tryd.f7 1 5 (s.1.put (some 16) (.int .i64 0), s.2)) = true := by kernel_rfl
theorem f_14_1 (n0 n1 : Int) : okB (((toF Tryd.prog Ex 9000 Tryd.f7 0 0 1 1 (AAct.enter Tryd.f7.ntmps [.int .i64 n0, .int .i64 n1], M00)).bind fun s => toF Tryd.prog Ex 9000 Tryd.f7 1 2 1 4 (s.1.put (some 13) (.int .i64 14), s.2)).bind fun s => restF Tryd.prog Ex 9000 Tryd.f7 1 5 (s.1.put (some 16) (.int .i64 1), s.2)) = true := by kernel_rfl
theorem f_14_2 (n0 n1 : Int) : okB (((toF Tryd.prog Ex 9000 Tryd.f7 0 0 1 1 (AAct.enter Tryd.f7.ntmps [.int .i64 n0, .int .i64 n1], M00)).bind fun s => toF Tryd.prog Ex 9000 Tryd.f7 1 2 1 4 (s.1.put (some 13) (.int .i64 14), s.2)).bind fun s => restF Tryd.prog Ex 9000 Tryd.f7 1 5 (s.1.put (some 16) (.int .i64 2), s.2)) = true := by kernel_rfl
theorem f_14_3 (n0 n1 : Int) : okB (((toF Tryd.prog Ex 9000 Tryd.f7 0 0 1 1 (AAct.enter Tryd.f7.ntmps [.int .i64 n0, .int .i64 n1], M00)).bind fun s => toF Tryd.prog Ex 9000 Tryd.f7 1 2 1 4 (s.1.put (some 13) (.int .i64 14), s.2)).bind fun s => restF Tryd.prog Ex 9000 Tryd.f7 1 5 (s.1.put (some 16) (.int .i64 3), s.2)) = true := by kernel_rfl
theorem f_14_4 (n0 n1 : Int) : okB (((toF Tryd.prog Ex 9000 Tryd.f7 0 0 1 1 (AAct.enter Tryd.f7.ntmps [.int .i64 n0, .int .i64 n1], M00)).bind fun s => toF Tryd.prog Ex 9000 Tryd.f7 1 2 1 4 (s.1.put (some 13) (.int .i64 14), s.2)).bind fun s => restF Tryd.prog Ex 9000 Tryd.f7 1 5 (s.1.put (some 16) (.int .i64 4), s.2)) = true := by kernel_rfl
theorem f_14_5 (n0 n1 : Int) : okB (((toF Tryd.prog Ex 9000 Tryd.f7 0 0 1 1 (AAct.enter Tryd.f7.ntmps [.int .i64 n0, .int .i64 n1], M00)).bind fun s => toF Tryd.prog Ex 9000 Tryd.f7 1 2 1 4 (s.1.put (some 13) (.int .i64 14), s.2)).bind fun s => restF Tryd.prog Ex 9000 Tryd.f7 1 5 (s.1.put (some 16) (.int .i64 5), s.2)) = true := by kernel_rfl
theorem f_14_6 (n0 n1 : Int) : okB (((toF Tryd.prog Ex 9000 Tryd.f7 0 0 1 1 (AAct.enter Tryd.f7.ntmps [.int .i64 n0, .int .i64 n1], M00)).bind fun s => toF Tryd.prog Ex 9000 Tryd.f7 1 2 1 4 (s.1.put (some 13) (.int .i64 14), s.2)).bind fun s => restF Tryd.prog Ex 9000 Tryd.f7 1 5 (s.1.put (some 16) (.int .i64 6), s.2)) = true := by kernel_rfl
theorem f_14_7 (n0 n1 : Int) : okB (((toF Tryd.prog Ex 9000 Tryd.f7 0 0 1 1 (AAct.enter Tryd.f7.ntmps [.int .i64 n0, .int .i64 n1], M00)).bind fun s => toF Tryd.prog Ex 9000 Tryd.f7 1 2 1 4 (s.1.put (some 13) (.int .i64 14), s.2)).bind fun s => restF Tryd.prog Ex 9000 Tryd.f7 1 5 (s.1.put (some 16) (.int .i64 7), s.2)) = true := by kernel_rfl
theorem g_14 (n0 n1 : Int) (s1 : AAct × Store) (h1 : toF Tryd.prog Ex 9000 Tryd.f7 0 0 1 1 (AAct.enter Tryd.f7.ntmps [.int .i64 n0, .int .i64 n1], M00) = some s1) : okB (restF Tryd.prog Ex 9000 Tryd.f7 1 2 (s1.1.put (some 13) (.int .i64 14), s1.2)) = true := by
  have h := e_14 n0 n1
  rw [h1, Option.bind_some] at h
  obtain ⟨s2, h2, x2⟩ := Option.map_eq_some_iff.1 h
  rw [rest_rem (m := 8) (d := 16) (x := .tmp 15) (by decide) (by kernel_rfl) (by decide) h2 x2]
  obtain ⟨y, hy, vy⟩ := bits_rem n1 255 8 (by decide) (by decide)
  rw [vy]
  have all : ∀ y : Nat, y < 8 → okB (((toF Tryd.prog Ex 9000 Tryd.f7 0 0 1 1 (AAct.enter Tryd.f7.ntmps [.int .i64 n0, .int .i64 n1], M00)).bind fun s => toF Tryd.prog Ex 9000 Tryd.f7 1 2 1 4 (s.1.put (some 13) (.int .i64 14), s.2)).bind fun s => restF Tryd.prog Ex 9000 Tryd.f7 1 5 (s.1.put (some 16) (.int .i64 y), s.2)) = true := by
    intro y hy
    rcases (show y = 0 ∨ y = 1 ∨ y = 2 ∨ y = 3 ∨ y = 4 ∨ y = 5 ∨ y = 6 ∨ y = 7 by omega) with rfl | rfl | rfl | rfl | rfl | rfl | rfl | rfl
    · exact f_14_0 n0 n1
    · exact f_14_1 n0 n1
    · exact f_14_2 n0 n1
    · exact f_14_3 n0 n1
    · exact f_14_4 n0 n1
    · exact f_14_5 n0 n1
    · exact f_14_6 n0 n1
    · exact f_14_7 n0 n1
  have h3 := all y hy
  rw [h1, Option.bind_some, h2, Option.bind_some] at h3
  exact h3
theorem e_22 (n0 n1 : Int) : ((toF Tryd.prog Ex 9000 Tryd.f7 0 0 1 1 (AAct.enter Tryd.f7.ntmps [.int .i64 n0, .int .i64 n1], M00)).bind fun s => toF Tryd.prog Ex 9000 Tryd.f7 1 2 1 4 (s.1.put (some 13) (.int .i64 22), s.2)).map (fun s => s.1.eval (.tmp 15)) = some (.int .i64 (Go.Ab.bits n1 255)) := by kernel_rfl
theorem f_22_0 (n0 n1 : Int) : okB (((toF Tryd.prog Ex 9000 Tryd.f7 0 0 1 1 (AAct.enter Tryd.f7.ntmps [.int .i64 n0, .int .i64 n1], M00)).bind fun s => toF Tryd.prog Ex 9000 Tryd.f7 1 2 1 4 (s.1.put (some 13) (.int .i64 22), s.2)).bind fun s => restF Tryd.prog Ex 9000 Tryd.f7 1 5 (s.1.put (some 16) (.int .i64 0), s.2)) = true := by kernel_rfl
theorem f_22_1 (n0 n1 : Int) : okB (((toF Tryd.prog Ex 9000 Tryd.f7 0 0 1 1 (AAct.enter Tryd.f7.ntmps [.int .i64 n0, .int .i64 n1], M00)).bind fun s => toF Tryd.prog Ex 9000 Tryd.f7 1 2 1 4 (s.1.put (some 13) (.int .i64 22), s.2)).bind fun s => restF Tryd.prog Ex 9000 Tryd.f7 1 5 (s.1.put (some 16) (.int .i64 1), s.2)) = true := by kernel_rfl
theorem f_22_2 (n0 n1 : Int) : okB (((toF Tryd.prog Ex 9000 Tryd.f7 0 0 1 1 (AAct.enter Tryd.f7.ntmps [.int .i64 n0, .int .i64 n1], M00)).bind fun s => toF Tryd.prog Ex 9000 Tryd.f7 1 2 1 4 (s.1.put (some 13) (.int .i64 22), s.2)).bind fun s => restF Tryd.prog Ex 9000 Tryd.f7 1 5 (s.1.put (some 16) (.int .i64 2), s.2)) = true := by kernel_rfl
theorem f_22_3 (n0 n1 : Int) : okB (((toF Tryd.prog Ex 9000 Tryd.f7 0 0 1 1 (AAct.enter Tryd.f7.ntmps [.int .i64 n0, .int .i64 n1], M00)).bind fun s => toF Tryd.prog Ex 9000 Tryd.f7 1 2 1 4 (s.1.put (some 13) (.int .i64 22), s.2)).bind fun s => restF Tryd.prog Ex 9000 Tryd.f7 1 5 (s.1.put (some 16) (.int .i64 3), s.2)) = true := by kernel_rfl
theorem f_22_4 (n0 n1 : Int) : okB (((toF Tryd.prog Ex 9000 Tryd.f7 0 0 1 1 (AAct.enter Tryd.f7.ntmps [.int .i64 n0, .int .i64 n1], M00)).bind fun s => toF Tryd.prog Ex 9000 Tryd.f7 1 2 1 4 (s.1.put (some 13) (.int .i64 22), s.2)).bind fun s => restF Tryd.prog Ex 9000 Tryd.f7 1 5 (s.1.put (some 16) (.int .i64 4), s.2)) = true := by kernel_rfl
theorem f_22_5 (n0 n1 : Int) : okB (((toF Tryd.prog Ex 9000 Tryd.f7 0 0 1 1 (AAct.enter Tryd.f7.ntmps [.int .i64 n0, .int .i64 n1], M00)).bind fun s => toF Tryd.prog Ex 9000 Tryd.f7 1 2 1 4 (s.1.put (some 13) (.int .i64 22), s.2)).bind fun s => restF Tryd.prog Ex 9000 Tryd.f7 1 5 (s.1.put (some 16) (.int .i64 5), s.2)) = true := by kernel_rfl
theorem f_22_6 (n0 n1 : Int) : okB (((toF Tryd.prog Ex 9000 Tryd.f7 0 0 1 1 (AAct.enter Tryd.f7.ntmps [.int .i64 n0, .int .i64 n1], M00)).bind fun s => toF Tryd.prog Ex 9000 Tryd.f7 1 2 1 4 (s.1.put (some 13) (.int .i64 22), s.2)).bind fun s => restF Tryd.prog Ex 9000 Tryd.f7 1 5 (s.1.put (some 16) (.int .i64 6), s.2)) = true := by kernel_rfl
theorem f_22_7 (n0 n1 : Int) : okB (((toF Tryd.prog Ex 9000 Tryd.f7 0 0 1 1 (AAct.enter Tryd.f7.ntmps [.int .i64 n0, .int .i64 n1], M00)).bind fun s => toF Tryd.prog Ex 9000 Tryd.f7 1 2 1 4 (s.1.put (some 13) (.int .i64 22), s.2)).bind fun s => restF Tryd.prog Ex 9000 Tryd.f7 1 5 (s.1.put (some 16) (.int .i64 7), s.2)) = true := by kernel_rfl
theorem g_22 (n0 n1 : Int) (s1 : AAct × Store) (h1 : toF Tryd.prog Ex 9000 Tryd.f7 0 0 1 1 (AAct.enter Tryd.f7.ntmps [.int .i64 n0, .int .i64 n1], M00) = some s1) : okB (restF Tryd.prog Ex 9000 Tryd.f7 1 2 (s1.1.put (some 13) (.int .i64 22), s1.2)) = true := by
  have h := e_22 n0 n1
  rw [h1, Option.bind_some] at h
  obtain ⟨s2, h2, x2⟩ := Option.map_eq_some_iff.1 h
  rw [rest_rem (m := 8) (d := 16) (x := .tmp 15) (by decide) (by kernel_rfl) (by decide) h2 x2]
  obtain ⟨y, hy, vy⟩ := bits_rem n1 255 8 (by decide) (by decide)
  rw [vy]
  have all : ∀ y : Nat, y < 8 → okB (((toF Tryd.prog Ex 9000 Tryd.f7 0 0 1 1 (AAct.enter Tryd.f7.ntmps [.int .i64 n0, .int .i64 n1], M00)).bind fun s => toF Tryd.prog Ex 9000 Tryd.f7 1 2 1 4 (s.1.put (some 13) (.int .i64 22), s.2)).bind fun s => restF Tryd.prog Ex 9000 Tryd.f7 1 5 (s.1.put (some 16) (.int .i64 y), s.2)) = true := by
    intro y hy
    rcases (show y = 0 ∨ y = 1 ∨ y = 2 ∨ y = 3 ∨ y = 4 ∨ y = 5 ∨ y = 6 ∨ y = 7 by omega) with rfl | rfl | rfl | rfl | rfl | rfl | rfl | rfl
    · exact f_22_0 n0 n1
    · exact f_22_1 n0 n1
    · exact f_22_2 n0 n1
    · exact f_22_3 n0 n1
    · exact f_22_4 n0 n1
    · exact f_22_5 n0 n1
    · exact f_22_6 n0 n1
    · exact f_22_7 n0 n1
  have h3 := all y hy
  rw [h1, Option.bind_some, h2, Option.bind_some] at h3
  exact h3
theorem e_30 (n0 n1 : Int) : ((toF Tryd.prog Ex 9000 Tryd.f7 0 0 1 1 (AAct.enter Tryd.f7.ntmps [.int .i64 n0, .int .i64 n1], M00)).bind fun s => toF Tryd.prog Ex 9000 Tryd.f7 1 2 1 4 (s.1.put (some 13) (.int .i64 30), s.2)).map (fun s => s.1.eval (.tmp 15)) = some (.int .i64 (Go.Ab.bits n1 255)) := by kernel_rfl
theorem f_30_0 (n0 n1 : Int) : okB (((toF Tryd.prog Ex 9000 Tryd.f7 0 0 1 1 (AAct.enter Tryd.f7.ntmps [.int .i64 n0, .int .i64 n1], M00)).bind fun s => toF Tryd.prog Ex 9000 Tryd.f7 1 2 1 4 (s.1.put (some 13) (.int .i64 30), s.2)).bind fun s => restF Tryd.prog Ex 9000 Tryd.f7 1 5 (s.1.put (some 16) (.int .i64 0), s.2)) = true := by kernel_rfl
theorem f_30_1 (n0 n1 : Int) : okB (((toF Tryd.prog Ex 9000 Tryd.f7 0 0 1 1 (AAct.enter Tryd.f7.ntmps [.int .i64 n0, .int .i64 n1], M00)).bind fun s => toF Tryd.prog Ex 9000 Tryd.f7 1 2 1 4 (s.1.put (some 13) (.int .i64 30), s.2)).bind fun s => restF Tryd.prog Ex 9000 Tryd.f7 1 5 (s.1.put (some 16) (.int .i64 1), s.2)) = true := by kernel_rfl
theorem f_30_2 (n0 n1 : Int) : okB (((toF Tryd.prog Ex 9000 Tryd.f7 0 0 1 1 (AAct.enter Tryd.f7.ntmps [.int .i64 n0, .int .i64 n1], M00)).bind fun s => toF Tryd.prog Ex 9000 Tryd.f7 1 2 1 4 (s.1.put (some 13) (.int .i64 30), s.2)).bind fun s => restF Tryd.prog Ex 9000 Tryd.f7 1 5 (s.1.put (some 16) (.int .i64 2), s.2)) = true := by kernel_rfl
theorem f_30_3 (n0 n1 : Int) : okB (((toF Tryd.prog Ex 9000 Tryd.f7 0 0 1 1 (AAct.enter Tryd.f7.ntmps [.int .i64 n0, .int .i64 n1], M00)).bind fun s => toF Tryd.prog Ex 9000 Tryd.f7 1 2 1 4 (s.1.put (some 13) (.int .i64 30), s.2)).bind fun s => restF Tryd.prog Ex 9000 Tryd.f7 1 5 (s.1.put (some 16) (.int .i64 3), s.2)) = true := by kernel_rfl
theorem f_30_4 (n0 n1 : Int) : okB (((toF Tryd.prog Ex 9000 Tryd.f7 0 0 1 1 (AAct.enter Tryd.f7.ntmps [.int .i64 n0, .int .i64 n1], M00)).bind fun s => toF Tryd.prog Ex 9000 Tryd.f7 1 2 1 4 (s.1.put (some 13) (.int .i64 30), s.2)).bind fun s => restF Tryd.prog Ex 9000 Tryd.f7 1 5 (s.1.put (some 16) (.int .i64 4), s.2)) = true := by kernel_rfl
theorem f_30_5 (n0 n1 : Int) : okB (((toF Tryd.prog Ex 9000 Tryd.f7 0 0 1 1 (AAct.enter Tryd.f7.ntmps [.int .i64 n0, .int .i64 n1], M00)).bind fun s => toF Tryd.prog Ex 9000 Tryd.f7 1 2 1 4 (s.1.put (some 13) (.int .i64 30), s.2)).bind fun s => restF Tryd.prog Ex 9000 Tryd.f7 1 5 (s.1.put (some 16) (.int .i64 5), s.2)) = true := by kernel_rfl
theorem f_30_6 (n0 n1 : Int) : okB (((toF Tryd.prog Ex 9000 Tryd.f7 0 0 1 1 (AAct.enter Tryd.f7.ntmps [.int .i64 n0, .int .i64 n1], M00)).bind fun s => toF Tryd.prog Ex 9000 Tryd.f7 1 2 1 4 (s.1.put (some 13) (.int .i64 30), s.2)).bind fun s => restF Tryd.prog Ex 9000 Tryd.f7 1 5 (s.1.put (some 16) (.int .i64 6), s.2)) = true := by kernel_rfl
theorem f_30_7 (n0 n1 : Int) : okB (((toF Tryd.prog Ex 9000 Tryd.f7 0 0 1 1 (AAct.enter Tryd.f7.ntmps [.int .i64 n0, .int .i64 n1], M00)).bind fun s => toF Tryd.prog Ex 9000 Tryd.f7 1 2 1 4 (s.1.put (some 13) (.int .i64 30), s.2)).bind fun s => restF Tryd.prog Ex 9000 Tryd.f7 1 5 (s.1.put (some 16) (.int .i64 7), s.2)) = true := by kernel_rfl
theorem g_30 (n0 n1 : Int) (s1 : AAct × Store) (h1 : toF Tryd.prog Ex 9000 Tryd.f7 0 0 1 1 (AAct.enter Tryd.f7.ntmps [.int .i64 n0, .int .i64 n1], M00) = some s1) : okB (restF Tryd.prog Ex 9000 Tryd.f7 1 2 (s1.1.put (some 13) (.int .i64 30), s1.2)) = true := by
  have h := e_30 n0 n1
  rw [h1, Option.bind_some] at h
  obtain ⟨s2, h2, x2⟩ := Option.map_eq_some_iff.1 h
  rw [rest_rem (m := 8) (d := 16) (x := .tmp 15) (by decide) (by kernel_rfl) (by decide) h2 x2]
  obtain ⟨y, hy, vy⟩ := bits_rem n1 255 8 (by decide) (by decide)
  rw [vy]
  have all : ∀ y : Nat, y < 8 → okB (((toF Tryd.prog Ex 9000 Tryd.f7 0 0 1 1 (AAct.enter Tryd.f7.ntmps [.int .i64 n0, .int .i64 n1], M00)).bind fun s => toF Tryd.prog Ex 9000 Tryd.f7 1 2 1 4 (s.1.put (some 13) (.int .i64 30), s.2)).bind fun s => restF Tryd.prog Ex 9000 Tryd.f7 1 5 (s.1.put (some 16) (.int .i64 y), s.2)) = true := by
    intro y hy
    rcases (show y = 0 ∨ y = 1 ∨ y = 2 ∨ y = 3 ∨ y = 4 ∨ y = 5 ∨ y = 6 ∨ y = 7 by omega) with rfl | rfl | rfl | rfl | rfl | rfl | rfl | rfl
    · exact f_30_0 n0 n1
    · exact f_30_1 n0 n1
    · exact f_30_2 n0 n1
    · exact f_30_3 n0 n1
    · exact f_30_4 n0 n1
    · exact f_30_5 n0 n1
    · exact f_30_6 n0 n1
    · exact f_30_7 n0 n1
  have h3 := all y hy
  rw [h1, Option.bind_some, h2, Option.bind_some] at h3
  exact h3
theorem e_38 (n0 n1 : Int) : ((toF Tryd.prog Ex 9000 Tryd.f7 0 0 1 1 (AAct.enter Tryd.f7.ntmps [.int .i64 n0, .int .i64 n1], M00)).bind fun s => toF Tryd.prog Ex 9000 Tryd.f7 1 2 1 4 (s.1.put (some 13) (.int .i64 38), s.2)).map (fun s => s.1.eval (.tmp 15)) = some (.int .i64 (Go.Ab.bits n1 255)) := by kernel_rfl
theorem f_38_0 (n0 n1 : Int) : okB (((toF Tryd.prog Ex 9000 Tryd.f7 0 0 1 1 (AAct.enter Tryd.f7.ntmps [.int .i64 n0, .int .i64 n1], M00)).bind fun s => toF Tryd.prog Ex 9000 Tryd.f7 1 2 1 4 (s.1.put (some 13) (.int .i64 38), s.2)).bind fun s => restF Tryd.prog Ex 9000 Tryd.f7 1 5 (s.1.put (some 16) (.int .i64 0), s.2)) = true := by kernel_rfl
theorem f_38_1 (n0 n1 : Int) : okB (((toF Tryd.prog Ex 9000 Tryd.f7 0 0 1 1 (AAct.enter Tryd.f7.ntmps [.int .i64 n0, .int .i64 n1], M00)).bind fun s => toF Tryd.prog Ex 9000 Tryd.f7 1 2 1 4 (s.1.put (some 13) (.int .i64 38), s.2)).bind fun s => restF Tryd.prog Ex 9000 Tryd.f7 1 5 (s.1.put (some 16) (.int .i64 1), s.2)) = true := by kernel_rfl
theorem f_38_2 (n0 n1 : Int) : okB (((toF Tryd.prog Ex 9000 Tryd.f7 0 0 1 1 (AAct.enter Tryd.f7.ntmps [.int .i64 n0, .int .i64 n1], M00)).bind fun s => toF Tryd.prog Ex 9000 Tryd.f7 1 2 1 4 (s.1.put (some 13) (.int .i64 38), s.2)).bind fun s => restF Tryd.prog Ex 9000 Tryd.f7 1 5 (s.1.put (some 16) (.int .i64 2), s.2)) = true := by kernel_rfl
theorem f_38_3 (n0 n1 : Int) : okB (((toF Tryd.prog Ex 9000 Tryd.f7 0 0 1 1 (AAct.enter Tryd.f7.ntmps [.int .i64 n0, .int .i64 n1], M00)).bind fun s => toF Tryd.prog Ex 9000 Tryd.f7 1 2 1 4 (s.1.put (some 13) (.int .i64 38), s.2)).bind fun s => restF Tryd.prog Ex 9000 Tryd.f7 1 5 (s.1.put (some 16) (.int .i64 3), s.2)) = true := by kernel_rfl
theorem f_38_4 (n0 n1 : Int) : okB (((toF Tryd.prog Ex 9000 Tryd.f7 0 0 1 1 (AAct.enter Tryd.f7.ntmps [.int .i64 n0, .int .i64 n1], M00)).bind fun s => toF Tryd.prog Ex 9000 Tryd.f7 1 2 1 4 (s.1.put (some 13) (.int .i64 38), s.2)).bind fun s => restF Tryd.prog Ex 9000 Tryd.f7 1 5 (s.1.put (some 16) (.int .i64 4), s.2)) = true := by kernel_rfl
theorem f_38_5 (n0 n1 : Int) : okB (((toF Tryd.prog Ex 9000 Tryd.f7 0 0 1 1 (AAct.enter Tryd.f7.ntmps [.int .i64 n0, .int .i64 n1], M00)).bind fun s => toF Tryd.prog Ex 9000 Tryd.f7 1 2 1 4 (s.1.put (some 13) (.int .i64 38), s.2)).bind fun s => restF Tryd.prog Ex 9000 Tryd.f7 1 5 (s.1.put (some 16) (.int .i64 5), s.2)) = true := by kernel_rfl
theorem f_38_6 (n0 n1 : Int) : okB (((toF Tryd.prog Ex 9000 Tryd.f7 0 0 1 1 (AAct.enter Tryd.f7.ntmps [.int .i64 n0, .int .i64 n1], M00)).bind fun s => toF Tryd.prog Ex 9000 Tryd.f7 1 2 1 4 (s.1.put (some 13) (.int .i64 38), s.2)).bind fun s => restF Tryd.prog Ex 9000 Tryd.f7 1 5 (s.1.put (some 16) (.int .i64 6), s.2)) = true := by kernel_rfl
theorem f_38_7 (n0 n1 : Int) : okB (((toF Tryd.prog Ex 9000 Tryd.f7 0 0 1 1 (AAct.enter Tryd.f7.ntmps [.int .i64 n0, .int .i64 n1], M00)).bind fun s => toF Tryd.prog Ex 9000 Tryd.f7 1 2 1 4 (s.1.put (some 13) (.int .i64 38), s.2)).bind fun s => restF Tryd.prog Ex 9000 Tryd.f7 1 5 (s.1.put (some 16) (.int .i64 7), s.2)) = true := by kernel_rfl
theorem g_38 (n0 n1 : Int) (s1 : AAct × Store) (h1 : toF Tryd.prog Ex 9000 Tryd.f7 0 0 1 1 (AAct.enter Tryd.f7.ntmps [.int .i64 n0, .int .i64 n1], M00) = some s1) : okB (restF Tryd.prog Ex 9000 Tryd.f7 1 2 (s1.1.put (some 13) (.int .i64 38), s1.2)) = true := by
  have h := e_38 n0 n1
  rw [h1, Option.bind_some] at h
  obtain ⟨s2, h2, x2⟩ := Option.map_eq_some_iff.1 h
  rw [rest_rem (m := 8) (d := 16) (x := .tmp 15) (by decide) (by kernel_rfl) (by decide) h2 x2]
  obtain ⟨y, hy, vy⟩ := bits_rem n1 255 8 (by decide) (by decide)
  rw [vy]
  have all : ∀ y : Nat, y < 8 → okB (((toF Tryd.prog Ex 9000 Tryd.f7 0 0 1 1 (AAct.enter Tryd.f7.ntmps [.int .i64 n0, .int .i64 n1], M00)).bind fun s => toF Tryd.prog Ex 9000 Tryd.f7 1 2 1 4 (s.1.put (some 13) (.int .i64 38), s.2)).bind fun s => restF Tryd.prog Ex 9000 Tryd.f7 1 5 (s.1.put (some 16) (.int .i64 y), s.2)) = true := by
    intro y hy
    rcases (show y = 0 ∨ y = 1 ∨ y = 2 ∨ y = 3 ∨ y = 4 ∨ y = 5 ∨ y = 6 ∨ y = 7 by omega) with rfl | rfl | rfl | rfl | rfl | rfl | rfl | rfl
    · exact f_38_0 n0 n1
    · exact f_38_1 n0 n1
    · exact f_38_2 n0 n1
    · exact f_38_3 n0 n1
    · exact f_38_4 n0 n1
    · exact f_38_5 n0 n1
    · exact f_38_6 n0 n1
    · exact f_38_7 n0 n1
  have h3 := all y hy
  rw [h1, Option.bind_some, h2, Option.bind_some] at h3
  exact h3
theorem e_46 (n0 n1 : Int) : ((toF Tryd.prog Ex 9000 Tryd.f7 0 0 1 1 (AAct.enter Tryd.f7.ntmps [.int .i64 n0, .int .i64 n1], M00)).bind fun s => toF Tryd.prog Ex 9000 Tryd.f7 1 2 1 4 (s.1.put (some 13) (.int .i64 46), s.2)).map (fun s => s.1.eval (.tmp 15)) = some (.int .i64 (Go.Ab.bits n1 255)) := by kernel_rfl
theorem f_46_0 (n0 n1 : Int) : okB (((toF Tryd.prog Ex 9000 Tryd.f7 0 0 1 1 (AAct.enter Tryd.f7.ntmps [.int .i64 n0, .int .i64 n1], M00)).bind fun s => toF Tryd.prog Ex 9000 Tryd.f7 1 2 1 4 (s.1.put (some 13) (.int .i64 46), s.2)).bind fun s => restF Tryd.prog Ex 9000 Tryd.f7 1 5 (s.1.put (some 16) (.int .i64 0), s.2)) = true := by kernel_rfl
theorem f_46_1 (n0 n1 : Int) : okB (((toF Tryd.prog Ex 9000 Tryd.f7 0 0 1 1 (AAct.enter Tryd.f7.ntmps [.int .i64 n0, .int .i64 n1], M00)).bind fun s => toF Tryd.prog Ex 9000 Tryd.f7 1 2 1 4 (s.1.put (some 13) (.int .i64 46), s.2)).bind fun s => restF Tryd.prog Ex 9000 Tryd.f7 1 5 (s.1.put (some 16) (.int .i64 1), s.2)) = true := by kernel_rfl
theorem f_46_2 (n0 n1 : Int) : okB (((toF Tryd.prog Ex 9000 Tryd.f7 0 0 1 1 (AAct.enter Tryd.f7.ntmps [.int .i64 n0, .int .i64 n1], M00)).bind fun s => toF Tryd.prog Ex 9000 Tryd.f7 1 2 1 4 (s.1.put (some 13) (.int .i64 46), s.2)).bind fun s => restF Tryd.prog Ex 9000 Tryd.f7 1 5 (s.1.put (some 16) (.int .i64 2), s.2)) = true := by kernel_rfl
theorem f_46_3 (n0 n1 : Int) : okB (((toF Tryd.prog Ex 9000 Tryd.f7 0 0 1 1 (AAct.enter Tryd.f7.ntmps [.int .i64 n0, .int .i64 n1], M00)).bind fun s => toF Tryd.prog Ex 9000 Tryd.f7 1 2 1 4 (s.1.put (some 13) (.int .i64 46), s.2)).bind fun s => restF Tryd.prog Ex 9000 Tryd.f7 1 5 (s.1.put (some 16) (.int .i64 3), s.2)) = true := by kernel_rfl
theorem f_46_4 (n0 n1 : Int) : okB (((toF Tryd.prog Ex 9000 Tryd.f7 0 0 1 1 (AAct.enter Tryd.f7.ntmps [.int .i64 n0, .int .i64 n1], M00)).bind fun s => toF Tryd.prog Ex 9000 Tryd.f7 1 2 1 4 (s.1.put (some 13) (.int .i64 46), s.2)).bind fun s => restF Tryd.prog Ex 9000 Tryd.f7 1 5 (s.1.put (some 16) (.int .i64 4), s.2)) = true := by kernel_rfl
theorem f_46_5 (n0 n1 : Int) : okB (((toF Tryd.prog Ex 9000 Tryd.f7 0 0 1 1 (AAct.enter Tryd.f7.ntmps [.int .i64 n0, .int .i64 n1], M00)).bind fun s => toF Tryd.prog Ex 9000 Tryd.f7 1 2 1 4 (s.1.put (some 13) (.int .i64 46), s.2)).bind fun s => restF Tryd.prog Ex 9000 Tryd.f7 1 5 (s.1.put (some 16) (.int .i64 5), s.2)) = true := by kernel_rfl
theorem f_46_6 (n0 n1 : Int) : okB (((toF Tryd.prog Ex 9000 Tryd.f7 0 0 1 1 (AAct.enter Tryd.f7.ntmps [.int .i64 n0, .int .i64 n1], M00)).bind fun s => toF Tryd.prog Ex 9000 Tryd.f7 1 2 1 4 (s.1.put (some 13) (.int .i64 46), s.2)).bind fun s => restF Tryd.prog Ex 9000 Tryd.f7 1 5 (s.1.put (some 16) (.int .i64 6), s.2)) = true := by kernel_rfl
theorem f_46_7 (n0 n1 : Int) : okB (((toF Tryd.prog Ex 9000 Tryd.f7 0 0 1 1 (AAct.enter Tryd.f7.ntmps [.int .i64 n0, .int .i64 n1], M00)).bind fun s => toF Tryd.prog Ex 9000 Tryd.f7 1 2 1 4 (s.1.put (some 13) (.int .i64 46), s.2)).bind fun s => restF Tryd.prog Ex 9000 Tryd.f7 1 5 (s.1.put (some 16) (.int .i64 7), s.2)) = true := by kernel_rfl
theorem g_46 (n0 n1 : Int) (s1 : AAct × Store) (h1 : toF Tryd.prog Ex 9000 Tryd.f7 0 0 1 1 (AAct.enter Tryd.f7.ntmps [.int .i64 n0, .int .i64 n1], M00) = some s1) : okB (restF Tryd.prog Ex 9000 Tryd.f7 1 2 (s1.1.put (some 13) (.int .i64 46), s1.2)) = true := by
  have h := e_46 n0 n1
  rw [h1, Option.bind_some] at h
  obtain ⟨s2, h2, x2⟩ := Option.map_eq_some_iff.1 h
  rw [rest_rem (m := 8) (d := 16) (x := .tmp 15) (by decide) (by kernel_rfl) (by decide) h2 x2]
  obtain ⟨y, hy, vy⟩ := bits_rem n1 255 8 (by decide) (by decide)
  rw [vy]
  have all : ∀ y : Nat, y < 8 → okB (((toF Tryd.prog Ex 9000 Tryd.f7 0 0 1 1 (AAct.enter Tryd.f7.ntmps [.int .i64 n0, .int .i64 n1], M00)).bind fun s => toF Tryd.prog Ex 9000 Tryd.f7 1 2 1 4 (s.1.put (some 13) (.int .i64 46), s.2)).bind fun s => restF Tryd.prog Ex 9000 Tryd.f7 1 5 (s.1.put (some 16) (.int .i64 y), s.2)) = true := by
    intro y hy
    rcases (show y = 0 ∨ y = 1 ∨ y = 2 ∨ y = 3 ∨ y = 4 ∨ y = 5 ∨ y = 6 ∨ y = 7 by omega) with rfl | rfl | rfl | rfl | rfl | rfl | rfl | rfl
    · exact f_46_0 n0 n1
    · exact f_46_1 n0 n1
    · exact f_46_2 n0 n1
    · exact f_46_3 n0 n1
    · exact f_46_4 n0 n1
    · exact f_46_5 n0 n1
    · exact f_46_6 n0 n1
    · exact f_46_7 n0 n1
  have h3 := all y hy
  rw [h1, Option.bind_some, h2, Option.bind_some] at h3
  exact h3
theorem e_54 (n0 n1 : Int) : ((toF Tryd.prog Ex 9000 Tryd.f7 0 0 1 1 (AAct.enter Tryd.f7.ntmps [.int .i64 n0, .int .i64 n1], M00)).bind fun s => toF Tryd.prog Ex 9000 Tryd.f7 1 2 1 4 (s.1.put (some 13) (.int .i64 54), s.2)).map (fun s => s.1.eval (.tmp 15)) = some (.int .i64 (Go.Ab.bits n1 255)) := by kernel_rfl
theorem f_54_0 (n0 n1 : Int) : okB (((toF Tryd.prog Ex 9000 Tryd.f7 0 0 1 1 (AAct.enter Tryd.f7.ntmps [.int .i64 n0, .int .i64 n1], M00)).bind fun s => toF Tryd.prog Ex 9000 Tryd.f7 1 2 1 4 (s.1.put (some 13) (.int .i64 54), s.2)).bind fun s => restF Tryd.prog Ex 9000 Tryd.f7 1 5 (s.1.put (some 16) (.int .i64 0), s.2)) = true := by kernel_rfl
theorem f_54_1 (n0 n1 : Int) : okB (((toF Tryd.prog Ex 9000 Tryd.f7 0 0 1 1 (AAct.enter Tryd.f7.ntmps [.int .i64 n0, .int .i64 n1], M00)).bind fun s => toF Tryd.prog Ex 9000 Tryd.f7 1 2 1 4 (s.1.put (some 13) (.int .i64 54), s.2)).bind fun s => restF Tryd.prog Ex 9000 Tryd.f7 1 5 (s.1.put (some 16) (.int .i64 1), s.2)) = true := by kernel_rfl
theorem f_54_2 (n0 n1 : Int) : okB (((toF Tryd.prog Ex 9000 Tryd.f7 0 0 1 1 (AAct.enter Tryd.f7.ntmps [.int .i64 n0, .int .i64 n1], M00)).bind fun s => toF Tryd.prog Ex 9000 Tryd.f7 1 2 1 4 (s.1.put (some 13) (.int .i64 54), s.2)).bind fun s => restF Tryd.prog Ex 9000 Tryd.f7 1 5 (s.1.put (some 16) (.int .i64 2), s.2)) = true := by kernel_rfl
theorem f_54_3 (n0 n1 : Int) : okB (((toF Tryd.prog Ex 9000 Tryd.f7 0 0 1 1 (AAct.enter Tryd.f7.ntmps [.int .i64 n0, .int .i64 n1], M00)).bind fun s => toF Tryd.prog Ex 9000 Tryd.f7 1 2 1 4 (s.1.put (some 13) (.int .i64 54), s.2)).bind fun s => restF Tryd.prog Ex 9000 Tryd.f7 1 5 (s.1.put (some 16) (.int .i64 3), s.2)) = true := by kernel_rfl
theorem f_54_4 (n0 n1 : Int) : okB (((toF Tryd.prog Ex 9000 Tryd.f7 0 0 1 1 (AAct.enter Tryd.f7.ntmps [.int .i64 n0, .int .i64 n1], M00)).bind fun s => toF Tryd.prog Ex 9000 Tryd.f7 1 2 1 4 (s.1.put (some 13) (.int .i64 54), s.2)).bind fun s => restF Tryd.prog Ex 9000 Tryd.f7 1 5 (s.1.put (some 16) (.int .i64 4), s.2)) = true := by kernel_rfl
theorem f_54_5 (n0 n1 : Int) : okB (((toF Tryd.prog Ex 9000 Tryd.f7 0 0 1 1 (AAct.enter Tryd.f7.ntmps [.int .i64 n0, .int .i64 n1], M00)).bind fun s => toF Tryd.prog Ex 9000 Tryd.f7 1 2 1 4 (s.1.put (some 13) (.int .i64 54), s.2)).bind fun s => restF Tryd.prog Ex 9000 Tryd.f7 1 5 (s.1.put (some 16) (.int .i64 5), s.2)) = true := by kernel_rfl
theorem f_54_6 (n0 n1 : Int) : okB (((toF Tryd.prog Ex 9000 Tryd.f7 0 0 1 1 (AAct.enter Tryd.f7.ntmps [.int .i64 n0, .int .i64 n1], M00)).bind fun s => toF Tryd.prog Ex 9000 Tryd.f7 1 2 1 4 (s.1.put (some 13) (.int .i64 54), s.2)).bind fun s => restF Tryd.prog Ex 9000 Tryd.f7 1 5 (s.1.put (some 16) (.int .i64 6), s.2)) = true := by kernel_rfl
theorem f_54_7 (n0 n1 : Int) : okB (((toF Tryd.prog Ex 9000 Tryd.f7 0 0 1 1 (AAct.enter Tryd.f7.ntmps [.int .i64 n0, .int .i64 n1], M00)).bind fun s => toF Tryd.prog Ex 9000 Tryd.f7 1 2 1 4 (s.1.put (some 13) (.int .i64 54), s.2)).bind fun s => restF Tryd.prog Ex 9000 Tryd.f7 1 5 (s.1.put (some 16) (.int .i64 7), s.2)) = true := by kernel_rfl
theorem g_54 (n0 n1 : Int) (s1 : AAct × Store) (h1 : toF Tryd.prog Ex 9000 Tryd.f7 0 0 1 1 (AAct.enter Tryd.f7.ntmps [.int .i64 n0, .int .i64 n1], M00) = some s1) : okB (restF Tryd.prog Ex 9000 Tryd.f7 1 2 (s1.1.put (some 13) (.int .i64 54), s1.2)) = true := by
  have h := e_54 n0 n1
  rw [h1, Option.bind_some] at h
  obtain ⟨s2, h2, x2⟩ := Option.map_eq_some_iff.1 h
  rw [rest_rem (m := 8) (d := 16) (x := .tmp 15) (by decide) (by kernel_rfl) (by decide) h2 x2]
  obtain ⟨y, hy, vy⟩ := bits_rem n1 255 8 (by decide) (by decide)
  rw [vy]
  have all : ∀ y : Nat, y < 8 → okB (((toF Tryd.prog Ex 9000 Tryd.f7 0 0 1 1 (AAct.enter Tryd.f7.ntmps [.int .i64 n0, .int .i64 n1], M00)).bind fun s => toF Tryd.prog Ex 9000 Tryd.f7 1 2 1 4 (s.1.put (some 13) (.int .i64 54), s.2)).bind fun s => restF Tryd.prog Ex 9000 Tryd.f7 1 5 (s.1.put (some 16) (.int .i64 y), s.2)) = true := by
    intro y hy
    rcases (show y = 0 ∨ y = 1 ∨ y = 2 ∨ y = 3 ∨ y = 4 ∨ y = 5 ∨ y = 6 ∨ y = 7 by omega) with rfl | rfl | rfl | rfl | rfl | rfl | rfl | rfl
    · exact f_54_0 n0 n1
    · exact f_54_1 n0 n1
    · exact f_54_2 n0 n1
    · exact f_54_3 n0 n1
    · exact f_54_4 n0 n1
    · exact f_54_5 n0 n1
    · exact f_54_6 n0 n1
    · exact f_54_7 n0 n1
  have h3 := all y hy
  rw [h1, Option.bind_some, h2, Option.bind_some] at h3
  exact h3
theorem e_62 (n0 n1 : Int) : ((toF Tryd.prog Ex 9000 Tryd.f7 0 0 1 1 (AAct.enter Tryd.f7.ntmps [.int .i64 n0, .int .i64 n1], M00)).bind fun s => toF Tryd.prog Ex 9000 Tryd.f7 1 2 1 4 (s.1.put (some 13) (.int .i64 62), s.2)).map (fun s => s.1.eval (.tmp 15)) = some (.int .i64 (Go.Ab.bits n1 255)) := by kernel_rfl
theorem f_62_0 (n0 n1 : Int) : okB (((toF Tryd.prog Ex 9000 Tryd.f7 0 0 1 1 (AAct.enter Tryd.f7.ntmps [.int .i64 n0, .int .i64 n1], M00)).bind fun s => toF Tryd.prog Ex 9000 Tryd.f7 1 2 1 4 (s.1.put (some 13) (.int .i64 62), s.2)).bind fun s => restF Tryd.prog Ex 9000 Tryd.f7 1 5 (s.1.put (some 16) (.int .i64 0), s.2)) = true := by kernel_rfl
theorem f_62_1 (n0 n1 : Int) : okB (((toF Tryd.prog Ex 9000 Tryd.f7 0 0 1 1 (AAct.enter Tryd.f7.ntmps [.int .i64 n0, .int .i64 n1], M00)).bind fun s => toF Tryd.prog Ex 9000 Tryd.f7 1 2 1 4 (s.1.put (some 13) (.int .i64 62), s.2)).bind fun s => restF Tryd.prog Ex 9000 Tryd.f7 1 5 (s.1.put (some 16) (.int .i64 1), s.2)) = true := by kernel_rfl
theorem f_62_2 (n0 n1 : Int) : okB (((toF Tryd.prog Ex 9000 Tryd.f7 0 0 1 1 (AAct.enter Tryd.f7.ntmps [.int .i64 n0, .int .i64 n1], M00)).bind fun s => toF Tryd.prog Ex 9000 Tryd.f7 1 2 1 4 (s.1.put (some 13) (.int .i64 62), s.2)).bind fun s => restF Tryd.prog Ex 9000 Tryd.f7 1 5 (s.1.put (some 16) (.int .i64 2), s.2)) = true := by kernel_rfl
theorem f_62_3 (n0 n1 : Int) : okB (((toF Tryd.prog Ex 9000 Tryd.f7 0 0 1 1 (AAct.enter Tryd.f7.ntmps [.int .i64 n0, .int .i64 n1], M00)).bind fun s => toF Tryd.prog Ex 9000 Tryd.f7 1 2 1 4 (s.1.put (some 13) (.int .i64 62), s.2)).bind fun s => restF Tryd.prog Ex 9000 Tryd.f7 1 5 (s.1.put (some 16) (.int .i64 3), s.2)) = true := by kernel_rfl
theorem f_62_4 (n0 n1 : Int) : okB (((toF Tryd.prog Ex 9000 Tryd.f7 0 0 1 1 (AAct.enter Tryd.f7.ntmps [.int .i64 n0, .int .i64 n1], M00)).bind fun s => toF Tryd.prog Ex 9000 Tryd.f7 1 2 1 4 (s.1.put (some 13) (.int .i64 62), s.2)).bind fun s => restF Tryd.prog Ex 9000 Tryd.f7 1 5 (s.1.put (some 16) (.int .i64 4), s.2)) = true := by kernel_rfl
theorem f_62_5 (n0 n1 : Int) : okB (((toF Tryd.prog Ex 9000 Tryd.f7 0 0 1 1 (AAct.enter Tryd.f7.ntmps [.int .i64 n0, .int .i64 n1], M00)).bind fun s => toF Tryd.prog Ex 9000 Tryd.f7 1 2 1 4 (s.1.put (some 13) (.int .i64 62), s.2)).bind fun s => restF Tryd.prog Ex 9000 Tryd.f7 1 5 (s.1.put (some 16) (.int .i64 5), s.2)) = true := by kernel_rfl
theorem f_62_6 (n0 n1 : Int) : okB (((toF Tryd.prog Ex 9000 Tryd.f7 0 0 1 1 (AAct.enter Tryd.f7.ntmps [.int .i64 n0, .int .i64 n1], M00)).bind fun s => toF Tryd.prog Ex 9000 Tryd.f7 1 2 1 4 (s.1.put (some 13) (.int .i64 62), s.2)).bind fun s => restF Tryd.prog Ex 9000 Tryd.f7 1 5 (s.1.put (some 16) (.int .i64 6), s.2)) = true := by kernel_rfl
theorem f_62_7 (n0 n1 : Int) : okB (((toF Tryd.prog Ex 9000 Tryd.f7 0 0 1 1 (AAct.enter Tryd.f7.ntmps [.int .i64 n0, .int .i64 n1], M00)).bind fun s => toF Tryd.prog Ex 9000 Tryd.f7 1 2 1 4 (s.1.put (some 13) (.int .i64 62), s.2)).bind fun s => restF Tryd.prog Ex 9000 Tryd.f7 1 5 (s.1.put (some 16) (.int .i64 7), s.2)) = true := by kernel_rfl
theorem g_62 (n0 n1 : Int) (s1 : AAct × Store) (h1 : toF Tryd.prog Ex 9000 Tryd.f7 0 0 1 1 (AAct.enter Tryd.f7.ntmps [.int .i64 n0, .int .i64 n1], M00) = some s1) : okB (restF Tryd.prog Ex 9000 Tryd.f7 1 2 (s1.1.put (some 13) (.int .i64 62), s1.2)) = true := by
  have h := e_62 n0 n1
  rw [h1, Option.bind_some] at h
  obtain ⟨s2, h2, x2⟩ := Option.map_eq_some_iff.1 h
  rw [rest_rem (m := 8) (d := 16) (x := .tmp 15) (by decide) (by kernel_rfl) (by decide) h2 x2]
  obtain ⟨y, hy, vy⟩ := bits_rem n1 255 8 (by decide) (by decide)
  rw [vy]
  have all : ∀ y : Nat, y < 8 → okB (((toF Tryd.prog Ex 9000 Tryd.f7 0 0 1 1 (AAct.enter Tryd.f7.ntmps [.int .i64 n0, .int .i64 n1], M00)).bind fun s => toF Tryd.prog Ex 9000 Tryd.f7 1 2 1 4 (s.1.put (some 13) (.int .i64 62), s.2)).bind fun s => restF Tryd.prog Ex 9000 Tryd.f7 1 5 (s.1.put (some 16) (.int .i64 y), s.2)) = true := by
    intro y hy
    rcases (show y = 0 ∨ y = 1 ∨ y = 2 ∨ y = 3 ∨ y = 4 ∨ y = 5 ∨ y = 6 ∨ y = 7 by omega) with rfl | rfl | rfl | rfl | rfl | rfl | rfl | rfl
    · exact f_62_0 n0 n1
    · exact f_62_1 n0 n1
    · exact f_62_2 n0 n1
    · exact f_62_3 n0 n1
    · exact f_62_4 n0 n1
    · exact f_62_5 n0 n1
    · exact f_62_6 n0 n1
    · exact f_62_7 n0 n1
  have h3 := all y hy
  rw [h1, Option.bind_some, h2, Option.bind_some] at h3
  exact h3
end actsGrow
end Go.G
