/- ActsGrow: its runs, part 1. -/
import Derived.Test.YtjchjhkhopcalaaDoorPAW
import Derived.Test.YtjchjhkhopcalaaDoorPAbFin
namespace Go.G
open Go.Ab Go.Proofs Go.RowKit
set_option linter.unusedVariables false
set_option maxRecDepth 100000
namespace actsGrow
theorem e_1 (n0 n1 : Int) : ((toF Tryd.prog Ex 9000 Tryd.f7 0 0 1 1 (AAct.enter Tryd.f7.ntmps [.int .i64 n0, .int .i64 n1], M00)).bind fun s => toF Tryd.prog Ex 9000 Tryd.f7 1 2 1 4 (s.1.put (some 13) (.int .i64 1), s.2)).map (fun s => s.1.eval (.tmp 15)) = some (.int .i64 (Go.Ab.bits n1 255)) := by kernel_rfl
theorem f_1_0 (n0 n1 : Int) : okB (((toF Tryd.prog Ex 9000 Tryd.f7 0 0 1 1 (AAct.enter Tryd.f7.ntmps [.int .i64 n0, .int .i64 n1], M00)).bind fun s => toF Tryd.prog Ex 9000 Tryd.f7 1 2 1 4 (s.1.put (some 13) (.int .i64 1), s.2)).bind fun s => restF Tryd.prog Ex 9000 Tryd.f7 1 5 (s.1.put (some 16) (.int .i64 0), s.2)) = true := by kernel_rfl
theorem f_1_1 (n0 n1 : Int) : okB (((toF Tryd.prog Ex 9000 Tryd.f7 0 0 1 1 (AAct.enter Tryd.f7.ntmps [.int .i64 n0, .int .i64 n1], M00)).bind fun s => toF Tryd.prog Ex 9000 Tryd.f7 1 2 1 4 (s.1.put (some 13) (.int .i64 1), s.2)).bind fun s => restF Tryd.prog Ex 9000 Tryd.f7 1 5 (s.1.put (some 16) (.int .i64 1), s.2)) = true := by kernel_rfl
theorem f_1_2 (n0 n1 : Int) : okB (((toF Tryd.prog Ex 9000 Tryd.f7 0 0 1 1 (AAct.enter Tryd.f7.ntmps [.int .i64 n0, .int .i64 n1], M00)).bind fun s => toF Tryd.prog Ex 9000 Tryd.f7 1 2 1 4 (s.1.put (some 13) (.int .i64 1), s.2)).bind fun s => restF Tryd.prog Ex 9000 Tryd.f7 1 5 (s.1.put (some 16) (.int .i64 2), s.2)) = true := by kernel_rfl
theorem f_1_3 (n0 n1 : Int) : okB (((toF Tryd.prog Ex 9000 Tryd.f7 0 0 1 1 (AAct.enter Tryd.f7.ntmps [.int .i64 n0, .int .i64 n1], M00)).bind fun s => toF Tryd.prog Ex 9000 Tryd.f7 1 2 1 4 (s.1.put (some 13) (.int .i64 1), s.2)).bind fun s => restF Tryd.prog Ex 9000 Tryd.f7 1 5 (s.1.put (some 16) (.int .i64 3), s.2)) = true := by kernel_rfl
theorem f_1_4 (n0 n1 : Int) : okB (((toF Tryd.prog Ex 9000 Tryd.f7 0 0 1 1 (AAct.enter Tryd.f7.ntmps [.int .i64 n0, .int .i64 n1], M00)).bind fun s => toF Tryd.prog Ex 9000 Tryd.f7 1 2 1 4 (s.1.put (some 13) (.int .i64 1), s.2)).bind fun s => restF Tryd.prog Ex 9000 Tryd.f7 1 5 (s.1.put (some 16) (.int .i64 4), s.2)) = true := by kernel_rfl
theorem f_1_5 (n0 n1 : Int) : okB (((toF Tryd.prog Ex 9000 Tryd.f7 0 0 1 1 (AAct.enter Tryd.f7.ntmps [.int .i64 n0, .int .i64 n1], M00)).bind fun s => toF Tryd.prog Ex 9000 Tryd.f7 1 2 1 4 (s.1.put (some 13) (.int .i64 1), s.2)).bind fun s => restF Tryd.prog Ex 9000 Tryd.f7 1 5 (s.1.put (some 16) (.int .i64 5), s.2)) = true := by kernel_rfl
theorem f_1_6 (n0 n1 : Int) : okB (((toF Tryd.prog Ex 9000 Tryd.f7 0 0 1 1 (AAct.enter Tryd.f7.ntmps [.int .i64 n0, .int .i64 n1], M00)).bind fun s => toF Tryd.prog Ex 9000 Tryd.f7 1 2 1 4 (s.1.put (some 13) (.int .i64 1), s.2)).bind fun s => restF Tryd.prog Ex 9000 Tryd.f7 1 5 (s.1.put (some 16) (.int .i64 6), s.2)) = true := by kernel_rfl
theorem f_1_7 (n0 n1 : Int) : okB (((toF Tryd.prog Ex 9000 Tryd.f7 0 0 1 1 (AAct.enter Tryd.f7.ntmps [.int .i64 n0, .int .i64 n1], M00)).bind fun s => toF Tryd.prog Ex 9000 Tryd.f7 1 2 1 4 (s.1.put (some 13) (.int .i64 1), s.2)).bind fun s => restF Tryd.prog Ex 9000 Tryd.f7 1 5 (s.1.put (some 16) (.int .i64 7), s.2)) = true := by kernel_rfl
theorem g_1 (n0 n1 : Int) (s1 : AAct × Store) (h1 : toF Tryd.prog Ex 9000 Tryd.f7 0 0 1 1 (AAct.enter Tryd.f7.ntmps [.int .i64 n0, .int .i64 n1], M00) = some s1) : okB (restF Tryd.prog Ex 9000 Tryd.f7 1 2 (s1.1.put (some 13) (.int .i64 1), s1.2)) = true := by
  have h := e_1 n0 n1
  rw [h1, Option.bind_some] at h
  obtain ⟨s2, h2, x2⟩ := Option.map_eq_some_iff.1 h
  rw [rest_rem (m := 8) (d := 16) (x := .tmp 15) (by decide) (by kernel_rfl) (by decide) h2 x2]
  obtain ⟨y, hy, vy⟩ := bits_rem n1 255 8 (by decide) (by decide)
  rw [vy]
  have all : ∀ y : Nat, y < 8 → okB (((toF Tryd.prog Ex 9000 Tryd.f7 0 0 1 1 (AAct.enter Tryd.f7.ntmps [.int .i64 n0, .int .i64 n1], M00)).bind fun s => toF Tryd.prog Ex 9000 Tryd.f7 1 2 1 4 (s.1.put (some 13) (.int .i64 1), s.2)).bind fun s => restF Tryd.prog Ex 9000 Tryd.f7 1 5 (s.1.put (some 16) (.int .i64 y), s.2)) = true := by
    intro y hy
    rcases (show y = 0 ∨ y = 1 ∨ y = 2 ∨ y = 3 ∨ y = 4 ∨ y = 5 ∨ y = 6 ∨ y = 7 by omega) with rfl | rfl | rfl | rfl | rfl | rfl | rfl | rfl
    · exact f_1_0 n0 n1
    · exact f_1_1 n0 n1
    · exact f_1_2 n0 n1
    · exact f_1_3 n0 n1
    · exact f_1_4 n0 n1
    · exact f_1_5 n0 n1
    · exact f_1_6 n0 n1
    · exact f_1_7 n0 n1
  have h3 := all y hy
  rw [h1, Option.bind_some, h2, Option.bind_some] at h3
  exact h3
theorem e_9 (n0 n1 : Int) : ((toF Tryd.prog Ex 9000 Tryd.f7 0 0 1 1 (AAct.enter Tryd.f7.ntmps [.int .i64 n0, .int .i64 n1], M00)).bind fun s => toF Tryd.prog Ex 9000 Tryd.f7 1 2 1 4 (s.1.put (some 13) (.int .i64 9), s.2)).map (fun s => s.1.eval (.tmp 15)) = some (.int .i64 (Go.Ab.bits n1 255)) := by kernel_rfl
theorem f_9_0 (n0 n1 : Int) : okB (((toF Tryd.prog Ex 9000 Tryd.f7 0 0 1 1 (AAct.enter Tryd.f7.ntmps [.int .i64 n0, .int .i64 n1], M00)).bind fun s => toF Tryd.prog Ex 9000 Tryd.f7 1 2 1 4 (s.1.put (some 13) (.int .i64 9), s.2)).bind fun s => restF Tryd.prog Ex 9000 Tryd.f7 1 5 (s.1.put (some 16) (.int .i64 0), s.2)) = true := by kernel_rfl
theorem f_9_1 (n0 n1 : Int) : okB (((toF Tryd.prog Ex 9000 Tryd.f7 0 0 1 1 (AAct.enter Tryd.f7.ntmps [.int .i64 n0, .int .i64 n1], M00)).bind fun s => toF Tryd.prog Ex 9000 Tryd.f7 1 2 1 4 (s.1.put (some 13) (.int .i64 9), s.2)).bind fun s => restF Tryd.prog Ex 9000 Tryd.f7 1 5 (s.1.put (some 16) (.int .i64 1), s.2)) = true := by kernel_rfl
theorem f_9_2 (n0 n1 : Int) : okB (((toF Tryd.prog Ex 9000 Tryd.f7 0 0 1 1 (AAct.enter Tryd.f7.ntmps [.int .i64 n0, .int .i64 n1], M00)).bind fun s => toF Tryd.prog Ex 9000 Tryd.f7 1 2 1 4 (s.1.put (some 13) (.int .i64 9), s.2)).bind fun s => restF Tryd.prog Ex 9000 Tryd.f7 1 5 (s.1.put (some 16) (.int .i64 2), s.2)) = true := by kernel_rfl
theorem f_9_3 (n0 n1 : Int) : okB (((toF Tryd.prog Ex 9000 Tryd.f7 0 0 1 1 (AAct.enter Tryd.f7.ntmps [.int .i64 n0, .int .i64 n1], M00)).bind fun s => toF Tryd.prog Ex 9000 Tryd.f7 1 2 1 4 (s.1.put (some 13) (.int .i64 9), s.2)).bind fun s => restF Tryd.prog Ex 9000 Tryd.f7 1 5 (s.1.put (some 16) (.int .i64 3), s.2)) = true := by kernel_rfl
theorem f_9_4 (n0 n1 : Int) : okB (((toF Tryd.prog Ex 9000 Tryd.f7 0 0 1 1 (AAct.enter Tryd.f7.ntmps [.int .i64 n0, .int .i64 n1], M00)).bind fun s => toF Tryd.prog Ex 9000 Tryd.f7 1 2 1 4 (s.1.put (some 13) (.int .i64 9), s.2)).bind fun s => restF Tryd.prog Ex 9000 Tryd.f7 1 5 (s.1.put (some 16) (.int .i64 4), s.2)) = true := by kernel_rfl
theorem f_9_5 (n0 n1 : Int) : okB (((toF Tryd.prog Ex 9000 Tryd.f7 0 0 1 1 (AAct.enter Tryd.f7.ntmps [.int .i64 n0, .int .i64 n1], M00)).bind fun s => toF Tryd.prog Ex 9000 Tryd.f7 1 2 1 4 (s.1.put (some 13) (.int .i64 9), s.2)).bind fun s => restF Tryd.prog Ex 9000 Tryd.f7 1 5 (s.1.put (some 16) (.int .i64 5), s.2)) = true := by kernel_rfl
theorem f_9_6 (n0 n1 : Int) : okB (((toF Tryd.prog Ex 9000 Tryd.f7 0 0 1 1 (AAct.enter Tryd.f7.ntmps [.int .i64 n0, .int .i64 n1], M00)).bind fun s => toF Tryd.prog Ex 9000 Tryd.f7 1 2 1 4 (s.1.put (some 13) (.int .i64 9), s.2)).bind fun s => restF Tryd.prog Ex 9000 Tryd.f7 1 5 (s.1.put (some 16) (.int .i64 6), s.2)) = true := by kernel_rfl
theorem f_9_7 (n0 n1 : Int) : okB (((toF Tryd.prog Ex 9000 Tryd.f7 0 0 1 1 (AAct.enter Tryd.f7.ntmps [.int .i64 n0, .int .i64 n1], M00)).bind fun s => toF Tryd.prog Ex 9000 Tryd.f7 1 2 1 4 (s.1.put (some 13) (.int .i64 9), s.2)).bind fun s => restF Tryd.prog Ex 9000 Tryd.f7 1 5 (s.1.put (some 16) (.int .i64 7), s.2)) = true := by kernel_rfl
theorem g_9 (n0 n1 : Int) (s1 : AAct × Store) (h1 : toF Tryd.prog Ex 9000 Tryd.f7 0 0 1 1 (AAct.enter Tryd.f7.ntmps [.int .i64 n0, .int .i64 n1], M00) = some s1) : okB (restF Tryd.prog Ex 9000 Tryd.f7 1 2 (s1.1.put (some 13) (.int .i64 9), s1.2)) = true := by
  have h := e_9 n0 n1
  rw [h1, Option.bind_some] at h
  obtain ⟨s2, h2, x2⟩ := Option.map_eq_some_iff.1 h
  rw [rest_rem (m := 8) (d := 16) (x := .tmp 15) (by decide) (by kernel_rfl) (by decide) h2 x2]
  obtain ⟨y, hy, vy⟩ := bits_rem n1 255 8 (by decide) (by decide)
  rw [vy]
  have all : ∀ y : Nat, y < 8 → okB (((toF Tryd.prog Ex 9000 Tryd.f7 0 0 1 1 (AAct.enter Tryd.f7.ntmps [.int .i64 n0, .int .i64 n1], M00)).bind fun s => toF Tryd.prog Ex 9000 Tryd.f7 1 2 1 4 (s.1.put (some 13) (.int .i64 9), s.2)).bind fun s => restF Tryd.prog Ex 9000 Tryd.f7 1 5 (s.1.put (some 16) (.int .i64 y), s.2)) = true := by
    intro y hy
    rcases (show y = 0 ∨ y = 1 ∨ y = 2 ∨ y = 3 ∨ y = 4 ∨ y = 5 ∨ y = 6 ∨ y = 7 by omega) with rfl | rfl | rfl | rfl | rfl | rfl | rfl | rfl
    · exact f_9_0 n0 n1
    · exact f_9_1 n0 n1
    · exact f_9_2 n0 n1
    · exact f_9_3 n0 n1
    · exact f_9_4 n0 n1
    · exact f_9_5 n0 n1
    · exact f_9_6 n0 n1
    · exact f_9_7 n0 n1
  have h3 := all y hy
  rw [h1, Option.bind_some, h2, Option.bind_some] at h3
  exact h3
theorem e_17 (n0 n1 : Int) : ((toF Tryd.prog Ex 9000 Tryd.f7 0 0 1 1 (AAct.enter Tryd.f7.ntmps [.int .i64 n0, .int .i64 n1], M00)).bind fun s => toF Tryd.prog Ex 9000 Tryd.f7 1 2 1 4 (s.1.put (some 13) (.int .i64 17), s.2)).map (fun s => s.1.eval (.tmp 15)) = some (.int .i64 (Go.Ab.bits n1 255)) := by kernel_rfl
theorem f_17_0 (n0 n1 : Int) : okB (((toF Tryd.prog Ex 9000 Tryd.f7 0 0 1 1 (AAct.enter Tryd.f7.ntmps [.int .i64 n0, .int .i64 n1], M00)).bind fun s => toF Tryd.prog Ex 9000 Tryd.f7 1 2 1 4 (s.1.put (some 13) (.int .i64 17), s.2)).bind fun s => restF Tryd.prog Ex 9000 Tryd.f7 1 5 (s.1.put (some 16) (.int .i64 0), s.2)) = true := by kernel_rfl
theorem f_17_1 (n0 n1 : Int) : okB (((toF Tryd.prog Ex 9000 Tryd.f7 0 0 1 1 (AAct.enter Tryd.f7.ntmps [.int .i64 n0, .int .i64 n1], M00)).bind fun s => toF Tryd.prog Ex 9000 Tryd.f7 1 2 1 4 (s.1.put (some 13) (.int .i64 17), s.2)).bind fun s => restF Tryd.prog Ex 9000 Tryd.f7 1 5 (s.1.put (some 16) (.int .i64 1), s.2)) = true := by kernel_rfl
theorem f_17_2 (n0 n1 : Int) : okB (((toF Tryd.prog Ex 9000 Tryd.f7 0 0 1 1 (AAct.enter Tryd.f7.ntmps [.int .i64 n0, .int .i64 n1], M00)).bind fun s => toF Tryd.prog Ex 9000 Tryd.f7 1 2 1 4 (s.1.put (some 13) (.int .i64 17), s.2)).bind fun s => restF Tryd.prog Ex 9000 Tryd.f7 1 5 (s.1.put (some 16) (.int .i64 2), s.2)) = true := by kernel_rfl
theorem f_17_3 (n0 n1 : Int) : okB (((toF Tryd.prog Ex 9000 Tryd.f7 0 0 1 1 (AAct.enter Tryd.f7.ntmps [.int .i64 n0, .int .i64 n1], M00)).bind fun s => toF Tryd.prog Ex 9000 Tryd.f7 1 2 1 4 (s.1.put (some 13) (.int .i64 17), s.2)).bind fun s => restF Tryd.prog Ex 9000 Tryd.f7 1 5 (s.1.put (some 16) (.int .i64 3), s.2)) = true := by kernel_rfl
theorem f_17_4 (n0 n1 : Int) : okB (((toF Tryd.prog Ex 9000 Tryd.f7 0 0 1 1 (AAct.enter Tryd.f7.ntmps [.int .i64 n0, .int .i64 n1], M00)).bind fun s => toF Tryd.prog Ex 9000 Tryd.f7 1 2 1 4 (s.1.put (some 13) (.int .i64 17), s.2)).bind fun s => restF Tryd.prog Ex 9000 Tryd.f7 1 5 (s.1.put (some 16) (.int .i64 4), s.2)) = true := by kernel_rfl
theorem f_17_5 (n0 n1 : Int) : okB (((toF Tryd.prog Ex 9000 Tryd.f7 0 0 1 1 (AAct.enter Tryd.f7.ntmps [.int .i64 n0, .int .i64 n1], M00)).bind fun s => toF Tryd.prog Ex 9000 Tryd.f7 1 2 1 4 (s.1.put (some 13) (.int .i64 17), s.2)).bind fun s => restF Tryd.prog Ex 9000 Tryd.f7 1 5 (s.1.put (some 16) (.int .i64 5), s.2)) = true := by kernel_rfl
theorem f_17_6 (n0 n1 : Int) : okB (((toF Tryd.prog Ex 9000 Tryd.f7 0 0 1 1 (AAct.enter Tryd.f7.ntmps [.int .i64 n0, .int .i64 n1], M00)).bind fun s => toF Tryd.prog Ex 9000 Tryd.f7 1 2 1 4 (s.1.put (some 13) (.int .i64 17), s.2)).bind fun s => restF Tryd.prog Ex 9000 Tryd.f7 1 5 (s.1.put (some 16) (.int .i64 6), s.2)) = true := by kernel_rfl
theorem f_17_7 (n0 n1 : Int) : okB (((toF Tryd.prog Ex 9000 Tryd.f7 0 0 1 1 (AAct.enter Tryd.f7.ntmps [.int .i64 n0, .int .i64 n1], M00)).bind fun s => toF Tryd.prog Ex 9000 Tryd.f7 1 2 1 4 (s.1.put (some 13) (.int .i64 17), s.2)).bind fun s => restF Tryd.prog Ex 9000 Tryd.f7 1 5 (s.1.put (some 16) (.int .i64 7), s.2)) = true := by kernel_rfl
theorem g_17 (n0 n1 : Int) (s1 : AAct × Store) (h1 : toF Tryd.prog Ex 9000 Tryd.f7 0 0 1 1 (AAct.enter Tryd.f7.ntmps [.int .i64 n0, .int .i64 n1], M00) = some s1) : okB (restF Tryd.prog Ex 9000 Tryd.f7 1 2 (s1.1.put (some 13) (.int .i64 17), s1.2)) = true := by
  have h := e_17 n0 n1
  rw [h1, Option.bind_some] at h
  obtain ⟨s2, h2, x2⟩ := Option.map_eq_some_iff.1 h
  rw [rest_rem (m := 8) (d := 16) (x := .tmp 15) (by decide) (by kernel_rfl) (by decide) h2 x2]
  obtain ⟨y, hy, vy⟩ := bits_rem n1 255 8 (by decide) (by decide)
  rw [vy]
  have all : ∀ y : Nat, y < 8 → okB (((toF Tryd.prog Ex 9000 Tryd.f7 0 0 1 1 (AAct.enter Tryd.f7.ntmps [.int .i64 n0, .int .i64 n1], M00)).bind fun s => toF Tryd.prog Ex 9000 Tryd.f7 1 2 1 4 (s.1.put (some 13) (.int .i64 17), s.2)).bind fun s => restF Tryd.prog Ex 9000 Tryd.f7 1 5 (s.1.put (some 16) (.int .i64 y), s.2)) = true := by
    intro y hy
    rcases (show y = 0 ∨ y = 1 ∨ y = 2 ∨ y = 3 ∨ y = 4 ∨ y = 5 ∨ y = 6 ∨ y = 7 by omega) with rfl | rfl | rfl | rfl | rfl | rfl | rfl | rfl
    · exact f_17_0 n0 n1
    · exact f_17_1 n0 n1
    · exact f_17_2 n0 n1
    · exact f_17_3 n0 n1
    · exact f_17_4 n0 n1
    · exact f_17_5 n0 n1
    · exact f_17_6 n0 n1
    · exact f_17_7 n0 n1
  have h3 := all y hy
  rw [h1, Option.bind_some, h2, Option.bind_some] at h3
  exact h3
theorem e_25 (n0 n1 : Int) : ((toF Tryd.prog Ex 9000 Tryd.f7 0 0 1 1 (AAct.enter Tryd.f7.ntmps [.int .i64 n0, .int .i64 n1], M00)).bind fun s => toF Tryd.prog Ex 9000 Tryd.f7 1 2 1 4 (s.1.put (some 13) (.int .i64 25), s.2)).map (fun s => s.1.eval (.tmp 15)) = some (.int .i64 (Go.Ab.bits n1 255)) := by kernel_rfl
theorem f_25_0 (n0 n1 : Int) : okB (((toF Tryd.prog Ex 9000 Tryd.f7 0 0 1 1 (AAct.enter Tryd.f7.ntmps [.int .i64 n0, .int .i64 n1], M00)).bind fun s => toF Tryd.prog Ex 9000 Tryd.f7 1 2 1 4 (s.1.put (some 13) (.int .i64 25), s.2)).bind fun s => restF Tryd.prog Ex 9000 Tryd.f7 1 5 (s.1.put (some 16) (.int .i64 0), s.2)) = true := by kernel_rfl
theorem f_25_1 (n0 n1 : Int) : okB (((toF Tryd.prog Ex 9000 Tryd.f7 0 0 1 1 (AAct.enter Tryd.f7.ntmps [.int .i64 n0, .int .i64 n1], M00)).bind fun s => toF Tryd.prog Ex 9000 Tryd.f7 1 2 1 4 (s.1.put (some 13) (.int .i64 25), s.2)).bind fun s => restF Tryd.prog Ex 9000 Tryd.f7 1 5 (s.1.put (some 16) (.int .i64 1), s.2)) = true := by kernel_rfl
theorem f_25_2 (n0 n1 : Int) : okB (((toF Tryd.prog Ex 9000 Tryd.f7 0 0 1 1 (AAct.enter Tryd.f7.ntmps [.int .i64 n0, .int .i64 n1], M00)).bind fun s => toF Tryd.prog Ex 9000 Tryd.f7 1 2 1 4 (s.1.put (some 13) (.int .i64 25), s.2)).bind fun s => restF Tryd.prog Ex 9000 Tryd.f7 1 5 (s.1.put (some 16) (.int .i64 2), s.2)) = true := by kernel_rfl
theorem f_25_3 (n0 n1 : Int) : okB (((toF Tryd.prog Ex 9000 Tryd.f7 0 0 1 1 (AAct.enter Tryd.f7.ntmps [.int .i64 n0, .int .i64 n1], M00)).bind fun s => toF Tryd.prog Ex 9000 Tryd.f7 1 2 1 4 (s.1.put (some 13) (.int .i64 25), s.2)).bind fun s => restF Tryd.prog Ex 9000 Tryd.f7 1 5 (s.1.put (some 16) (.int .i64 3), s.2)) = true := by kernel_rfl
theorem f_25_4 (n0 n1 : Int) : okB (((toF Tryd.prog Ex 9000 Tryd.f7 0 0 1 1 (AAct.enter Tryd.f7.ntmps [.int .i64 n0, .int .i64 n1], M00)).bind fun s => toF Tryd.prog Ex 9000 Tryd.f7 1 2 1 4 (s.1.put (some 13) (.int .i64 25), s.2)).bind fun s => restF Tryd.prog Ex 9000 Tryd.f7 1 5 (s.1.put (some 16) (.int .i64 4), s.2)) = true := by kernel_rfl
theorem f_25_5 (n0 n1 : Int) : okB (((toF Tryd.prog Ex 9000 Tryd.f7 0 0 1 1 (AAct.enter Tryd.f7.ntmps [.int .i64 n0, .int .i64 n1], M00)).bind fun s => toF Tryd.prog Ex 9000 Tryd.f7 1 2 1 4 (s.1.put (some 13) (.int .i64 25), s.2)).bind fun s => restF Tryd.prog Ex 9000 Tryd.f7 1 5 (s.1.put (some 16) (.int .i64 5), s.2)) = true := by kernel_rfl
theorem f_25_6 (n0 n1 : Int) : okB (((toF Tryd.prog Ex 9000 Tryd.f7 0 0 1 1 (AAct.enter Tryd.f7.ntmps [.int .i64 n0, .int .i64 n1], M00)).bind fun s => toF Tryd.prog Ex 9000 Tryd.f7 1 2 1 4 (s.1.put (some 13) (.int .i64 25), s.2)).bind fun s => restF Tryd.prog Ex 9000 Tryd.f7 1 5 (s.1.put (some 16) (.int .i64 6), s.2)) = true := by kernel_rfl
theorem f_25_7 (n0 n1 : Int) : okB (((toF Tryd.prog Ex 9000 Tryd.f7 0 0 1 1 (AAct.enter Tryd.f7.ntmps [.int .i64 n0, .int .i64 n1], M00)).bind fun s => toF Tryd.prog Ex 9000 Tryd.f7 1 2 1 4 (s.1.put (some 13) (.int .i64 25), s.2)).bind fun s => restF Tryd.prog Ex 9000 Tryd.f7 1 5 (s.1.put (some 16) (.int .i64 7), s.2)) = true := by kernel_rfl
theorem g_25 (n0 n1 : Int) (s1 : AAct × Store) (h1 : toF Tryd.prog Ex 9000 Tryd.f7 0 0 1 1 (AAct.enter Tryd.f7.ntmps [.int .i64 n0, .int .i64 n1], M00) = some s1) : okB (restF Tryd.prog Ex 9000 Tryd.f7 1 2 (s1.1.put (some 13) (.int .i64 25), s1.2)) = true := by
  have h := e_25 n0 n1
  rw [h1, Option.bind_some] at h
  obtain ⟨s2, h2, x2⟩ := Option.map_eq_some_iff.1 h
  rw [rest_rem (m := 8) (d := 16) (x := .tmp 15) (by decide) (by kernel_rfl) (by decide) h2 x2]
  obtain ⟨y, hy, vy⟩ := bits_rem n1 255 8 (by decide) (by decide)
  rw [vy]
  have all : ∀ y : Nat, y < 8 → okB (((toF Tryd.prog Ex 9000 Tryd.f7 0 0 1 1 (AAct.enter Tryd.f7.ntmps [.int .i64 n0, .int .i64 n1], M00)).bind fun s => toF Tryd.prog Ex 9000 Tryd.f7 1 2 1 4 (s.1.put (some 13) (.int .i64 25), s.2)).bind fun s => restF Tryd.prog Ex 9000 Tryd.f7 1 5 (s.1.put (some 16) (.int .i64 y), s.2)) = true := by
    intro y hy
    rcases (show y = 0 ∨ y = 1 ∨ y = 2 ∨ y = 3 ∨ y = 4 ∨ y = 5 ∨ y = 6 ∨ y = 7 by omega) with rfl | rfl | rfl | rfl | rfl | rfl | rfl | rfl
    · exact f_25_0 n0 n1
    · exact f_25_1 n0 n1
    · exact f_25_2 n0 n1
    · exact f_25_3 n0 n1
    · exact f_25_4 n0 n1
    · exact f_25_5 n0 n1
    · exact f_25_6 n0 n1
    · exact f_25_7 n0 n1
  have h3 := all y hy
  rw [h1, Option.bind_some, h2, Option.bind_some] at h3
  exact h3
theorem e_33 (n0 n1 : Int) : ((toF Tryd.prog Ex 9000 Tryd.f7 0 0 1 1 (AAct.enter Tryd.f7.ntmps [.int .i64 n0, .int .i64 n1], M00)).bind fun s => toF Tryd.prog Ex 9000 Tryd.f7 1 2 1 4 (s.1.put (some 13) (.int .i64 33), s.2)).map (fun s => s.1.eval (.tmp 15)) = some (.int .i64 (Go.Ab.bits n1 255)) := by kernel_rfl
theorem f_33_0 (n0 n1 : Int) : okB (((toF Tryd.prog Ex 9000 Tryd.f7 0 0 1 1 (AAct.enter Tryd.f7.ntmps [.int .i64 n0, .int .i64 n1], M00)).bind fun s => toF Tryd.prog Ex 9000 Tryd.f7 1 2 1 4 (s.1.put (some 13) (.int .i64 33), s.2)).bind fun s => restF Tryd.prog Ex 9000 Tryd.f7 1 5 (s.1.put (some 16) (.int .i64 0), s.2)) = true := by kernel_rfl
theorem f_33_1 (n0 n1 : Int) : okB (((toF Tryd.prog Ex 9000 Tryd.f7 0 0 1 1 (AAct.enter Tryd.f7.ntmps [.int .i64 n0, .int .i64 n1], M00)).bind fun s => toF Tryd.prog Ex 9000 Tryd.f7 1 2 1 4 (s.1.put (some 13) (.int .i64 33), s.2)).bind fun s => restF Tryd.prog Ex 9000 Tryd.f7 1 5 (s.1.put (some 16) (.int .i64 1), s.2)) = true := by kernel_rfl
theorem f_33_2 (n0 n1 : Int) : okB (((toF Tryd.prog Ex 9000 Tryd.f7 0 0 1 1 (AAct.enter Tryd.f7.ntmps [.int .i64 n0, .int .i64 n1], M00)).bind fun s => toF Tryd.prog Ex 9000 Tryd.f7 1 2 1 4 (s.1.put (some 13) (.int .i64 33), s.2)).bind fun s => restF Tryd.prog Ex 9000 Tryd.f7 1 5 (s.1.put (some 16) (.int .i64 2), s.2)) = true := by kernel_rfl
theorem f_33_3 (n0 n1 : Int) : okB (((toF Tryd.prog Ex 9000 Tryd.f7 0 0 1 1 (AAct.enter Tryd.f7.ntmps [.int .i64 n0, .int .i64 n1], M00)).bind fun s => toF Tryd.prog Ex 9000 Tryd.f7 1 2 1 4 (s.1.put (some 13) (.int .i64 33), s.2)).bind fun s => restF Tryd.prog Ex 9000 Tryd.f7 1 5 (s.1.put (some 16) (.int .i64 3), s.2)) = true := by kernel_rfl
theorem f_33_4 (n0 n1 : Int) : okB (((toF Tryd.prog Ex 9000 Tryd.f7 0 0 1 1 (AAct.enter Tryd.f7.ntmps [.int .i64 n0, .int .i64 n1], M00)).bind fun s => toF Tryd.prog Ex 9000 Tryd.f7 1 2 1 4 (s.1.put (some 13) (.int .i64 33), s.2)).bind fun s => restF Tryd.prog Ex 9000 Tryd.f7 1 5 (s.1.put (some 16) (.int .i64 4), s.2)) = true := by kernel_rfl
theorem f_33_5 (n0 n1 : Int) : okB (((toF Tryd.prog Ex 9000 Tryd.f7 0 0 1 1 (AAct.enter Tryd.f7.ntmps [.int .i64 n0, .int .i64 n1], M00)).bind fun s => toF Tryd.prog Ex 9000 Tryd.f7 1 2 1 4 (s.1.put (some 13) (.int .i64 33), s.2)).bind fun s => restF Tryd.prog Ex 9000 Tryd.f7 1 5 (s.1.put (some 16) (.int .i64 5), s.2)) = true := by kernel_rfl
theorem f_33_6 (n0 n1 : Int) : okB (((toF Tryd.prog Ex 9000 Tryd.f7 0 0 1 1 (AAct.enter Tryd.f7.ntmps [.int .i64 n0, .int .i64 n1], M00)).bind fun s => toF Tryd.prog Ex 9000 Tryd.f7 1 2 1 4 (s.1.put (some 13) (.int .i64 33), s.2)).bind fun s => restF Tryd.prog Ex 9000 Tryd.f7 1 5 (s.1.put (some 16) (.int .i64 6), s.2)) = true := by kernel_rfl
theorem f_33_7 (n0 n1 : Int) : okB (((toF Tryd.prog Ex 9000 Tryd.f7 0 0 1 1 (AAct.enter Tryd.f7.ntmps [.int .i64 n0, .int .i64 n1], M00)).bind fun s => toF Tryd.prog Ex 9000 Tryd.f7 1 2 1 4 (s.1.put (some 13) (.int .i64 33), s.2)).bind fun s => restF Tryd.prog Ex 9000 Tryd.f7 1 5 (s.1.put (some 16) (.int .i64 7), s.2)) = true := by kernel_rfl
theorem g_33 (n0 n1 : Int) (s1 : AAct × Store) (h1 : toF Tryd.prog Ex 9000 Tryd.f7 0 0 1 1 (AAct.enter Tryd.f7.ntmps [.int .i64 n0, .int .i64 n1], M00) = some s1) : okB (restF Tryd.prog Ex 9000 Tryd.f7 1 2 (s1.1.put (some 13) (.int .i64 33), s1.2)) = true := by
  have h := e_33 n0 n1
  rw [h1, Option.bind_some] at h
  obtain ⟨s2, h2, x2⟩ := Option.map_eq_some_iff.1 h
  rw [rest_rem (m := 8) (d := 16) (x := .tmp 15) (by decide) (by kernel_rfl) (by decide) h2 x2]
  obtain ⟨y, hy, vy⟩ := bits_rem n1 255 8 (by decide) (by decide)
  rw [vy]
  have all : ∀ y : Nat, y < 8 → okB (((toF Tryd.prog Ex 9000 Tryd.f7 0 0 1 1 (AAct.enter Tryd.f7.ntmps [.int .i64 n0, .int .i64 n1], M00)).bind fun s => toF Tryd.prog Ex 9000 Tryd.f7 1 2 1 4 (s.1.put (some 13) (.int .i64 33), s.2)).bind fun s => restF Tryd.prog Ex 9000 Tryd.f7 1 5 (s.1.put (some 16) (.int .i64 y), s.2)) = true := by
    intro y hy
    rcases (show y = 0 ∨ y = 1 ∨ y = 2 ∨ y = 3 ∨ y = 4 ∨ y = 5 ∨ y = 6 ∨ y = 7 by omega) with rfl | rfl | rfl | rfl | rfl | rfl | rfl | rfl
    · exact f_33_0 n0 n1
    · exact f_33_1 n0 n1
    · exact f_33_2 n0 n1
    · exact f_33_3 n0 n1
    · exact f_33_4 n0 n1
    · exact f_33_5 n0 n1
    · exact f_33_6 n0 n1
    · exact f_33_7 n0 n1
  have h3 := all y hy
  rw [h1, Option.bind_some, h2, Option.bind_some] at h3
  exact h3
theorem e_41 (n0 n1 : Int) : ((toF Tryd.prog Ex 9000 Tryd.f7 0 0 1 1 (AAct.enter Tryd.f7.ntmps [.int .i64 n0, .int .i64 n1], M00)).bind fun s => toF Tryd.prog Ex 9000 Tryd.f7 1 2 1 4 (s.1.put (some 13) (.int .i64 41), s.2)).map (fun s => s.1.eval (.tmp 15)) = some (.int .i64 (Go.Ab.bits n1 255)) := by kernel_rfl
theorem f_41_0 (n0 n1 : Int) : okB (((toF Tryd.prog Ex 9000 Tryd.f7 0 0 1 1 (AAct.enter Tryd.f7.ntmps [.int .i64 n0, .int .i64 n1], M00)).bind fun s => toF Tryd.prog Ex 9000 Tryd.f7 1 2 1 4 (s.1.put (some 13) (.int .i64 41), s.2)).bind fun s => restF Tryd.prog Ex 9000 Tryd.f7 1 5 (s.1.put (some 16) (.int .i64 0), s.2)) = true := by kernel_rfl
theorem f_41_1 (n0 n1 : Int) : okB (((toF Tryd.prog Ex 9000 Tryd.f7 0 0 1 1 (AAct.enter Tryd.f7.ntmps [.int .i64 n0, .int .i64 n1], M00)).bind fun s => toF Tryd.prog Ex 9000 Tryd.f7 1 2 1 4 (s.1.put (some 13) (.int .i64 41), s.2)).bind fun s => restF Tryd.prog Ex 9000 Tryd.f7 1 5 (s.1.put (some 16) (.int .i64 1), s.2)) = true := by kernel_rfl
theorem f_41_2 (n0 n1 : Int) : okB (((toF Tryd.prog Ex 9000 Tryd.f7 0 0 1 1 (AAct.enter Tryd.f7.ntmps [.int .i64 n0, .int .i64 n1], M00)).bind fun s => toF Tryd.prog Ex 9000 Tryd.f7 1 2 1 4 (s.1.put (some 13) (.int .i64 41), s.2)).bind fun s => restF Tryd.prog Ex 9000 Tryd.f7 1 5 (s.1.put (some 16) (.int .i64 2), s.2)) = true := by kernel_rfl
theorem f_41_3 (n0 n1 : Int) : okB (((toF Tryd.prog Ex 9000 Tryd.f7 0 0 1 1 (AAct.enter Tryd.f7.ntmps [.int .i64 n0, .int .i64 n1], M00)).bind fun s => toF Tryd.prog Ex 9000 Tryd.f7 1 2 1 4 (s.1.put (some 13) (.int .i64 41), s.2)).bind fun s => restF Tryd.prog Ex 9000 Tryd.f7 1 5 (s.1.put (some 16) (.int .i64 3), s.2)) = true := by kernel_rfl
theorem f_41_4 (n0 n1 : Int) : okB (((toF Tryd.prog Ex 9000 Tryd.f7 0 0 1 1 (AAct.enter Tryd.f7.ntmps [.int .i64 n0, .int .i64 n1], M00)).bind fun s => toF Tryd.prog Ex 9000 Tryd.f7 1 2 1 4 (s.1.put (some 13) (.int .i64 41), s.2)).bind fun s => restF Tryd.prog Ex 9000 Tryd.f7 1 5 (s.1.put (some 16) (.int .i64 4), s.2)) = true := by kernel_rfl
theorem f_41_5 (n0 n1 : Int) : okB (((toF Tryd.prog Ex 9000 Tryd.f7 0 0 1 1 (AAct.enter Tryd.f7.ntmps [.int .i64 n0, .int .i64 n1], M00)).bind fun s => toF Tryd.prog Ex 9000 Tryd.f7 1 2 1 4 (s.1.put (some 13) (.int .i64 41), s.2)).bind fun s => restF Tryd.prog Ex 9000 Tryd.f7 1 5 (s.1.put (some 16) (.int .i64 5), s.2)) = true := by kernel_rfl
theorem f_41_6 (n0 n1 : Int) : okB (((toF Tryd.prog Ex 9000 Tryd.f7 0 0 1 1 (AAct.enter Tryd.f7.ntmps [.int .i64 n0, .int .i64 n1], M00)).bind fun s => toF Tryd.prog Ex 9000 Tryd.f7 1 2 1 4 (s.1.put (some 13) (.int .i64 41), s.2)).bind fun s => restF Tryd.prog Ex 9000 Tryd.f7 1 5 (s.1.put (some 16) (.int .i64 6), s.2)) = true := by kernel_rfl
theorem f_41_7 (n0 n1 : Int) : okB (((toF Tryd.prog Ex 9000 Tryd.f7 0 0 1 1 (AAct.enter Tryd.f7.ntmps [.int .i64 n0, .int .i64 n1], M00)).bind fun s => toF Tryd.prog Ex 9000 Tryd.f7 1 2 1 4 (s.1.put (some 13) (.int .i64 41), s.2)).bind fun s => restF Tryd.prog Ex 9000 Tryd.f7 1 5 (s.1.put (some 16) (.int .i64 7), s.2)) = true := by kernel_rfl
theorem g_41 (n0 n1 : Int) (s1 : AAct × Store) (h1 : toF Tryd.prog Ex 9000 Tryd.f7 0 0 1 1 (AAct.enter Tryd.f7.ntmps [.int .i64 n0, .int .i64 n1], M00) = some s1) : okB (restF Tryd.prog Ex 9000 Tryd.f7 1 2 (s1.1.put (some 13) (.int .i64 41), s1.2)) = true := by
  have h := e_41 n0 n1
  rw [h1, Option.bind_some] at h
  obtain ⟨s2, h2, x2⟩ := Option.map_eq_some_iff.1 h
  rw [rest_rem (m := 8) (d := 16) (x := .tmp 15) (by decide) (by kernel_rfl) (by decide) h2 x2]
  obtain ⟨y, hy, vy⟩ := bits_rem n1 255 8 (by decide) (by decide)
  rw [vy]
  have all : ∀ y : Nat, y < 8 → okB (((toF Tryd.prog Ex 9000 Tryd.f7 0 0 1 1 (AAct.enter Tryd.f7.ntmps [.int .i64 n0, .int .i64 n1], M00)).bind fun s => toF Tryd.prog Ex 9000 Tryd.f7 1 2 1 4 (s.1.put (some 13) (.int .i64 41), s.2)).bind fun s => restF Tryd.prog Ex 9000 Tryd.f7 1 5 (s.1.put (some 16) (.int .i64 y), s.2)) = true := by
    intro y hy
    rcases (show y = 0 ∨ y = 1 ∨ y = 2 ∨ y = 3 ∨ y = 4 ∨ y = 5 ∨ y = 6 ∨ y = 7 by omega) with rfl | rfl | rfl | rfl | rfl | rfl | rfl | rfl
    · exact f_41_0 n0 n1
    · exact f_41_1 n0 n1
    · exact f_41_2 n0 n1
    · exact f_41_3 n0 n1
    · exact f_41_4 n0 n1
    · exact f_41_5 n0 n1
    · exact f_41_6 n0 n1
    · exact f_41_7 n0 n1
  have h3 := all y hy
  rw [h1, Option.bind_some, h2, Option.bind_some] at h3
  exact h3
theorem e_49 (n0 n1 : Int) : ((toF Tryd.prog Ex 9000 Tryd.f7 0 0 1 1 (AAct.enter Tryd.f7.ntmps [.int .i64 n0, .int .i64 n1], M00)).bind fun s => toF Tryd.prog Ex 9000 Tryd.f7 1 2 1 4 (s.1.put (some 13) (.int .i64 49), s.2)).map (fun s => s.1.eval (.tmp 15)) = some (.int .i64 (Go.Ab.bits n1 255)) := by kernel_rfl
theorem f_49_0 (n0 n1 : Int) : okB (((toF Tryd.prog Ex 9000 Tryd.f7 0 0 1 1 (AAct.enter Tryd.f7.ntmps [.int .i64 n0, .int .i64 n1], M00)).bind fun s => toF Tryd.prog Ex 9000 Tryd.f7 1 2 1 4 (s.1.put (some 13) (.int .i64 49), s.2)).bind fun s => restF Tryd.prog Ex 9000 Tryd.f7 1 5 (s.1.put (some 16) (.int .i64 0), s.2)) = true := by kernel_rfl
theorem f_49_1 (n0 n1 : Int) : okB (((toF Tryd.prog Ex 9000 Tryd.f7 0 0 1 1 (AAct.enter Tryd.f7.ntmps [.int .i64 n0, .int .i64 n1], M00)).bind fun s => toF Tryd.prog Ex 9000 Tryd.f7 1 2 1 4 (s.1.put (some 13) (.int .i64 49), s.2)).bind fun s => restF Tryd.prog Ex 9000 Tryd.f7 1 5 (s.1.put (some 16) (.int .i64 1), s.2)) = true := by kernel_rfl
theorem f_49_2 (n0 n1 : Int) : okB (((toF Tryd.prog Ex 9000 Tryd.f7 0 0 1 1 (AAct.enter Tryd.f7.ntmps [.int .i64 n0, .int .i64 n1], M00)).bind fun s => toF Tryd.prog Ex 9000 Tryd.f7 1 2 1 4 (s.1.put (some 13) (.int .i64 49), s.2)).bind fun s => restF Tryd.prog Ex 9000 Tryd.f7 1 5 (s.1.put (some 16) (.int .i64 2), s.2)) = true := by kernel_rfl
theorem f_49_3 (n0 n1 : Int) : okB (((toF Tryd.prog Ex 9000 Tryd.f7 0 0 1 1 (AAct.enter Tryd.f7.ntmps [.int .i64 n0, .int .i64 n1], M00)).bind fun s => toF Tryd.prog Ex 9000 Tryd.f7 1 2 1 4 (s.1.put (some 13) (.int .i64 49), s.2)).bind fun s => restF Tryd.prog Ex 9000 Tryd.f7 1 5 (s.1.put (some 16) (.int .i64 3), s.2)) = true := by kernel_rfl
theorem f_49_4 (n0 n1 : Int) : okB (((toF Tryd.prog Ex 9000 Tryd.f7 0 0 1 1 (AAct.enter Tryd.f7.ntmps [.int .i64 n0, .int .i64 n1], M00)).bind fun s => toF Tryd.prog Ex 9000 Tryd.f7 1 2 1 4 (s.1.put (some 13) (.int .i64 49), s.2)).bind fun s => restF Tryd.prog Ex 9000 Tryd.f7 1 5 (s.1.put (some 16) (.int .i64 4), s.2)) = true := by kernel_rfl
theorem f_49_5 (n0 n1 : Int) : okB (((toF Tryd.prog Ex 9000 Tryd.f7 0 0 1 1 (AAct.enter Tryd.f7.ntmps [.int .i64 n0, .int .i64 n1], M00)).bind fun s => toF Tryd.prog Ex 9000 Tryd.f7 1 2 1 4 (s.1.put (some 13) (.int .i64 49), s.2)).bind fun s => restF Tryd.prog Ex 9000 Tryd.f7 1 5 (s.1.put (some 16) (.int .i64 5), s.2)) = true := by kernel_rfl
theorem f_49_6 (n0 n1 : Int) : okB (((toF Tryd.prog Ex 9000 Tryd.f7 0 0 1 1 (AAct.enter Tryd.f7.ntmps [.int .i64 n0, .int .i64 n1], M00)).bind fun s => toF Tryd.prog Ex 9000 Tryd.f7 1 2 1 4 (s.1.put (some 13) (.int .i64 49), s.2)).bind fun s => restF Tryd.prog Ex 9000 Tryd.f7 1 5 (s.1.put (some 16) (.int .i64 6), s.2)) = true := by kernel_rfl
theorem f_49_7 (n0 n1 : Int) : okB (((toF Tryd.prog Ex 9000 Tryd.f7 0 0 1 1 (AAct.enter Tryd.f7.ntmps [.int .i64 n0, .int .i64 n1], M00)).bind fun s => toF Tryd.prog Ex 9000 Tryd.f7 1 2 1 4 (s.1.put (some 13) (.int .i64 49), s.2)).bind fun s => restF Tryd.prog Ex 9000 Tryd.f7 1 5 (s.1.put (some 16) (.int .i64 7), s.2)) = true := by kernel_rfl
theorem g_49 (n0 n1 : Int) (s1 : AAct × Store) (h1 : toF Tryd.prog Ex 9000 Tryd.f7 0 0 1 1 (AAct.enter Tryd.f7.ntmps [.int .i64 n0, .int .i64 n1], M00) = some s1) : okB (restF Tryd.prog Ex 9000 Tryd.f7 1 2 (s1.1.put (some 13) (.int .i64 49), s1.2)) = true := by
  have h := e_49 n0 n1
  rw [h1, Option.bind_some] at h
  obtain ⟨s2, h2, x2⟩ := Option.map_eq_some_iff.1 h
  rw [rest_rem (m := 8) (d := 16) (x := .tmp 15) (by decide) (by kernel_rfl) (by decide) h2 x2]
  obtain ⟨y, hy, vy⟩ := bits_rem n1 255 8 (by decide) (by decide)
  rw [vy]
  have all : ∀ y : Nat, y < 8 → okB (((toF Tryd.prog Ex 9000 Tryd.f7 0 0 1 1 (AAct.enter Tryd.f7.ntmps [.int .i64 n0, .int .i64 n1], M00)).bind fun s => toF Tryd.prog Ex 9000 Tryd.f7 1 2 1 4 (s.1.put (some 13) (.int .i64 49), s.2)).bind fun s => restF Tryd.prog Ex 9000 Tryd.f7 1 5 (s.1.put (some 16) (.int .i64 y), s.2)) = true := by
    intro y hy
    rcases (show y = 0 ∨ y = 1 ∨ y = 2 ∨ y = 3 ∨ y = 4 ∨ y = 5 ∨ y = 6 ∨ y = 7 by omega) with rfl | rfl | rfl | rfl | rfl | rfl | rfl | rfl
    · exact f_49_0 n0 n1
    · exact f_49_1 n0 n1
    · exact f_49_2 n0 n1
    · exact f_49_3 n0 n1
    · exact f_49_4 n0 n1
    · exact f_49_5 n0 n1
    · exact f_49_6 n0 n1
    · exact f_49_7 n0 n1
  have h3 := all y hy
  rw [h1, Option.bind_some, h2, Option.bind_some] at h3
  exact h3
theorem e_57 (n0 n1 : Int) : ((toF Tryd.prog Ex 9000 Tryd.f7 0 0 1 1 (AAct.enter Tryd.f7.ntmps [.int .i64 n0, .int .i64 n1], M00)).bind fun s => toF Tryd.prog Ex 9000 Tryd.f7 1 2 1 4 (s.1.put (some 13) (.int .i64 57), s.2)).map (fun s => s.1.eval (.tmp 15)) = some (.int .i64 (Go.Ab.bits n1 255)) := by kernel_rfl
theorem f_57_0 (n0 n1 : Int) : okB (((toF Tryd.prog Ex 9000 Tryd.f7 0 0 1 1 (AAct.enter Tryd.f7.ntmps [.int .i64 n0, .int .i64 n1], M00)).bind fun s => toF Tryd.prog Ex 9000 Tryd.f7 1 2 1 4 (s.1.put (some 13) (.int .i64 57), s.2)).bind fun s => restF Tryd.prog Ex 9000 Tryd.f7 1 5 (s.1.put (some 16) (.int .i64 0), s.2)) = true := by kernel_rfl
theorem f_57_1 (n0 n1 : Int) : okB (((toF Tryd.prog Ex 9000 Tryd.f7 0 0 1 1 (AAct.enter Tryd.f7.ntmps [.int .i64 n0, .int .i64 n1], M00)).bind fun s => toF Tryd.prog Ex 9000 Tryd.f7 1 2 1 4 (s.1.put (some 13) (.int .i64 57), s.2)).bind fun s => restF Tryd.prog Ex 9000 Tryd.f7 1 5 (s.1.put (some 16) (.int .i64 1), s.2)) = true := by kernel_rfl
theorem f_57_2 (n0 n1 : Int) : okB (((toF Tryd.prog Ex 9000 Tryd.f7 0 0 1 1 (AAct.enter Tryd.f7.ntmps [.int .i64 n0, .int .i64 n1], M00)).bind fun s => toF Tryd.prog Ex 9000 Tryd.f7 1 2 1 4 (s.1.put (some 13) (.int .i64 57), s.2)).bind fun s => restF Tryd.prog Ex 9000 Tryd.f7 1 5 (s.1.put (some 16) (.int .i64 2), s.2)) = true := by kernel_rfl
theorem f_57_3 (n0 n1 : Int) : okB (((toF Tryd.prog Ex 9000 Tryd.f7 0 0 1 1 (AAct.enter Tryd.f7.ntmps [.int .i64 n0, .int .i64 n1], M00)).bind fun s => toF Tryd.prog Ex 9000 Tryd.f7 1 2 1 4 (s.1.put (some 13) (.int .i64 57), s.2)).bind fun s => restF Tryd.prog Ex 9000 Tryd.f7 1 5 (s.1.put (some 16) (.int .i64 3), s.2)) = true := by kernel_rfl
theorem f_57_4 (n0 n1 : Int) : okB (((toF Tryd.prog Ex 9000 Tryd.f7 0 0 1 1 (AAct.enter Tryd.f7.ntmps [.int .i64 n0, .int .i64 n1], M00)).bind fun s => toF Tryd.prog Ex 9000 Tryd.f7 1 2 1 4 (s.1.put (some 13) (.int .i64 57), s.2)).bind fun s => restF Tryd.prog Ex 9000 Tryd.f7 1 5 (s.1.put (some 16) (.int .i64 4), s.2)) = true := by kernel_rfl
theorem f_57_5 (n0 n1 : Int) : okB (((toF Tryd.prog Ex 9000 Tryd.f7 0 0 1 1 (AAct.enter Tryd.f7.ntmps [.int .i64 n0, .int .i64 n1], M00)).bind fun s => toF Tryd.prog Ex 9000 Tryd.f7 1 2 1 4 (s.1.put (some 13) (.int .i64 57), s.2)).bind fun s => restF Tryd.prog Ex 9000 Tryd.f7 1 5 (s.1.put (some 16) (.int .i64 5), s.2)) = true := by kernel_rfl
theorem f_57_6 (n0 n1 : Int) : okB (((toF Tryd.prog Ex 9000 Tryd.f7 0 0 1 1 (AAct.enter Tryd.f7.ntmps [.int .i64 n0, .int .i64 n1], M00)).bind fun s => toF Tryd.prog Ex 9000 Tryd.f7 1 2 1 4 (s.1.put (some 13) (.int .i64 57), s.2)).bind fun s => restF Tryd.prog Ex 9000 Tryd.f7 1 5 (s.1.put (some 16) (.int .i64 6), s.2)) = true := by kernel_rfl
theorem f_57_7 (n0 n1 : Int) : okB (((toF Tryd.prog Ex 9000 Tryd.f7 0 0 1 1 (AAct.enter Tryd.f7.ntmps [.int .i64 n0, .int .i64 n1], M00)).bind fun s => toF Tryd.prog Ex 9000 Tryd.f7 1 2 1 4 (s.1.put (some 13) (.int .i64 57), s.2)).bind fun s => restF Tryd.prog Ex 9000 Tryd.f7 1 5 (s.1.put (some 16) (.int .i64 7), s.2)) = true := by kernel_rfl
theorem g_57 (n0 n1 : Int) (s1 : AAct × Store) (h1 : toF Tryd.prog Ex 9000 Tryd.f7 0 0 1 1 (AAct.enter Tryd.f7.ntmps [.int .i64 n0, .int .i64 n1], M00) = some s1) : okB (restF Tryd.prog Ex 9000 Tryd.f7 1 2 (s1.1.put (some 13) (.int .i64 57), s1.2)) = true := by
  have h := e_57 n0 n1
  rw [h1, Option.bind_some] at h
  obtain ⟨s2, h2, x2⟩ := Option.map_eq_some_iff.1 h
  rw [rest_rem (m := 8) (d := 16) (x := .tmp 15) (by decide) (by kernel_rfl) (by decide) h2 x2]
  obtain ⟨y, hy, vy⟩ := bits_rem n1 255 8 (by decide) (by decide)
  rw [vy]
  have all : ∀ y : Nat, y < 8 → okB (((toF Tryd.prog Ex 9000 Tryd.f7 0 0 1 1 (AAct.enter Tryd.f7.ntmps [.int .i64 n0, .int .i64 n1], M00)).bind fun s => toF Tryd.prog Ex 9000 Tryd.f7 1 2 1 4 (s.1.put (some 13) (.int .i64 57), s.2)).bind fun s => restF Tryd.prog Ex 9000 Tryd.f7 1 5 (s.1.put (some 16) (.int .i64 y), s.2)) = true := by
    intro y hy
    rcases (show y = 0 ∨ y = 1 ∨ y = 2 ∨ y = 3 ∨ y = 4 ∨ y = 5 ∨ y = 6 ∨ y = 7 by omega) with rfl | rfl | rfl | rfl | rfl | rfl | rfl | rfl
    · exact f_57_0 n0 n1
    · exact f_57_1 n0 n1
    · exact f_57_2 n0 n1
    · exact f_57_3 n0 n1
    · exact f_57_4 n0 n1
    · exact f_57_5 n0 n1
    · exact f_57_6 n0 n1
    · exact f_57_7 n0 n1
  have h3 := all y hy
  rw [h1, Option.bind_some, h2, Option.bind_some] at h3
  exact h3
end actsGrow
end Go.G
