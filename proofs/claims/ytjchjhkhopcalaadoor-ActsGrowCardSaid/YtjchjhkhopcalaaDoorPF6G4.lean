/- ActsGrow: its runs, part 4. -/
import Derived.Test.YtjchjhkhopcalaaDoorPAW
import Derived.Test.YtjchjhkhopcalaaDoorPAbFin
namespace Go.G
open Go.Ab Go.Proofs Go.RowKit
set_option linter.unusedVariables false
set_option maxRecDepth 100000
namespace actsGrow
theorem e_4 (n0 n1 : Int) : ((toF Tryd.prog Ex 9000 Tryd.f7 0 0 1 1 (AAct.enter Tryd.f7.ntmps [.int .i64 n0, .int .i64 n1], M00)).bind fun s => toF Tryd.prog Ex 9000 Tryd.f7 1 2 1 4 (s.1.put (some 13) (.int .i64 4), s.2)).map (fun s => s.1.eval (.tmp 15)) = some (.int .i64 (Go.Ab.bits n1 255)) := by kernel_rfl
theorem f_4_0 (n0 n1 : Int) : okB (((toF Tryd.prog Ex 9000 Tryd.f7 0 0 1 1 (AAct.enter Tryd.f7.ntmps [.int .i64 n0, .int .i64 n1], M00)).bind fun s => toF Tryd.prog Ex 9000 Tryd.f7 1 2 1 4 (s.1.put (some 13) (.int .i64 4), s.2)).bind fun s => restF Tryd.prog Ex 9000 Tryd.f7 1 5 (s.1.put (some 16) (.int .i64 0), s.2)) = true := by kernel_rfl
theorem f_4_1 (n0 n1 : Int) : okB (((toF Tryd.prog Ex 9000 Tryd.f7 0 0 1 1 (AAct.enter Tryd.f7.ntmps [.int .i64 n0, .int .i64 n1], M00)).bind fun s => toF Tryd.prog Ex 9000 Tryd.f7 1 2 1 4 (s.1.put (some 13) (.int .i64 4), s.2)).bind fun s => restF Tryd.prog Ex 9000 Tryd.f7 1 5 (s.1.put (some 16) (.int .i64 1), s.2)) = true := by kernel_rfl
theorem f_4_2 (n0 n1 : Int) : okB (((toF Tryd.prog Ex 9000 Tryd.f7 0 0 1 1 (AAct.enter Tryd.f7.ntmps [.int .i64 n0, .int .i64 n1], M00)).bind fun s => toF Tryd.prog Ex 9000 Tryd.f7 1 2 1 4 (s.1.put (some 13) (.int .i64 4), s.2)).bind fun s => restF Tryd.prog Ex 9000 Tryd.f7 1 5 (s.1.put (some 16) (.int .i64 2), s.2)) = true := by kernel_rfl
theorem f_4_3 (n0 n1 : Int) : okB (((toF Tryd.prog Ex 9000 Tryd.f7 0 0 1 1 (AAct.enter Tryd.f7.ntmps [.int .i64 n0, .int .i64 n1], M00)).bind fun s => toF Tryd.prog Ex 9000 Tryd.f7 1 2 1 4 (s.1.put (some 13) (.int .i64 4), s.2)).bind fun s => restF Tryd.prog Ex 9000 Tryd.f7 1 5 (s.1.put (some 16) (.int .i64 3), s.2)) = true := by kernel_rfl
theorem f_4_4 (n0 n1 : Int) : okB (((toF Tryd.prog Ex 9000 Tryd.f7 0 0 1 1 (AAct.enter Tryd.f7.ntmps [.int .i64 n0, .int .i64 n1], M00)).bind fun s => toF Tryd.prog Ex 9000 Tryd.f7 1 2 1 4 (s.1.put (some 13) (.int .i64 4), s.2)).bind fun s => restF Tryd.prog Ex 9000 Tryd.f7 1 5 (s.1.put (some 16) (.int .i64 4), s.2)) = true := by kernel_rfl
theorem f_4_5 (n0 n1 : Int) : okB (((toF Tryd.prog Ex 9000 Tryd.f7 0 0 1 1 (AAct.enter Tryd.f7.ntmps [.int .i64 n0, .int .i64 n1], M00)).bind fun s => toF Tryd.prog Ex 9000 Tryd.f7 1 2 1 4 (s.1.put (some 13) (.int .i64 4), s.2)).bind fun s => restF Tryd.prog Ex 9000 Tryd.f7 1 5 (s.1.put (some 16) (.int .i64 5), s.2)) = true := by kernel_rfl
theorem f_4_6 (n0 n1 : Int) : okB (((toF Tryd.prog Ex 9000 Tryd.f7 0 0 1 1 (AAct.enter Tryd.f7.ntmps [.int .i64 n0, .int .i64 n1], M00)).bind fun s => toF Tryd.prog Ex 9000 Tryd.f7 1 2 1 4 (s.1.put (some 13) (.int .i64 4), s.2)).bind fun s => restF Tryd.prog Ex 9000 Tryd.f7 1 5 (s.1.put (some 16) (.int .i64 6), s.2)) = true := by kernel_rfl
theorem f_4_7 (n0 n1 : Int) : okB (((toF Tryd.prog Ex 9000 Tryd.f7 0 0 1 1 (AAct.enter Tryd.f7.ntmps [.int .i64 n0, .int .i64 n1], M00)).bind fun s => toF Tryd.prog Ex 9000 Tryd.f7 1 2 1 4 (s.1.put (some 13) (.int .i64 4), s.2)).bind fun s => restF Tryd.prog Ex 9000 Tryd.f7 1 5 (s.1.put (some 16) (.int .i64 7), s.2)) = true := by kernel_rfl
theorem g_4 (n0 n1 : Int) (s1 : AAct × Store) (h1 : toF Tryd.prog Ex 9000 Tryd.f7 0 0 1 1 (AAct.enter Tryd.f7.ntmps [.int .i64 n0, .int .i64 n1], M00) = some s1) : okB (restF Tryd.prog Ex 9000 Tryd.f7 1 2 (s1.1.put (some 13) (.int .i64 4), s1.2)) = true := by
  have h := e_4 n0 n1
  rw [h1, Option.bind_some] at h
  obtain ⟨s2, h2, x2⟩ := Option.map_eq_some_iff.1 h
  rw [rest_rem (m := 8) (d := 16) (x := .tmp 15) (by decide) (by kernel_rfl) (by decide) h2 x2]
  obtain ⟨y, hy, vy⟩ := bits_rem n1 255 8 (by decide) (by decide)
  rw [vy]
  have all : ∀ y : Nat, y < 8 → okB (((toF Tryd.prog Ex 9000 Tryd.f7 0 0 1 1 (AAct.enter Tryd.f7.ntmps [.int .i64 n0, .int .i64 n1], M00)).bind fun s => toF Tryd.prog Ex 9000 Tryd.f7 1 2 1 4 (s.1.put (some 13) (.int .i64 4), s.2)).bind fun s => restF Tryd.prog Ex 9000 Tryd.f7 1 5 (s.1.put (some 16) (.int .i64 y), s.2)) = true := by
    intro y hy
    rcases (show y = 0 ∨ y = 1 ∨ y = 2 ∨ y = 3 ∨ y = 4 ∨ y = 5 ∨ y = 6 ∨ y = 7 by omega) with rfl | rfl | rfl | rfl | rfl | rfl | rfl | rfl
    · exact f_4_0 n0 n1
    · exact f_4_1 n0 n1
    · exact f_4_2 n0 n1
    · exact f_4_3 n0 n1
    · exact f_4_4 n0 n1
    · exact f_4_5 n0 n1
    · exact f_4_6 n0 n1
    · exact f_4_7 n0 n1
  have h3 := all y hy
  rw [h1, Option.bind_some, h2, Option.bind_some] at h3
  exact h3
theorem e_12 (n0 n1 : Int) : ((toF Tryd.prog Ex 9000 Tryd.f7 0 0 1 1 (AAct.enter Tryd.f7.ntmps [.int .i64 n0, .int .i64 n1], M00)).bind fun s => toF Tryd.prog Ex 9000 Tryd.f7 1 2 1 4 (s.1.put (some 13) (.int .i64 12), s.2)).map (fun s => s.1.eval (.tmp 15)) = some (.int .i64 (Go.Ab.bits n1 255)) := by kernel_rfl
theorem f_12_0 (n0 n1 : Int) : okB (((toF Tryd.prog Ex 9000 Tryd.f7 0 0 1 1 (AAct.enter Tryd.f7.ntmps [.int .i64 n0, .int .i64 n1], M00)).bind fun s => toF Tryd.prog Ex 9000 Tryd.f7 1 2 1 4 (s.1.put (some 13) (.int .i64 12), s.2)).bind fun s => restF Tryd.prog Ex 9000 Tryd.f7 1 5 (s.1.put (some 16) (.int .i64 0), s.2)) = true := by kernel_rfl
theorem f_12_1 (n0 n1 : Int) : okB (((toF Tryd.prog Ex 9000 Tryd.f7 0 0 1 1 (AAct.enter Tryd.f7.ntmps [.int .i64 n0, .int .i64 n1], M00)).bind fun s => toF Tryd.prog Ex 9000 Tryd.f7 1 2 1 4 (s.1.put (some 13) (.int .i64 12), s.2)).bind fun s => restF Tryd.prog Ex 9000 Tryd.f7 1 5 (s.1.put (some 16) (.int .i64 1), s.2)) = true := by kernel_rfl
theorem f_12_2 (n0 n1 : Int) : okB (((toF Tryd.prog Ex 9000 Tryd.f7 0 0 1 1 (AAct.enter Tryd.f7.ntmps [.int .i64 n0, .int .i64 n1], M00)).bind fun s => toF Tryd.prog Ex 9000 Tryd.f7 1 2 1 4 (s.1.put (some 13) (.int .i64 12), s.2)).bind fun s => restF Tryd.prog Ex 9000 Tryd.f7 1 5 (s.1.put (some 16) (.int .i64 2), s.2)) = true := by kernel_rfl
theorem f_12_3 (n0 n1 : Int) : okB (((toF Tryd.prog Ex 9000 Tryd.f7 0 0 1 1 (AAct.enter Tryd.f7.ntmps [.int .i64 n0, .int .i64 n1], M00)).bind fun s => toF Tryd.prog Ex 9000 Tryd.f7 1 2 1 4 (s.1.put (some 13) (.int .i64 12), s.2)).bind fun s => restF Tryd.prog Ex 9000 Tryd.f7 1 5 (s.1.put (some 16) (.int .i64 3), s.2)) = true := by kernel_rfl
theorem f_12_4 (n0 n1 : Int) : okB (((toF Tryd.prog Ex 9000 Tryd.f7 0 0 1 1 (AAct.enter Tryd.f7.ntmps [.int .i64 n0, .int .i64 n1], M00)).bind fun s => toF Tryd.prog Ex 9000 Tryd.f7 1 2 1 4 (s.1.put (some 13) (.int .i64 12), s.2)).bind fun s => restF Tryd.prog Ex 9000 Tryd.f7 1 5 (s.1.put (some 16) (.int .i64 4), s.2)) = true := by kernel_rfl
theorem f_12_5 (n0 n1 : Int) : okB (((toF Tryd.prog Ex 9000 Tryd.f7 0 0 1 1 (AAct.enter Tryd.f7.ntmps [.int .i64 n0, .int .i64 n1], M00)).bind fun s => toF Tryd.prog Ex 9000 Tryd.f7 1 2 1 4 (s.1.put (some 13) (.int .i64 12), s.2)).bind fun s => restF Tryd.prog Ex 9000 Tryd.f7 1 5 (s.1.put (some 16) (.int .i64 5), s.2)) = true := by kernel_rfl
theorem f_12_6 (n0 n1 : Int) : okB (((toF Tryd.prog Ex 9000 Tryd.f7 0 0 1 1 (AAct.enter Tryd.f7.ntmps [.int .i64 n0, .int .i64 n1], M00)).bind fun s => toF Tryd.prog Ex 9000 Tryd.f7 1 2 1 4 (s.1.put (some 13) (.int .i64 12), s.2)).bind fun s => restF Tryd.prog Ex 9000 Tryd.f7 1 5 (s.1.put (some 16) (.int .i64 6), s.2)) = true := by kernel_rfl
theorem f_12_7 (n0 n1 : Int) : okB (((toF Tryd.prog Ex 9000 Tryd.f7 0 0 1 1 (AAct.enter Tryd.f7.ntmps [.int .i64 n0, .int .i64 n1], M00)).bind fun s => toF Tryd.prog Ex 9000 Tryd.f7 1 2 1 4 (s.1.put (some 13) (.int .i64 12), s.2)).bind fun s => restF Tryd.prog Ex 9000 Tryd.f7 1 5 (s.1.put (some 16) (.int .i64 7), s.2)) = true := by kernel_rfl
theorem g_12 (n0 n1 : Int) (s1 : AAct × Store) (h1 : toF Tryd.prog Ex 9000 Tryd.f7 0 0 1 1 (AAct.enter Tryd.f7.ntmps [.int .i64 n0, .int .i64 n1], M00) = some s1) : okB (restF Tryd.prog Ex 9000 Tryd.f7 1 2 (s1.1.put (some 13) (.int .i64 12), s1.2)) = true := by
  have h := e_12 n0 n1
  rw [h1, Option.bind_some] at h
  obtain ⟨s2, h2, x2⟩ := Option.map_eq_some_iff.1 h
  rw [rest_rem (m := 8) (d := 16) (x := .tmp 15) (by decide) (by kernel_rfl) (by decide) h2 x2]
  obtain ⟨y, hy, vy⟩ := bits_rem n1 255 8 (by decide) (by decide)
  rw [vy]
  have all : ∀ y : Nat, y < 8 → okB (((toF Tryd.prog Ex 9000 Tryd.f7 0 0 1 1 (AAct.enter Tryd.f7.ntmps [.int .i64 n0, .int .i64 n1], M00)).bind fun s => toF Tryd.prog Ex 9000 Tryd.f7 1 2 1 4 (s.1.put (some 13) (.int .i64 12), s.2)).bind fun s => restF Tryd.prog Ex 9000 Tryd.f7 1 5 (s.1.put (some 16) (.int .i64 y), s.2)) = true := by
    intro y hy
    rcases (show y = 0 ∨ y = 1 ∨ y = 2 ∨ y = 3 ∨ y = 4 ∨ y = 5 ∨ y = 6 ∨ y = 7 by omega) with rfl | rfl | rfl | rfl | rfl | rfl | rfl | rfl
    · exact f_12_0 n0 n1
    · exact f_12_1 n0 n1
    · exact f_12_2 n0 n1
    · exact f_12_3 n0 n1
    · exact f_12_4 n0 n1
    · exact f_12_5 n0 n1
    · exact f_12_6 n0 n1
    · exact f_12_7 n0 n1
  have h3 := all y hy
  rw [h1, Option.bind_some, h2, Option.bind_some] at h3
  exact h3
theorem e_20 (n0 n1 : Int) : ((toF Tryd.prog Ex 9000 Tryd.f7 0 0 1 1 (AAct.enter Tryd.f7.ntmps [.int .i64 n0, .int .i64 n1], M00)).bind fun s => toF Tryd.prog Ex 9000 Tryd.f7 1 2 1 4 (s.1.put (some 13) (.int .i64 20), s.2)).map (fun s => s.1.eval (.tmp 15)) = some (.int .i64 (Go.Ab.bits n1 255)) := by kernel_rfl
theorem f_20_0 (n0 n1 : Int) : okB (((toF Tryd.prog Ex 9000 Tryd.f7 0 0 1 1 (AAct.enter Tryd.f7.ntmps [.int .i64 n0, .int .i64 n1], M00)).bind fun s => toF Tryd.prog Ex 9000 Tryd.f7 1 2 1 4 (s.1.put (some 13) (.int .i64 20), s.2)).bind fun s => restF Tryd.prog Ex 9000 Tryd.f7 1 5 (s.1.put (some 16) (.int .i64 0), s.2)) = true := by kernel_rfl
theorem f_20_1 (n0 n1 : Int) : okB (((toF Tryd.prog Ex 9000 Tryd.f7 0 0 1 1 (AAct.enter Tryd.f7.ntmps [.int .i64 n0, .int .i64 n1], M00)).bind fun s => toF Tryd.prog Ex 9000 Tryd.f7 1 2 1 4 (s.1.put (some 13) (.int .i64 20), s.2)).bind fun s => restF Tryd.prog Ex 9000 Tryd.f7 1 5 (s.1.put (some 16) (.int .i64 1), s.2)) = true := by kernel_rfl
theorem f_20_2 (n0 n1 : Int) : okB (((toF Tryd.prog Ex 9000 Tryd.f7 0 0 1 1 (AAct.enter Tryd.f7.ntmps [.int .i64 n0, .int .i64 n1], M00)).bind fun s => toF Tryd.prog Ex 9000 Tryd.f7 1 2 1 4 (s.1.put (some 13) (.int .i64 20), s.2)).bind fun s => restF Tryd.prog Ex 9000 Tryd.f7 1 5 (s.1.put (some 16) (.int .i64 2), s.2)) = true := by kernel_rfl
theorem f_20_3 (n0 n1 : Int) : okB (((toF Tryd.prog Ex 9000 Tryd.f7 0 0 1 1 (AAct.enter Tryd.f7.ntmps [.int .i64 n0, .int .i64 n1], M00)).bind fun s => toF Tryd.prog Ex 9000 Tryd.f7 1 2 1 4 (s.1.put (some 13) (.int .i64 20), s.2)).bind fun s => restF Tryd.prog Ex 9000 Tryd.f7 1 5 (s.1.put (some 16) (.int .i64 3), s.2)) = true := by kernel_rfl
theorem f_20_4 (n0 n1 : Int) : okB (((toF Tryd.prog Ex 9000 Tryd.f7 0 0 1 1 (AAct.enter Tryd.f7.ntmps [.int .i64 n0, .int .i64 n1], M00)).bind fun s => toF Tryd.prog Ex 9000 Tryd.f7 1 2 1 4 (s.1.put (some 13) (.int .i64 20), s.2)).bind fun s => restF Tryd.prog Ex 9000 Tryd.f7 1 5 (s.1.put (some 16) (.int .i64 4), s.2)) = true := by kernel_rfl
theorem f_20_5 (n0 n1 : Int) : okB (((toF Tryd.prog Ex 9000 Tryd.f7 0 0 1 1 (AAct.enter Tryd.f7.ntmps [.int .i64 n0, .int .i64 n1], M00)).bind fun s => toF Tryd.prog Ex 9000 Tryd.f7 1 2 1 4 (s.1.put (some 13) (.int .i64 20), s.2)).bind fun s => restF Tryd.prog Ex 9000 Tryd.f7 1 5 (s.1.put (some 16) (.int .i64 5), s.2)) = true := by kernel_rfl
theorem f_20_6 (n0 n1 : Int) : okB (((toF Tryd.prog Ex 9000 Tryd.f7 0 0 1 1 (AAct.enter Tryd.f7.ntmps [.int .i64 n0, .int .i64 n1], M00)).bind fun s => toF Tryd.prog Ex 9000 Tryd.f7 1 2 1 4 (s.1.put (some 13) (.int .i64 20), s.2)).bind fun s => restF Tryd.prog Ex 9000 Tryd.f7 1 5 (s.1.put (some 16) (.int .i64 6), s.2)) = true := by kernel_rfl
theorem f_20_7 (n0 n1 : Int) : okB (((toF Tryd.prog Ex 9000 Tryd.f7 0 0 1 1 (AAct.enter Tryd.f7.ntmps [.int .i64 n0, .int .i64 n1], M00)).bind fun s => toF Tryd.prog Ex 9000 Tryd.f7 1 2 1 4 (s.1.put (some 13) (.int .i64 20), s.2)).bind fun s => restF Tryd.prog Ex 9000 Tryd.f7 1 5 (s.1.put (some 16) (.int .i64 7), s.2)) = true := by kernel_rfl
theorem g_20 (n0 n1 : Int) (s1 : AAct × Store) (h1 : toF Tryd.prog Ex 9000 Tryd.f7 0 0 1 1 (AAct.enter Tryd.f7.ntmps [.int .i64 n0, .int .i64 n1], M00) = some s1) : okB (restF Tryd.prog Ex 9000 Tryd.f7 1 2 (s1.1.put (some 13) (.int .i64 20), s1.2)) = true := by
  have h := e_20 n0 n1
  rw [h1, Option.bind_some] at h
  obtain ⟨s2, h2, x2⟩ := Option.map_eq_some_iff.1 h
  rw [rest_rem (m := 8) (d := 16) (x := .tmp 15) (by decide) (by kernel_rfl) (by decide) h2 x2]
  obtain ⟨y, hy, vy⟩ := bits_rem n1 255 8 (by decide) (by decide)
  rw [vy]
  have all : ∀ y : Nat, y < 8 → okB (((toF Tryd.prog Ex 9000 Tryd.f7 0 0 1 1 (AAct.enter Tryd.f7.ntmps [.int .i64 n0, .int .i64 n1], M00)).bind fun s => toF Tryd.prog Ex 9000 Tryd.f7 1 2 1 4 (s.1.put (some 13) (.int .i64 20), s.2)).bind fun s => restF Tryd.prog Ex 9000 Tryd.f7 1 5 (s.1.put (some 16) (.int .i64 y), s.2)) = true := by
    intro y hy
    rcases (show y = 0 ∨ y = 1 ∨ y = 2 ∨ y = 3 ∨ y = 4 ∨ y = 5 ∨ y = 6 ∨ y = 7 by omega) with rfl | rfl | rfl | rfl | rfl | rfl | rfl | rfl
    · exact f_20_0 n0 n1
    · exact f_20_1 n0 n1
    · exact f_20_2 n0 n1
    · exact f_20_3 n0 n1
    · exact f_20_4 n0 n1
    · exact f_20_5 n0 n1
    · exact f_20_6 n0 n1
    · exact f_20_7 n0 n1
  have h3 := all y hy
  rw [h1, Option.bind_some, h2, Option.bind_some] at h3
  exact h3
theorem e_28 (n0 n1 : Int) : ((toF Tryd.prog Ex 9000 Tryd.f7 0 0 1 1 (AAct.enter Tryd.f7.ntmps [.int .i64 n0, .int .i64 n1], M00)).bind fun s => toF Tryd.prog Ex 9000 Tryd.f7 1 2 1 4 (s.1.put (some 13) (.int .i64 28), s.2)).map (fun s => s.1.eval (.tmp 15)) = some (.int .i64 (Go.Ab.bits n1 255)) := by kernel_rfl
theorem f_28_0 (n0 n1 : Int) : okB (((toF Tryd.prog Ex 9000 Tryd.f7 0 0 1 1 (AAct.enter Tryd.f7.ntmps [.int .i64 n0, .int .i64 n1], M00)).bind fun s => toF Tryd.prog Ex 9000 Tryd.f7 1 2 1 4 (s.1.put (some 13) (.int .i64 28), s.2)).bind fun s => restF Tryd.prog Ex 9000 Tryd.f7 1 5 (s.1.put (some 16) (.int .i64 0), s.2)) = true := by kernel_rfl
theorem f_28_1 (n0 n1 : Int) : okB (((toF Tryd.prog Ex 9000 Tryd.f7 0 0 1 1 (AAct.enter Tryd.f7.ntmps [.int .i64 n0, .int .i64 n1], M00)).bind fun s => toF Tryd.prog Ex 9000 Tryd.f7 1 2 1 4 (s.1.put (some 13) (.int .i64 28), s.2)).bind fun s => restF Tryd.prog Ex 9000 Tryd.f7 1 5 (s.1.put (some 16) (.int .i64 1), s.2)) = true := by kernel_rfl
theorem f_28_2 (n0 n1 : Int) : okB (((toF Tryd.prog Ex 9000 Tryd.f7 0 0 1 1 (AAct.enter Tryd.f7.ntmps [.int .i64 n0, .int .i64 n1], M00)).bind fun s => toF Tryd.prog Ex 9000 Tryd.f7 1 2 1 4 (s.1.put (some 13) (.int .i64 28), s.2)).bind fun s => restF Tryd.prog Ex 9000 Tryd.f7 1 5 (s.1.put (some 16) (.int .i64 2), s.2)) = true := by kernel_rfl
theorem f_28_3 (n0 n1 : Int) : okB (((toF Tryd.prog Ex 9000 Tryd.f7 0 0 1 1 (AAct.enter Tryd.f7.ntmps [.int .i64 n0, .int .i64 n1], M00)).bind fun s => toF Tryd.prog Ex 9000 Tryd.f7 1 2 1 4 (s.1.put (some 13) (.int .i64 28), s.2)).bind fun s => restF Tryd.prog Ex 9000 Tryd.f7 1 5 (s.1.put (some 16) (.int .i64 3), s.2)) = true := by kernel_rfl
theorem f_28_4 (n0 n1 : Int) : okB (((toF Tryd.prog Ex 9000 Tryd.f7 0 0 1 1 (AAct.enter Tryd.f7.ntmps [.int .i64 n0, .int .i64 n1], M00)).bind fun s => toF Tryd.prog Ex 9000 Tryd.f7 1 2 1 4 (s.1.put (some 13) (.int .i64 28), s.2)).bind fun s => restF Tryd.prog Ex 9000 Tryd.f7 1 5 (s.1.put (some 16) (.int .i64 4), s.2)) = true := by kernel_rfl
theorem f_28_5 (n0 n1 : Int) : okB (((toF Tryd.prog Ex 9000 Tryd.f7 0 0 1 1 (AAct.enter Tryd.f7.ntmps [.int .i64 n0, .int .i64 n1], M00)).bind fun s => toF Tryd.prog Ex 9000 Tryd.f7 1 2 1 4 (s.1.put (some 13) (.int .i64 28), s.2)).bind fun s => restF Tryd.prog Ex 9000 Tryd.f7 1 5 (s.1.put (some 16) (.int .i64 5), s.2)) = true := by kernel_rfl
theorem f_28_6 (n0 n1 : Int) : okB (((toF Tryd.prog Ex 9000 Tryd.f7 0 0 1 1 (AAct.enter Tryd.f7.ntmps [.int .i64 n0, .int .i64 n1], M00)).bind fun s => toF Tryd.prog Ex 9000 Tryd.f7 1 2 1 4 (s.1.put (some 13) (.int .i64 28), s.2)).bind fun s => restF Tryd.prog Ex 9000 Tryd.f7 1 5 (s.1.put (some 16) (.int .i64 6), s.2)) = true := by kernel_rfl
theorem f_28_7 (n0 n1 : Int) : okB (((toF Tryd.prog Ex 9000 Tryd.f7 0 0 1 1 (AAct.enter Tryd.f7.ntmps [.int .i64 n0, .int .i64 n1], M00)).bind fun s => toF Tryd.prog Ex 9000 Tryd.f7 1 2 1 4 (s.1.put (some 13) (.int .i64 28), s.2)).bind fun s => restF Tryd.prog Ex 9000 Tryd.f7 1 5 (s.1.put (some 16) (.int .i64 7), s.2)) = true := by kernel_rfl
theorem g_28 (n0 n1 : Int) (s1 : AAct × Store) (h1 : toF Tryd.prog Ex 9000 Tryd.f7 0 0 1 1 (AAct.enter Tryd.f7.ntmps [.int .i64 n0, .int .i64 n1], M00) = some s1) : okB (restF Tryd.prog Ex 9000 Tryd.f7 1 2 (s1.1.put (some 13) (.int .i64 28), s1.2)) = true := by
  have h := e_28 n0 n1
  rw [h1, Option.bind_some] at h
  obtain ⟨s2, h2, x2⟩ := Option.map_eq_some_iff.1 h
  rw [rest_rem (m := 8) (d := 16) (x := .tmp 15) (by decide) (by kernel_rfl) (by decide) h2 x2]
  obtain ⟨y, hy, vy⟩ := bits_rem n1 255 8 (by decide) (by decide)
  rw [vy]
  have all : ∀ y : Nat, y < 8 → okB (((toF Tryd.prog Ex 9000 Tryd.f7 0 0 1 1 (AAct.enter Tryd.f7.ntmps [.int .i64 n0, .int .i64 n1], M00)).bind fun s => toF Tryd.prog Ex 9000 Tryd.f7 1 2 1 4 (s.1.put (some 13) (.int .i64 28), s.2)).bind fun s => restF Tryd.prog Ex 9000 Tryd.f7 1 5 (s.1.put (some 16) (.int .i64 y), s.2)) = true := by
    intro y hy
    rcases (show y = 0 ∨ y = 1 ∨ y = 2 ∨ y = 3 ∨ y = 4 ∨ y = 5 ∨ y = 6 ∨ y = 7 by omega) with rfl | rfl | rfl | rfl | rfl | rfl | rfl | rfl
    · exact f_28_0 n0 n1
    · exact f_28_1 n0 n1
    · exact f_28_2 n0 n1
    · exact f_28_3 n0 n1
    · exact f_28_4 n0 n1
    · exact f_28_5 n0 n1
    · exact f_28_6 n0 n1
    · exact f_28_7 n0 n1
  have h3 := all y hy
  rw [h1, Option.bind_some, h2, Option.bind_some] at h3
  exact h3
theorem e_36 (n0 n1 : Int) : ((toF Tryd.prog Ex 9000 Tryd.f7 0 0 1 1 (AAct.enter Tryd.f7.ntmps [.int .i64 n0, .int .i64 n1], M00)).bind fun s => toF Tryd.prog Ex 9000 Tryd.f7 1 2 1 4 (s.1.put (some 13) (.int .i64 36), s.2)).map (fun s => s.1.eval (.tmp 15)) = some (.int .i64 (Go.Ab.bits n1 255)) := by kernel_rfl
theorem f_36_0 (n0 n1 : Int) : okB (((toF Tryd.prog Ex 9000 Tryd.f7 0 0 1 1 (AAct.enter Tryd.f7.ntmps [.int .i64 n0, .int .i64 n1], M00)).bind fun s => toF Tryd.prog Ex 9000 Tryd.f7 1 2 1 4 (s.1.put (some 13) (.int .i64 36), s.2)).bind fun s => restF Tryd.prog Ex 9000 Tryd.f7 1 5 (s.1.put (some 16) (.int .i64 0), s.2)) = true := by kernel_rfl
theorem f_36_1 (n0 n1 : Int) : okB (((toF Tryd.prog Ex 9000 Tryd.f7 0 0 1 1 (AAct.enter Tryd.f7.ntmps [.int .i64 n0, .int .i64 n1], M00)).bind fun s => toF Tryd.prog Ex 9000 Tryd.f7 1 2 1 4 (s.1.put (some 13) (.int .i64 36), s.2)).bind fun s => restF Tryd.prog Ex 9000 Tryd.f7 1 5 (s.1.put (some 16) (.int .i64 1), s.2)) = true := by kernel_rfl
theorem f_36_2 (n0 n1 : Int) : okB (((toF Tryd.prog Ex 9000 Tryd.f7 0 0 1 1 (AAct.enter Tryd.f7.ntmps [.int .i64 n0, .int .i64 n1], M00)).bind fun s => toF Tryd.prog Ex 9000 Tryd.f7 1 2 1 4 (s.1.put (some 13) (.int .i64 36), s.2)).bind fun s => restF Tryd.prog Ex 9000 Tryd.f7 1 5 (s.1.put (some 16) (.int .i64 2), s.2)) = true := by kernel_rfl
theorem f_36_3 (n0 n1 : Int) : okB (((toF Tryd.prog Ex 9000 Tryd.f7 0 0 1 1 (AAct.enter Tryd.f7.ntmps [.int .i64 n0, .int .i64 n1], M00)).bind fun s => toF Tryd.prog Ex 9000 Tryd.f7 1 2 1 4 (s.1.put (some 13) (.int .i64 36), s.2)).bind fun s => restF Tryd.prog Ex 9000 Tryd.f7 1 5 (s.1.put (some 16) (.int .i64 3), s.2)) = true := by kernel_rfl
theorem f_36_4 (n0 n1 : Int) : okB (((toF Tryd.prog Ex 9000 Tryd.f7 0 0 1 1 (AAct.enter Tryd.f7.ntmps [.int .i64 n0, .int .i64 n1], M00)).bind fun s => toF Tryd.prog Ex 9000 Tryd.f7 1 2 1 4 (s.1.put (some 13) (.int .i64 36), s.2)).bind fun s => restF Tryd.prog Ex 9000 Tryd.f7 1 5 (s.1.put (some 16) (.int .i64 4), s.2)) = true := by kernel_rfl
theorem f_36_5 (n0 n1 : Int) : okB (((toF Tryd.prog Ex 9000 Tryd.f7 0 0 1 1 (AAct.enter Tryd.f7.ntmps [.int .i64 n0, .int .i64 n1], M00)).bind fun s => toF Tryd.prog Ex 9000 Tryd.f7 1 2 1 4 (s.1.put (some 13) (.int .i64 36), s.2)).bind fun s => restF Tryd.prog Ex 9000 Tryd.f7 1 5 (s.1.put (some 16) (.int .i64 5), s.2)) = true := by kernel_rfl
theorem f_36_6 (n0 n1 : Int) : okB (((toF Tryd.prog Ex 9000 Tryd.f7 0 0 1 1 (AAct.enter Tryd.f7.ntmps [.int .i64 n0, .int .i64 n1], M00)).bind fun s => toF Tryd.prog Ex 9000 Tryd.f7 1 2 1 4 (s.1.put (some 13) (.int .i64 36), s.2)).bind fun s => restF Tryd.prog Ex 9000 Tryd.f7 1 5 (s.1.put (some 16) (.int .i64 6), s.2)) = true := by kernel_rfl
theorem f_36_7 (n0 n1 : Int) : okB (((toF Tryd.prog Ex 9000 Tryd.f7 0 0 1 1 (AAct.enter Tryd.f7.ntmps [.int .i64 n0, .int .i64 n1], M00)).bind fun s => toF Tryd.prog Ex 9000 Tryd.f7 1 2 1 4 (s.1.put (some 13) (.int .i64 36), s.2)).bind fun s => restF Tryd.prog Ex 9000 Tryd.f7 1 5 (s.1.put (some 16) (.int .i64 7), s.2)) = true := by kernel_rfl
theorem g_36 (n0 n1 : Int) (s1 : AAct × Store) (h1 : toF Tryd.prog Ex 9000 Tryd.f7 0 0 1 1 (AAct.enter Tryd.f7.ntmps [.int .i64 n0, .int .i64 n1], M00) = some s1) : okB (restF Tryd.prog Ex 9000 Tryd.f7 1 2 (s1.1.put (some 13) (.int .i64 36), s1.2)) = true := by
  have h := e_36 n0 n1
  rw [h1, Option.bind_some] at h
  obtain ⟨s2, h2, x2⟩ := Option.map_eq_some_iff.1 h
  rw [rest_rem (m := 8) (d := 16) (x := .tmp 15) (by decide) (by kernel_rfl) (by decide) h2 x2]
  obtain ⟨y, hy, vy⟩ := bits_rem n1 255 8 (by decide) (by decide)
  rw [vy]
  have all : ∀ y : Nat, y < 8 → okB (((toF Tryd.prog Ex 9000 Tryd.f7 0 0 1 1 (AAct.enter Tryd.f7.ntmps [.int .i64 n0, .int .i64 n1], M00)).bind fun s => toF Tryd.prog Ex 9000 Tryd.f7 1 2 1 4 (s.1.put (some 13) (.int .i64 36), s.2)).bind fun s => restF Tryd.prog Ex 9000 Tryd.f7 1 5 (s.1.put (some 16) (.int .i64 y), s.2)) = true := by
    intro y hy
    rcases (show y = 0 ∨ y = 1 ∨ y = 2 ∨ y = 3 ∨ y = 4 ∨ y = 5 ∨ y = 6 ∨ y = 7 by omega) with rfl | rfl | rfl | rfl | rfl | rfl | rfl | rfl
    · exact f_36_0 n0 n1
    · exact f_36_1 n0 n1
    · exact f_36_2 n0 n1
    · exact f_36_3 n0 n1
    · exact f_36_4 n0 n1
    · exact f_36_5 n0 n1
    · exact f_36_6 n0 n1
    · exact f_36_7 n0 n1
  have h3 := all y hy
  rw [h1, Option.bind_some, h2, Option.bind_some] at h3
  exact h3
theorem e_44 (n0 n1 : Int) : ((toF Tryd.prog Ex 9000 Tryd.f7 0 0 1 1 (AAct.enter Tryd.f7.ntmps [.int .i64 n0, .int .i64 n1], M00)).bind fun s => toF Tryd.prog Ex 9000 Tryd.f7 1 2 1 4 (s.1.put (some 13) (.int .i64 44), s.2)).map (fun s => s.1.eval (.tmp 15)) = some (.int .i64 (Go.Ab.bits n1 255)) := by kernel_rfl
theorem f_44_0 (n0 n1 : Int) : okB (((toF Tryd.prog Ex 9000 Tryd.f7 0 0 1 1 (AAct.enter Tryd.f7.ntmps [.int .i64 n0, .int .i64 n1], M00)).bind fun s => toF Tryd.prog Ex 9000 Tryd.f7 1 2 1 4 (s.1.put (some 13) (.int .i64 44), s.2)).bind fun s => restF Tryd.prog Ex 9000 Tryd.f7 1 5 (s.1.put (some 16) (.int .i64 0), s.2)) = true := by kernel_rfl
theorem f_44_1 (n0 n1 : Int) : okB (((toF Tryd.prog Ex 9000 Tryd.f7 0 0 1 1 (AAct.enter Tryd.f7.ntmps [.int .i64 n0, .int .i64 n1], M00)).bind fun s => toF Tryd.prog Ex 9000 Tryd.f7 1 2 1 4 (s.1.put (some 13) (.int .i64 44), s.2)).bind fun s => restF Tryd.prog Ex 9000 Tryd.f7 1 5 (s.1.put (some 16) (.int .i64 1), s.2)) = true := by kernel_rfl
theorem f_44_2 (n0 n1 : Int) : okB (((toF Tryd.prog Ex 9000 Tryd.f7 0 0 1 1 (AAct.enter Tryd.f7.ntmps [.int .i64 n0, .int .i64 n1], M00)).bind fun s => toF Tryd.prog Ex 9000 Tryd.f7 1 2 1 4 (s.1.put (some 13) (.int .i64 44), s.2)).bind fun s => restF Tryd.prog Ex 9000 Tryd.f7 1 5 (s.1.put (some 16) (.int .i64 2), s.2)) = true := by kernel_rfl
theorem f_44_3 (n0 n1 : Int) : okB (((toF Tryd.prog Ex 9000 Tryd.f7 0 0 1 1 (AAct.enter Tryd.f7.ntmps [.int .i64 n0, .int .i64 n1], M00)).bind fun s => toF Tryd.prog Ex 9000 Tryd.f7 1 2 1 4 (s.1.put (some 13) (.int .i64 44), s.2)).bind fun s => restF Tryd.prog Ex 9000 Tryd.f7 1 5 (s.1.put (some 16) (.int .i64 3), s.2)) = true := by kernel_rfl
theorem f_44_4 (n0 n1 : Int) : okB (((toF Tryd.prog Ex 9000 Tryd.f7 0 0 1 1 (AAct.enter Tryd.f7.ntmps [.int .i64 n0, .int .i64 n1], M00)).bind fun s => toF Tryd.prog Ex 9000 Tryd.f7 1 2 1 4 (s.1.put (some 13) (.int .i64 44), s.2)).bind fun s => restF Tryd.prog Ex 9000 Tryd.f7 1 5 (s.1.put (some 16) (.int .i64 4), s.2)) = true := by kernel_rfl
theorem f_44_5 (n0 n1 : Int) : okB (((toF Tryd.prog Ex 9000 Tryd.f7 0 0 1 1 (AAct.enter Tryd.f7.ntmps [.int .i64 n0, .int .i64 n1], M00)).bind fun s => toF Tryd.prog Ex 9000 Tryd.f7 1 2 1 4 (s.1.put (some 13) (.int .i64 44), s.2)).bind fun s => restF Tryd.prog Ex 9000 Tryd.f7 1 5 (s.1.put (some 16) (.int .i64 5), s.2)) = true := by kernel_rfl
theorem f_44_6 (n0 n1 : Int) : okB (((toF Tryd.prog Ex 9000 Tryd.f7 0 0 1 1 (AAct.enter Tryd.f7.ntmps [.int .i64 n0, .int .i64 n1], M00)).bind fun s => toF Tryd.prog Ex 9000 Tryd.f7 1 2 1 4 (s.1.put (some 13) (.int .i64 44), s.2)).bind fun s => restF Tryd.prog Ex 9000 Tryd.f7 1 5 (s.1.put (some 16) (.int .i64 6), s.2)) = true := by kernel_rfl
theorem f_44_7 (n0 n1 : Int) : okB (((toF Tryd.prog Ex 9000 Tryd.f7 0 0 1 1 (AAct.enter Tryd.f7.ntmps [.int .i64 n0, .int .i64 n1], M00)).bind fun s => toF Tryd.prog Ex 9000 Tryd.f7 1 2 1 4 (s.1.put (some 13) (.int .i64 44), s.2)).bind fun s => restF Tryd.prog Ex 9000 Tryd.f7 1 5 (s.1.put (some 16) (.int .i64 7), s.2)) = true := by kernel_rfl
theorem g_44 (n0 n1 : Int) (s1 : AAct × Store) (h1 : toF Tryd.prog Ex 9000 Tryd.f7 0 0 1 1 (AAct.enter Tryd.f7.ntmps [.int .i64 n0, .int .i64 n1], M00) = some s1) : okB (restF Tryd.prog Ex 9000 Tryd.f7 1 2 (s1.1.put (some 13) (.int .i64 44), s1.2)) = true := by
  have h := e_44 n0 n1
  rw [h1, Option.bind_some] at h
  obtain ⟨s2, h2, x2⟩ := Option.map_eq_some_iff.1 h
  rw [rest_rem (m := 8) (d := 16) (x := .tmp 15) (by decide) (by kernel_rfl) (by decide) h2 x2]
  obtain ⟨y, hy, vy⟩ := bits_rem n1 255 8 (by decide) (by decide)
  rw [vy]
  have all : ∀ y : Nat, y < 8 → okB (((toF Tryd.prog Ex 9000 Tryd.f7 0 0 1 1 (AAct.enter Tryd.f7.ntmps [.int .i64 n0, .int .i64 n1], M00)).bind fun s => toF Tryd.prog Ex 9000 Tryd.f7 1 2 1 4 (s.1.put (some 13) (.int .i64 44), s.2)).bind fun s => restF Tryd.prog Ex 9000 Tryd.f7 1 5 (s.1.put (some 16) (.int .i64 y), s.2)) = true := by
    intro y hy
    rcases (show y = 0 ∨ y = 1 ∨ y = 2 ∨ y = 3 ∨ y = 4 ∨ y = 5 ∨ y = 6 ∨ y = 7 by omega) with rfl | rfl | rfl | rfl | rfl | rfl | rfl | rfl
    · exact f_44_0 n0 n1
    · exact f_44_1 n0 n1
    · exact f_44_2 n0 n1
    · exact f_44_3 n0 n1
    · exact f_44_4 n0 n1
    · exact f_44_5 n0 n1
    · exact f_44_6 n0 n1
    · exact f_44_7 n0 n1
  have h3 := all y hy
  rw [h1, Option.bind_some, h2, Option.bind_some] at h3
  exact h3
theorem e_52 (n0 n1 : Int) : ((toF Tryd.prog Ex 9000 Tryd.f7 0 0 1 1 (AAct.enter Tryd.f7.ntmps [.int .i64 n0, .int .i64 n1], M00)).bind fun s => toF Tryd.prog Ex 9000 Tryd.f7 1 2 1 4 (s.1.put (some 13) (.int .i64 52), s.2)).map (fun s => s.1.eval (.tmp 15)) = some (.int .i64 (Go.Ab.bits n1 255)) := by kernel_rfl
theorem f_52_0 (n0 n1 : Int) : okB (((toF Tryd.prog Ex 9000 Tryd.f7 0 0 1 1 (AAct.enter Tryd.f7.ntmps [.int .i64 n0, .int .i64 n1], M00)).bind fun s => toF Tryd.prog Ex 9000 Tryd.f7 1 2 1 4 (s.1.put (some 13) (.int .i64 52), s.2)).bind fun s => restF Tryd.prog Ex 9000 Tryd.f7 1 5 (s.1.put (some 16) (.int .i64 0), s.2)) = true := by kernel_rfl
theorem f_52_1 (n0 n1 : Int) : okB (((toF Tryd.prog Ex 9000 Tryd.f7 0 0 1 1 (AAct.enter Tryd.f7.ntmps [.int .i64 n0, .int .i64 n1], M00)).bind fun s => toF Tryd.prog Ex 9000 Tryd.f7 1 2 1 4 (s.1.put (some 13) (.int .i64 52), s.2)).bind fun s => restF Tryd.prog Ex 9000 Tryd.f7 1 5 (s.1.put (some 16) (.int .i64 1), s.2)) = true := by kernel_rfl
theorem f_52_2 (n0 n1 : Int) : okB (((toF Tryd.prog Ex 9000 Tryd.f7 0 0 1 1 (AAct.enter Tryd.f7.ntmps [.int .i64 n0, .int .i64 n1], M00)).bind fun s => toF Tryd.prog Ex 9000 Tryd.f7 1 2 1 4 (s.1.put (some 13) (.int .i64 52), s.2)).bind fun s => restF Tryd.prog Ex 9000 Tryd.f7 1 5 (s.1.put (some 16) (.int .i64 2), s.2)) = true := by kernel_rfl
theorem f_52_3 (n0 n1 : Int) : okB (((toF Tryd.prog Ex 9000 Tryd.f7 0 0 1 1 (AAct.enter Tryd.f7.ntmps [.int .i64 n0, .int .i64 n1], M00)).bind fun s => toF Tryd.prog Ex 9000 Tryd.f7 1 2 1 4 (s.1.put (some 13) (.int .i64 52), s.2)).bind fun s => restF Tryd.prog Ex 9000 Tryd.f7 1 5 (s.1.put (some 16) (.int .i64 3), s.2)) = true := by kernel_rfl
theorem f_52_4 (n0 n1 : Int) : okB (((toF Tryd.prog Ex 9000 Tryd.f7 0 0 1 1 (AAct.enter Tryd.f7.ntmps [.int .i64 n0, .int .i64 n1], M00)).bind fun s => toF Tryd.prog Ex 9000 Tryd.f7 1 2 1 4 (s.1.put (some 13) (.int .i64 52), s.2)).bind fun s => restF Tryd.prog Ex 9000 Tryd.f7 1 5 (s.1.put (some 16) (.int .i64 4), s.2)) = true := by kernel_rfl
theorem f_52_5 (n0 n1 : Int) : okB (((toF Tryd.prog Ex 9000 Tryd.f7 0 0 1 1 (AAct.enter Tryd.f7.ntmps [.int .i64 n0, .int .i64 n1], M00)).bind fun s => toF Tryd.prog Ex 9000 Tryd.f7 1 2 1 4 (s.1.put (some 13) (.int .i64 52), s.2)).bind fun s => restF Tryd.prog Ex 9000 Tryd.f7 1 5 (s.1.put (some 16) (.int .i64 5), s.2)) = true := by kernel_rfl
theorem f_52_6 (n0 n1 : Int) : okB (((toF Tryd.prog Ex 9000 Tryd.f7 0 0 1 1 (AAct.enter Tryd.f7.ntmps [.int .i64 n0, .int .i64 n1], M00)).bind fun s => toF Tryd.prog Ex 9000 Tryd.f7 1 2 1 4 (s.1.put (some 13) (.int .i64 52), s.2)).bind fun s => restF Tryd.prog Ex 9000 Tryd.f7 1 5 (s.1.put (some 16) (.int .i64 6), s.2)) = true := by kernel_rfl
theorem f_52_7 (n0 n1 : Int) : okB (((toF Tryd.prog Ex 9000 Tryd.f7 0 0 1 1 (AAct.enter Tryd.f7.ntmps [.int .i64 n0, .int .i64 n1], M00)).bind fun s => toF Tryd.prog Ex 9000 Tryd.f7 1 2 1 4 (s.1.put (some 13) (.int .i64 52), s.2)).bind fun s => restF Tryd.prog Ex 9000 Tryd.f7 1 5 (s.1.put (some 16) (.int .i64 7), s.2)) = true := by kernel_rfl
theorem g_52 (n0 n1 : Int) (s1 : AAct × Store) (h1 : toF Tryd.prog Ex 9000 Tryd.f7 0 0 1 1 (AAct.enter Tryd.f7.ntmps [.int .i64 n0, .int .i64 n1], M00) = some s1) : okB (restF Tryd.prog Ex 9000 Tryd.f7 1 2 (s1.1.put (some 13) (.int .i64 52), s1.2)) = true := by
  have h := e_52 n0 n1
  rw [h1, Option.bind_some] at h
  obtain ⟨s2, h2, x2⟩ := Option.map_eq_some_iff.1 h
  rw [rest_rem (m := 8) (d := 16) (x := .tmp 15) (by decide) (by kernel_rfl) (by decide) h2 x2]
  obtain ⟨y, hy, vy⟩ := bits_rem n1 255 8 (by decide) (by decide)
  rw [vy]
  have all : ∀ y : Nat, y < 8 → okB (((toF Tryd.prog Ex 9000 Tryd.f7 0 0 1 1 (AAct.enter Tryd.f7.ntmps [.int .i64 n0, .int .i64 n1], M00)).bind fun s => toF Tryd.prog Ex 9000 Tryd.f7 1 2 1 4 (s.1.put (some 13) (.int .i64 52), s.2)).bind fun s => restF Tryd.prog Ex 9000 Tryd.f7 1 5 (s.1.put (some 16) (.int .i64 y), s.2)) = true := by
    intro y hy
    rcases (show y = 0 ∨ y = 1 ∨ y = 2 ∨ y = 3 ∨ y = 4 ∨ y = 5 ∨ y = 6 ∨ y = 7 by omega) with rfl | rfl | rfl | rfl | rfl | rfl | rfl | rfl
    · exact f_52_0 n0 n1
    · exact f_52_1 n0 n1
    · exact f_52_2 n0 n1
    · exact f_52_3 n0 n1
    · exact f_52_4 n0 n1
    · exact f_52_5 n0 n1
    · exact f_52_6 n0 n1
    · exact f_52_7 n0 n1
  have h3 := all y hy
  rw [h1, Option.bind_some, h2, Option.bind_some] at h3
  exact h3
theorem e_60 (n0 n1 : Int) : ((toF Tryd.prog Ex 9000 Tryd.f7 0 0 1 1 (AAct.enter Tryd.f7.ntmps [.int .i64 n0, .int .i64 n1], M00)).bind fun s => toF Tryd.prog Ex 9000 Tryd.f7 1 2 1 4 (s.1.put (some 13) (.int .i64 60), s.2)).map (fun s => s.1.eval (.tmp 15)) = some (.int .i64 (Go.Ab.bits n1 255)) := by kernel_rfl
theorem f_60_0 (n0 n1 : Int) : okB (((toF Tryd.prog Ex 9000 Tryd.f7 0 0 1 1 (AAct.enter Tryd.f7.ntmps [.int .i64 n0, .int .i64 n1], M00)).bind fun s => toF Tryd.prog Ex 9000 Tryd.f7 1 2 1 4 (s.1.put (some 13) (.int .i64 60), s.2)).bind fun s => restF Tryd.prog Ex 9000 Tryd.f7 1 5 (s.1.put (some 16) (.int .i64 0), s.2)) = true := by kernel_rfl
theorem f_60_1 (n0 n1 : Int) : okB (((toF Tryd.prog Ex 9000 Tryd.f7 0 0 1 1 (AAct.enter Tryd.f7.ntmps [.int .i64 n0, .int .i64 n1], M00)).bind fun s => toF Tryd.prog Ex 9000 Tryd.f7 1 2 1 4 (s.1.put (some 13) (.int .i64 60), s.2)).bind fun s => restF Tryd.prog Ex 9000 Tryd.f7 1 5 (s.1.put (some 16) (.int .i64 1), s.2)) = true := by kernel_rfl
theorem f_60_2 (n0 n1 : Int) : okB (((toF Tryd.prog Ex 9000 Tryd.f7 0 0 1 1 (AAct.enter Tryd.f7.ntmps [.int .i64 n0, .int .i64 n1], M00)).bind fun s => toF Tryd.prog Ex 9000 Tryd.f7 1 2 1 4 (s.1.put (some 13) (.int .i64 60), s.2)).bind fun s => restF Tryd.prog Ex 9000 Tryd.f7 1 5 (s.1.put (some 16) (.int .i64 2), s.2)) = true := by kernel_rfl
theorem f_60_3 (n0 n1 : Int) : okB (((toF Tryd.prog Ex 9000 Tryd.f7 0 0 1 1 (AAct.enter Tryd.f7.ntmps [.int .i64 n0, .int .i64 n1], M00)).bind fun s => toF Tryd.prog Ex 9000 Tryd.f7 1 2 1 4 (s.1.put (some 13) (.int .i64 60), s.2)).bind fun s => restF Tryd.prog Ex 9000 Tryd.f7 1 5 (s.1.put (some 16) (.int .i64 3), s.2)) = true := by kernel_rfl
theorem f_60_4 (n0 n1 : Int) : okB (((toF Tryd.prog Ex 9000 Tryd.f7 0 0 1 1 (AAct.enter Tryd.f7.ntmps [.int .i64 n0, .int .i64 n1], M00)).bind fun s => toF Tryd.prog Ex 9000 Tryd.f7 1 2 1 4 (s.1.put (some 13) (.int .i64 60), s.2)).bind fun s => restF Tryd.prog Ex 9000 Tryd.f7 1 5 (s.1.put (some 16) (.int .i64 4), s.2)) = true := by kernel_rfl
theorem f_60_5 (n0 n1 : Int) : okB (((toF Tryd.prog Ex 9000 Tryd.f7 0 0 1 1 (AAct.enter Tryd.f7.ntmps [.int .i64 n0, .int .i64 n1], M00)).bind fun s => toF Tryd.prog Ex 9000 Tryd.f7 1 2 1 4 (s.1.put (some 13) (.int .i64 60), s.2)).bind fun s => restF Tryd.prog Ex 9000 Tryd.f7 1 5 (s.1.put (some 16) (.int .i64 5), s.2)) = true := by kernel_rfl
theorem f_60_6 (n0 n1 : Int) : okB (((toF Tryd.prog Ex 9000 Tryd.f7 0 0 1 1 (AAct.enter Tryd.f7.ntmps [.int .i64 n0, .int .i64 n1], M00)).bind fun s => toF Tryd.prog Ex 9000 Tryd.f7 1 2 1 4 (s.1.put (some 13) (.int .i64 60), s.2)).bind fun s => restF Tryd.prog Ex 9000 Tryd.f7 1 5 (s.1.put (some 16) (.int .i64 6), s.2)) = true := by kernel_rfl
theorem f_60_7 (n0 n1 : Int) : okB (((toF Tryd.prog Ex 9000 Tryd.f7 0 0 1 1 (AAct.enter Tryd.f7.ntmps [.int .i64 n0, .int .i64 n1], M00)).bind fun s => toF Tryd.prog Ex 9000 Tryd.f7 1 2 1 4 (s.1.put (some 13) (.int .i64 60), s.2)).bind fun s => restF Tryd.prog Ex 9000 Tryd.f7 1 5 (s.1.put (some 16) (.int .i64 7), s.2)) = true := by kernel_rfl
theorem g_60 (n0 n1 : Int) (s1 : AAct × Store) (h1 : toF Tryd.prog Ex 9000 Tryd.f7 0 0 1 1 (AAct.enter Tryd.f7.ntmps [.int .i64 n0, .int .i64 n1], M00) = some s1) : okB (restF Tryd.prog Ex 9000 Tryd.f7 1 2 (s1.1.put (some 13) (.int .i64 60), s1.2)) = true := by
  have h := e_60 n0 n1
  rw [h1, Option.bind_some] at h
  obtain ⟨s2, h2, x2⟩ := Option.map_eq_some_iff.1 h
  rw [rest_rem (m := 8) (d := 16) (x := .tmp 15) (by decide) (by kernel_rfl) (by decide) h2 x2]
  obtain ⟨y, hy, vy⟩ := bits_rem n1 255 8 (by decide) (by decide)
  rw [vy]
  have all : ∀ y : Nat, y < 8 → okB (((toF Tryd.prog Ex 9000 Tryd.f7 0 0 1 1 (AAct.enter Tryd.f7.ntmps [.int .i64 n0, .int .i64 n1], M00)).bind fun s => toF Tryd.prog Ex 9000 Tryd.f7 1 2 1 4 (s.1.put (some 13) (.int .i64 60), s.2)).bind fun s => restF Tryd.prog Ex 9000 Tryd.f7 1 5 (s.1.put (some 16) (.int .i64 y), s.2)) = true := by
    intro y hy
    rcases (show y = 0 ∨ y = 1 ∨ y = 2 ∨ y = 3 ∨ y = 4 ∨ y = 5 ∨ y = 6 ∨ y = 7 by omega) with rfl | rfl | rfl | rfl | rfl | rfl | rfl | rfl
    · exact f_60_0 n0 n1
    · exact f_60_1 n0 n1
    · exact f_60_2 n0 n1
    · exact f_60_3 n0 n1
    · exact f_60_4 n0 n1
    · exact f_60_5 n0 n1
    · exact f_60_6 n0 n1
    · exact f_60_7 n0 n1
  have h3 := all y hy
  rw [h1, Option.bind_some, h2, Option.bind_some] at h3
  exact h3
end actsGrow
end Go.G
