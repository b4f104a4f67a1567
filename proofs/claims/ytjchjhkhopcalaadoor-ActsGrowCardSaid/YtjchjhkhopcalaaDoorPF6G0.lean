/- ActsGrow: its runs, part 0. -/
import Derived.Test.YtjchjhkhopcalaaDoorPAW
import Derived.Test.YtjchjhkhopcalaaDoorPAbFin
namespace Go.G
open Go.Ab Go.Proofs Go.RowKit
set_option linter.unusedVariables false
set_option maxRecDepth 100000
namespace actsGrow
theorem e_0 (n0 n1 : Int) : ((toF Tryd.prog Ex 9000 Tryd.f7 0 0 1 1 (AAct.enter Tryd.f7.ntmps [.int .i64 n0, .int .i64 n1], M00)).bind fun s => toF Tryd.prog Ex 9000 Tryd.f7 1 2 1 4 (s.1.put (some 13) (.int .i64 0), s.2)).map (fun s => s.1.eval (.tmp 15)) = some (.int .i64 (Go.Ab.bits n1 255)) := by kernel_rfl
theorem f_0_0 (n0 n1 : Int) : okB (((toF Tryd.prog Ex 9000 Tryd.f7 0 0 1 1 (AAct.enter Tryd.f7.ntmps [.int .i64 n0, .int .i64 n1], M00)).bind fun s => toF Tryd.prog Ex 9000 Tryd.f7 1 2 1 4 (s.1.put (some 13) (.int .i64 0), s.2)).bind fun s => restF Tryd.prog Ex 9000 Tryd.f7 1 5 (s.1.put (some 16) (.int .i64 0), s.2)) = true := by kernel_rfl
theorem f_0_1 (n0 n1 : Int) : okB (((toF Tryd.prog Ex 9000 Tryd.f7 0 0 1 1 (AAct.enter Tryd.f7.ntmps [.int .i64 n0, .int .i64 n1], M00)).bind fun s => toF Tryd.prog Ex 9000 Tryd.f7 1 2 1 4 (s.1.put (some 13) (.int .i64 0), s.2)).bind fun s => restF Tryd.prog Ex 9000 Tryd.f7 1 5 (s.1.put (some 16) (.int .i64 1), s.2)) = true := by kernel_rfl
theorem f_0_2 (n0 n1 : Int) : okB (((toF Tryd.prog Ex 9000 Tryd.f7 0 0 1 1 (AAct.enter Tryd.f7.ntmps [.int .i64 n0, .int .i64 n1], M00)).bind fun s => toF Tryd.prog Ex 9000 Tryd.f7 1 2 1 4 (s.1.put (some 13) (.int .i64 0), s.2)).bind fun s => restF Tryd.prog Ex 9000 Tryd.f7 1 5 (s.1.put (some 16) (.int .i64 2), s.2)) = true := by kernel_rfl
theorem f_0_3 (n0 n1 : Int) : okB (((toF Tryd.prog Ex 9000 Tryd.f7 0 0 1 1 (AAct.enter Tryd.f7.ntmps [.int .i64 n0, .int .i64 n1], M00)).bind fun s => toF Tryd.prog Ex 9000 Tryd.f7 1 2 1 4 (s.1.put (some 13) (.int .i64 0), s.2)).bind fun s => restF Tryd.prog Ex 9000 Tryd.f7 1 5 (s.1.put (some 16) (.int .i64 3), s.2)) = true := by kernel_rfl
theorem f_0_4 (n0 n1 : Int) : okB (((toF Tryd.prog Ex 9000 Tryd.f7 0 0 1 1 (AAct.enter Tryd.f7.ntmps [.int .i64 n0, .int .i64 n1], M00)).bind fun s => toF Tryd.prog Ex 9000 Tryd.f7 1 2 1 4 (s.1.put (some 13) (.int .i64 0), s.2)).bind fun s => restF Tryd.prog Ex 9000 Tryd.f7 1 5 (s.1.put (some 16) (.int .i64 4), s.2)) = true := by kernel_rfl
theorem f_0_5 (n0 n1 : Int) : okB (((toF Tryd.prog Ex 9000 Tryd.f7 0 0 1 1 (AAct.enter Tryd.f7.ntmps [.int .i64 n0, .int .i64 n1], M00)).bind fun s => toF Tryd.prog Ex 9000 Tryd.f7 1 2 1 4 (s.1.put (some 13) (.int .i64 0), s.2)).bind fun s => restF Tryd.prog Ex 9000 Tryd.f7 1 5 (s.1.put (some 16) (.int .i64 5), s.2)) = true := by kernel_rfl
theorem f_0_6 (n0 n1 : Int) : okB (((toF Tryd.prog Ex 9000 Tryd.f7 0 0 1 1 (AAct.enter Tryd.f7.ntmps [.int .i64 n0, .int .i64 n1], M00)).bind fun s => toF Tryd.prog Ex 9000 Tryd.f7 1 2 1 4 (s.1.put (some 13) (.int .i64 0), s.2)).bind fun s => restF Tryd.prog Ex 9000 Tryd.f7 1 5 (s.1.put (some 16) (.int .i64 6), s.2)) = true := by kernel_rfl
theorem f_0_7 (n0 n1 : Int) : okB (((toF Tryd.prog Ex 9000 Tryd.f7 0 0 1 1 (AAct.enter Tryd.f7.ntmps [.int .i64 n0, .int .i64 n1], M00)).bind fun s => toF Tryd.prog Ex 9000 Tryd.f7 1 2 1 4 (s.1.put (some 13) (.int .i64 0), s.2)).bind fun s => restF Tryd.prog Ex 9000 Tryd.f7 1 5 (s.1.put (some 16) (.int .i64 7), s.2)) = true := by kernel_rfl
theorem g_0 (n0 n1 : Int) (s1 : AAct × Store) (h1 : toF Tryd.prog Ex 9000 Tryd.f7 0 0 1 1 (AAct.enter Tryd.f7.ntmps [.int .i64 n0, .int .i64 n1], M00) = some s1) : okB (restF Tryd.prog Ex 9000 Tryd.f7 1 2 (s1.1.put (some 13) (.int .i64 0), s1.2)) = true := by
  have h := e_0 n0 n1
  rw [h1, Option.bind_some] at h
  obtain ⟨s2, h2, x2⟩ := Option.map_eq_some_iff.1 h
  rw [rest_rem (m := 8) (d := 16) (x := .tmp 15) (by decide) (by kernel_rfl) (by decide) h2 x2]
  obtain ⟨y, hy, vy⟩ := bits_rem n1 255 8 (by decide) (by decide)
  rw [vy]
  have all : ∀ y : Nat, y < 8 → okB (((toF Tryd.prog Ex 9000 Tryd.f7 0 0 1 1 (AAct.enter Tryd.f7.ntmps [.int .i64 n0, .int .i64 n1], M00)).bind fun s => toF Tryd.prog Ex 9000 Tryd.f7 1 2 1 4 (s.1.put (some 13) (.int .i64 0), s.2)).bind fun s => restF Tryd.prog Ex 9000 Tryd.f7 1 5 (s.1.put (some 16) (.int .i64 y), s.2)) = true := by
    intro y hy
    rcases (show y = 0 ∨ y = 1 ∨ y = 2 ∨ y = 3 ∨ y = 4 ∨ y = 5 ∨ y = 6 ∨ y = 7 by omega) with rfl | rfl | rfl | rfl | rfl | rfl | rfl | rfl
    · exact f_0_0 n0 n1
    · exact f_0_1 n0 n1
    · exact f_0_2 n0 n1
    · exact f_0_3 n0 n1
    · exact f_0_4 n0 n1
    · exact f_0_5 n0 n1
    · exact f_0_6 n0 n1
    · exact f_0_7 n0 n1
  have h3 := all y hy
  rw [h1, Option.bind_some, h2, Option.bind_some] at h3
  exact h3
theorem e_8 (n0 n1 : Int) : ((toF Tryd.prog Ex 9000 Tryd.f7 0 0 1 1 (AAct.enter Tryd.f7.ntmps [.int .i64 n0, .int .i64 n1], M00)).bind fun s => toF Tryd.prog Ex 9000 Tryd.f7 1 2 1 4 (s.1.put (some 13) (.int .i64 8), s.2)).map (fun s => s.1.eval (.tmp 15)) = some (.int .i64 (Go.Ab.bits n1 255)) := by kernel_rfl
theorem f_8_0 (n0 n1 : Int) : okB (((toF Tryd.prog Ex 9000 Tryd.f7 0 0 1 1 (AAct.enter Tryd.f7.ntmps [.int .i64 n0, .int .i64 n1], M00)).bind fun s => toF Tryd.prog Ex 9000 Tryd.f7 1 2 1 4 (s.1.put (some 13) (.int .i64 8), s.2)).bind fun s => restF Tryd.prog Ex 9000 Tryd.f7 1 5 (s.1.put (some 16) (.int .i64 0), s.2)) = true := by kernel_rfl
theorem f_8_1 (n0 n1 : Int) : okB (((toF Tryd.prog Ex 9000 Tryd.f7 0 0 1 1 (AAct.enter Tryd.f7.ntmps [.int .i64 n0, .int .i64 n1], M00)).bind fun s => toF Tryd.prog Ex 9000 Tryd.f7 1 2 1 4 (s.1.put (some 13) (.int .i64 8), s.2)).bind fun s => restF Tryd.prog Ex 9000 Tryd.f7 1 5 (s.1.put (some 16) (.int .i64 1), s.2)) = true := by kernel_rfl
theorem f_8_2 (n0 n1 : Int) : okB (((toF Tryd.prog Ex 9000 Tryd.f7 0 0 1 1 (AAct.enter Tryd.f7.ntmps [.int .i64 n0, .int .i64 n1], M00)).bind fun s => toF Tryd.prog Ex 9000 Tryd.f7 1 2 1 4 (s.1.put (some 13) (.int .i64 8), s.2)).bind fun s => restF Tryd.prog Ex 9000 Tryd.f7 1 5 (s.1.put (some 16) (.int .i64 2), s.2)) = true := by kernel_rfl
theorem f_8_3 (n0 n1 : Int) : okB (((toF Tryd.prog Ex 9000 Tryd.f7 0 0 1 1 (AAct.enter Tryd.f7.ntmps [.int .i64 n0, .int .i64 n1], M00)).bind fun s => toF Tryd.prog Ex 9000 Tryd.f7 1 2 1 4 (s.1.put (some 13) (.int .i64 8), s.2)).bind fun s => restF Tryd.prog Ex 9000 Tryd.f7 1 5 (s.1.put (some 16) (.int .i64 3), s.2)) = true := by kernel_rfl
theorem f_8_4 (n0 n1 : Int) : okB (((toF Tryd.prog Ex 9000 Tryd.f7 0 0 1 1 (AAct.enter Tryd.f7.ntmps [.int .i64 n0, .int .i64 n1], M00)).bind fun s => toF Tryd.prog Ex 9000 Tryd.f7 1 2 1 4 (s.1.put (some 13) (.int .i64 8), s.2)).bind fun s => restF Tryd.prog Ex 9000 Tryd.f7 1 5 (s.1.put (some 16) (.int .i64 4), s.2)) = true := by kernel_rfl
theorem f_8_5 (n0 n1 : Int) : okB (((toF Tryd.prog Ex 9000 Tryd.f7 0 0 1 1 (AAct.enter Tryd.f7.ntmps [.int .i64 n0, .int .i64 n1], M00)).bind fun s => toF Tryd.prog Ex 9000 Tryd.f7 1 2 1 4 (s.1.put (some 13) (.int .i64 8), s.2)).bind fun s => restF Tryd.prog Ex 9000 Tryd.f7 1 5 (s.1.put (some 16) (.int .i64 5), s.2)) = true := by kernel_rfl
theorem f_8_6 (n0 n1 : Int) : okB (((toF Tryd.prog Ex 9000 Tryd.f7 0 0 1 1 (AAct.enter Tryd.f7.ntmps [.int .i64 n0, .int .i64 n1], M00)).bind fun s => toF Tryd.prog Ex 9000 Tryd.f7 1 2 1 4 (s.1.put (some 13) (.int .i64 8), s.2)).bind fun s => restF Tryd.prog Ex 9000 Tryd.f7 1 5 (s.1.put (some 16) (.int .i64 6), s.2)) = true := by kernel_rfl
theorem f_8_7 (n0 n1 : Int) : okB (((toF Tryd.prog Ex 9000 Tryd.f7 0 0 1 1 (AAct.enter Tryd.f7.ntmps [.int .i64 n0, .int .i64 n1], M00)).bind fun s => toF Tryd.prog Ex 9000 Tryd.f7 1 2 1 4 (s.1.put (some 13) (.int .i64 8), s.2)).bind fun s => restF Tryd.prog Ex 9000 Tryd.f7 1 5 (s.1.put (some 16) (.int .i64 7), s.2)) = true := by kernel_rfl
theorem g_8 (n0 n1 : Int) (s1 : AAct × Store) (h1 : toF Tryd.prog Ex 9000 Tryd.f7 0 0 1 1 (AAct.enter Tryd.f7.ntmps [.int .i64 n0, .int .i64 n1], M00) = some s1) : okB (restF Tryd.prog Ex 9000 Tryd.f7 1 2 (s1.1.put (some 13) (.int .i64 8), s1.2)) = true := by
  have h := e_8 n0 n1
  rw [h1, Option.bind_some] at h
  obtain ⟨s2, h2, x2⟩ := Option.map_eq_some_iff.1 h
  rw [rest_rem (m := 8) (d := 16) (x := .tmp 15) (by decide) (by kernel_rfl) (by decide) h2 x2]
  obtain ⟨y, hy, vy⟩ := bits_rem n1 255 8 (by decide) (by decide)
  rw [vy]
  have all : ∀ y : Nat, y < 8 → okB (((toF Tryd.prog Ex 9000 Tryd.f7 0 0 1 1 (AAct.enter Tryd.f7.ntmps [.int .i64 n0, .int .i64 n1], M00)).bind fun s => toF Tryd.prog Ex 9000 Tryd.f7 1 2 1 4 (s.1.put (some 13) (.int .i64 8), s.2)).bind fun s => restF Tryd.prog Ex 9000 Tryd.f7 1 5 (s.1.put (some 16) (.int .i64 y), s.2)) = true := by
    intro y hy
    rcases (show y = 0 ∨ y = 1 ∨ y = 2 ∨ y = 3 ∨ y = 4 ∨ y = 5 ∨ y = 6 ∨ y = 7 by omega) with rfl | rfl | rfl | rfl | rfl | rfl | rfl | rfl
    · exact f_8_0 n0 n1
    · exact f_8_1 n0 n1
    · exact f_8_2 n0 n1
    · exact f_8_3 n0 n1
    · exact f_8_4 n0 n1
    · exact f_8_5 n0 n1
    · exact f_8_6 n0 n1
    · exact f_8_7 n0 n1
  have h3 := all y hy
  rw [h1, Option.bind_some, h2, Option.bind_some] at h3
  exact h3
theorem e_16 (n0 n1 : Int) : ((toF Tryd.prog Ex 9000 Tryd.f7 0 0 1 1 (AAct.enter Tryd.f7.ntmps [.int .i64 n0, .int .i64 n1], M00)).bind fun s => toF Tryd.prog Ex 9000 Tryd.f7 1 2 1 4 (s.1.put (some 13) (.int .i64 16), s.2)).map (fun s => s.1.eval (.tmp 15)) = some (.int .i64 (Go.Ab.bits n1 255)) := by kernel_rfl
theorem f_16_0 (n0 n1 : Int) : okB (((toF Tryd.prog Ex 9000 Tryd.f7 0 0 1 1 (AAct.enter Tryd.f7.ntmps [.int .i64 n0, .int .i64 n1], M00)).bind fun s => toF Tryd.prog Ex 9000 Tryd.f7 1 2 1 4 (s.1.put (some 13) (.int .i64 16), s.2)).bind fun s => restF Tryd.prog Ex 9000 Tryd.f7 1 5 (s.1.put (some 16) (.int .i64 0), s.2)) = true := by kernel_rfl
theorem f_16_1 (n0 n1 : Int) : okB (((toF Tryd.prog Ex 9000 Tryd.f7 0 0 1 1 (AAct.enter Tryd.f7.ntmps [.int .i64 n0, .int .i64 n1], M00)).bind fun s => toF Tryd.prog Ex 9000 Tryd.f7 1 2 1 4 (s.1.put (some 13) (.int .i64 16), s.2)).bind fun s => restF Tryd.prog Ex 9000 Tryd.f7 1 5 (s.1.put (some 16) (.int .i64 1), s.2)) = true := by kernel_rfl
theorem f_16_2 (n0 n1 : Int) : okB (((toF Tryd.prog Ex 9000 Tryd.f7 0 0 1 1 (AAct.enter Tryd.f7.ntmps [.int .i64 n0, .int .i64 n1], M00)).bind fun s => toF Tryd.prog Ex 9000 Tryd.f7 1 2 1 4 (s.1.put (some 13) (.int .i64 16), s.2)).bind fun s => restF Tryd.prog Ex 9000 Tryd.f7 1 5 (s.1.put (some 16) (.int .i64 2), s.2)) = true := by kernel_rfl
theorem f_16_3 (n0 n1 : Int) : okB (((toF Tryd.prog Ex 9000 Tryd.f7 0 0 1 1 (AAct.enter Tryd.f7.ntmps [.int .i64 n0, .int .i64 n1], M00)).bind fun s => toF Tryd.prog Ex 9000 Tryd.f7 1 2 1 4 (s.1.put (some 13) (.int .i64 16), s.2)).bind fun s => restF Tryd.prog Ex 9000 Tryd.f7 1 5 (s.1.put (some 16) (.int .i64 3), s.2)) = true := by kernel_rfl
theorem f_16_4 (n0 n1 : Int) : okB (((toF Tryd.prog Ex 9000 Tryd.f7 0 0 1 1 (AAct.enter Tryd.f7.ntmps [.int .i64 n0, .int .i64 n1], M00)).bind fun s => toF Tryd.prog Ex 9000 Tryd.f7 1 2 1 4 (s.1.put (some 13) (.int .i64 16), s.2)).bind fun s => restF Tryd.prog Ex 9000 Tryd.f7 1 5 (s.1.put (some 16) (.int .i64 4), s.2)) = true := by kernel_rfl
theorem f_16_5 (n0 n1 : Int) : okB (((toF Tryd.prog Ex 9000 Tryd.f7 0 0 1 1 (AAct.enter Tryd.f7.ntmps [.int .i64 n0, .int .i64 n1], M00)).bind fun s => toF Tryd.prog Ex 9000 Tryd.f7 1 2 1 4 (s.1.put (some 13) (.int .i64 16), s.2)).bind fun s => restF Tryd.prog Ex 9000 Tryd.f7 1 5 (s.1.put (some 16) (.int .i64 5), s.2)) = true := by kernel_rfl
theorem f_16_6 (n0 n1 : Int) : okB (((toF Tryd.prog Ex 9000 Tryd.f7 0 0 1 1 (AAct.enter Tryd.f7.ntmps [.int .i64 n0, .int .i64 n1], M00)).bind fun s => toF Tryd.prog Ex 9000 Tryd.f7 1 2 1 4 (s.1.put (some 13) (.int .i64 16), s.2)).bind fun s => restF Tryd.prog Ex 9000 Tryd.f7 1 5 (s.1.put (some 16) (.int .i64 6), s.2)) = true := by kernel_rfl
theorem f_16_7 (n0 n1 : Int) : okB (((toF Tryd.prog Ex 9000 Tryd.f7 0 0 1 1 (AAct.enter Tryd.f7.ntmps [.int .i64 n0, .int .i64 n1], M00)).bind fun s => toF Tryd.prog Ex 9000 Tryd.f7 1 2 1 4 (s.1.put (some 13) (.int .i64 16), s.2)).bind fun s => restF Tryd.prog Ex 9000 Tryd.f7 1 5 (s.1.put (some 16) (.int .i64 7), s.2)) = true := by kernel_rfl
theorem g_16 (n0 n1 : Int) (s1 : AAct × Store) (h1 : toF Tryd.prog Ex 9000 Tryd.f7 0 0 1 1 (AAct.enter Tryd.f7.ntmps [.int .i64 n0, .int .i64 n1], M00) = some s1) : okB (restF Tryd.prog Ex 9000 Tryd.f7 1 2 (s1.1.put (some 13) (.int .i64 16), s1.2)) = true := by
  have h := e_16 n0 n1
  rw [h1, Option.bind_some] at h
  obtain ⟨s2, h2, x2⟩ := Option.map_eq_some_iff.1 h
  rw [rest_rem (m := 8) (d := 16) (x := .tmp 15) (by decide) (by kernel_rfl) (by decide) h2 x2]
  obtain ⟨y, hy, vy⟩ := bits_rem n1 255 8 (by decide) (by decide)
  rw [vy]
  have all : ∀ y : Nat, y < 8 → okB (((toF Tryd.prog Ex 9000 Tryd.f7 0 0 1 1 (AAct.enter Tryd.f7.ntmps [.int .i64 n0, .int .i64 n1], M00)).bind fun s => toF Tryd.prog Ex 9000 Tryd.f7 1 2 1 4 (s.1.put (some 13) (.int .i64 16), s.2)).bind fun s => restF Tryd.prog Ex 9000 Tryd.f7 1 5 (s.1.put (some 16) (.int .i64 y), s.2)) = true := by
    intro y hy
    rcases (show y = 0 ∨ y = 1 ∨ y = 2 ∨ y = 3 ∨ y = 4 ∨ y = 5 ∨ y = 6 ∨ y = 7 by omega) with rfl | rfl | rfl | rfl | rfl | rfl | rfl | rfl
    · exact f_16_0 n0 n1
    · exact f_16_1 n0 n1
    · exact f_16_2 n0 n1
    · exact f_16_3 n0 n1
    · exact f_16_4 n0 n1
    · exact f_16_5 n0 n1
    · exact f_16_6 n0 n1
    · exact f_16_7 n0 n1
  have h3 := all y hy
  rw [h1, Option.bind_some, h2, Option.bind_some] at h3
  exact h3
theorem e_24 (n0 n1 : Int) : ((toF Tryd.prog Ex 9000 Tryd.f7 0 0 1 1 (AAct.enter Tryd.f7.ntmps [.int .i64 n0, .int .i64 n1], M00)).bind fun s => toF Tryd.prog Ex 9000 Tryd.f7 1 2 1 4 (s.1.put (some 13) (.int .i64 24), s.2)).map (fun s => s.1.eval (.tmp 15)) = some (.int .i64 (Go.Ab.bits n1 255)) := by kernel_rfl
theorem f_24_0 (n0 n1 : Int) : okB (((toF Tryd.prog Ex 9000 Tryd.f7 0 0 1 1 (AAct.enter Tryd.f7.ntmps [.int .i64 n0, .int .i64 n1], M00)).bind fun s => toF Tryd.prog Ex 9000 Tryd.f7 1 2 1 4 (s.1.put (some 13) (.int .i64 24), s.2)).bind fun s => restF Tryd.prog Ex 9000 Tryd.f7 1 5 (s.1.put (some 16) (.int .i64 0), s.2)) = true := by kernel_rfl
theorem f_24_1 (n0 n1 : Int) : okB (((toF Tryd.prog Ex 9000 Tryd.f7 0 0 1 1 (AAct.enter Tryd.f7.ntmps [.int .i64 n0, .int .i64 n1], M00)).bind fun s => toF Tryd.prog Ex 9000 Tryd.f7 1 2 1 4 (s.1.put (some 13) (.int .i64 24), s.2)).bind fun s => restF Tryd.prog Ex 9000 Tryd.f7 1 5 (s.1.put (some 16) (.int .i64 1), s.2)) = true := by kernel_rfl
theorem f_24_2 (n0 n1 : Int) : okB (((toF Tryd.prog Ex 9000 Tryd.f7 0 0 1 1 (AAct.enter Tryd.f7.ntmps [.int .i64 n0, .int .i64 n1], M00)).bind fun s => toF Tryd.prog Ex 9000 Tryd.f7 1 2 1 4 (s.1.put (some 13) (.int .i64 24), s.2)).bind fun s => restF Tryd.prog Ex 9000 Tryd.f7 1 5 (s.1.put (some 16) (.int .i64 2), s.2)) = true := by kernel_rfl
theorem f_24_3 (n0 n1 : Int) : okB (((toF Tryd.prog Ex 9000 Tryd.f7 0 0 1 1 (AAct.enter Tryd.f7.ntmps [.int .i64 n0, .int .i64 n1], M00)).bind fun s => toF Tryd.prog Ex 9000 Tryd.f7 1 2 1 4 (s.1.put (some 13) (.int .i64 24), s.2)).bind fun s => restF Tryd.prog Ex 9000 Tryd.f7 1 5 (s.1.put (some 16) (.int .i64 3), s.2)) = true := by kernel_rfl
theorem f_24_4 (n0 n1 : Int) : okB (((toF Tryd.prog Ex 9000 Tryd.f7 0 0 1 1 (AAct.enter Tryd.f7.ntmps [.int .i64 n0, .int .i64 n1], M00)).bind fun s => toF Tryd.prog Ex 9000 Tryd.f7 1 2 1 4 (s.1.put (some 13) (.int .i64 24), s.2)).bind fun s => restF Tryd.prog Ex 9000 Tryd.f7 1 5 (s.1.put (some 16) (.int .i64 4), s.2)) = true := by kernel_rfl
theorem f_24_5 (n0 n1 : Int) : okB (((toF Tryd.prog Ex 9000 Tryd.f7 0 0 1 1 (AAct.enter Tryd.f7.ntmps [.int .i64 n0, .int .i64 n1], M00)).bind fun s => toF Tryd.prog Ex 9000 Tryd.f7 1 2 1 4 (s.1.put (some 13) (.int .i64 24), s.2)).bind fun s => restF Tryd.prog Ex 9000 Tryd.f7 1 5 (s.1.put (some 16) (.int .i64 5), s.2)) = true := by kernel_rfl
theorem f_24_6 (n0 n1 : Int) : okB (((toF Tryd.prog Ex 9000 Tryd.f7 0 0 1 1 (AAct.enter Tryd.f7.ntmps [.int .i64 n0, .int .i64 n1], M00)).bind fun s => toF Tryd.prog Ex 9000 Tryd.f7 1 2 1 4 (s.1.put (some 13) (.int .i64 24), s.2)).bind fun s => restF Tryd.prog Ex 9000 Tryd.f7 1 5 (s.1.put (some 16) (.int .i64 6), s.2)) = true := by kernel_rfl
theorem f_24_7 (n0 n1 : Int) : okB (((toF Tryd.prog Ex 9000 Tryd.f7 0 0 1 1 (AAct.enter Tryd.f7.ntmps [.int .i64 n0, .int .i64 n1], M00)).bind fun s => toF Tryd.prog Ex 9000 Tryd.f7 1 2 1 4 (s.1.put (some 13) (.int .i64 24), s.2)).bind fun s => restF Tryd.prog Ex 9000 Tryd.f7 1 5 (s.1.put (some 16) (.int .i64 7), s.2)) = true := by kernel_rfl
theorem g_24 (n0 n1 : Int) (s1 : AAct × Store) (h1 : toF Tryd.prog Ex 9000 Tryd.f7 0 0 1 1 (AAct.enter Tryd.f7.ntmps [.int .i64 n0, .int .i64 n1], M00) = some s1) : okB (restF Tryd.prog Ex 9000 Tryd.f7 1 2 (s1.1.put (some 13) (.int .i64 24), s1.2)) = true := by
  have h := e_24 n0 n1
  rw [h1, Option.bind_some] at h
  obtain ⟨s2, h2, x2⟩ := Option.map_eq_some_iff.1 h
  rw [rest_rem (m := 8) (d := 16) (x := .tmp 15) (by decide) (by kernel_rfl) (by decide) h2 x2]
  obtain ⟨y, hy, vy⟩ := bits_rem n1 255 8 (by decide) (by decide)
  rw [vy]
  have all : ∀ y : Nat, y < 8 → okB (((toF Tryd.prog Ex 9000 Tryd.f7 0 0 1 1 (AAct.enter Tryd.f7.ntmps [.int .i64 n0, .int .i64 n1], M00)).bind fun s => toF Tryd.prog Ex 9000 Tryd.f7 1 2 1 4 (s.1.put (some 13) (.int .i64 24), s.2)).bind fun s => restF Tryd.prog Ex 9000 Tryd.f7 1 5 (s.1.put (some 16) (.int .i64 y), s.2)) = true := by
    intro y hy
    rcases (show y = 0 ∨ y = 1 ∨ y = 2 ∨ y = 3 ∨ y = 4 ∨ y = 5 ∨ y = 6 ∨ y = 7 by omega) with rfl | rfl | rfl | rfl | rfl | rfl | rfl | rfl
    · exact f_24_0 n0 n1
    · exact f_24_1 n0 n1
    · exact f_24_2 n0 n1
    · exact f_24_3 n0 n1
    · exact f_24_4 n0 n1
    · exact f_24_5 n0 n1
    · exact f_24_6 n0 n1
    · exact f_24_7 n0 n1
  have h3 := all y hy
  rw [h1, Option.bind_some, h2, Option.bind_some] at h3
  exact h3
theorem e_32 (n0 n1 : Int) : ((toF Tryd.prog Ex 9000 Tryd.f7 0 0 1 1 (AAct.enter Tryd.f7.ntmps [.int .i64 n0, .int .i64 n1], M00)).bind fun s => toF Tryd.prog Ex 9000 Tryd.f7 1 2 1 4 (s.1.put (some 13) (.int .i64 32), s.2)).map (fun s => s.1.eval (.tmp 15)) = some (.int .i64 (Go.Ab.bits n1 255)) := by kernel_rfl
theorem f_32_0 (n0 n1 : Int) : okB (((toF Tryd.prog Ex 9000 Tryd.f7 0 0 1 1 (AAct.enter Tryd.f7.ntmps [.int .i64 n0, .int .i64 n1], M00)).bind fun s => toF Tryd.prog Ex 9000 Tryd.f7 1 2 1 4 (s.1.put (some 13) (.int .i64 32), s.2)).bind fun s => restF Tryd.prog Ex 9000 Tryd.f7 1 5 (s.1.put (some 16) (.int .i64 0), s.2)) = true := by kernel_rfl
theorem f_32_1 (n0 n1 : Int) : okB (((toF Tryd.prog Ex 9000 Tryd.f7 0 0 1 1 (AAct.enter Tryd.f7.ntmps [.int .i64 n0, .int .i64 n1], M00)).bind fun s => toF Tryd.prog Ex 9000 Tryd.f7 1 2 1 4 (s.1.put (some 13) (.int .i64 32), s.2)).bind fun s => restF Tryd.prog Ex 9000 Tryd.f7 1 5 (s.1.put (some 16) (.int .i64 1), s.2)) = true := by kernel_rfl
theorem f_32_2 (n0 n1 : Int) : okB (((toF Tryd.prog Ex 9000 Tryd.f7 0 0 1 1 (AAct.enter Tryd.f7.ntmps [.int .i64 n0, .int .i64 n1], M00)).bind fun s => toF Tryd.prog Ex 9000 Tryd.f7 1 2 1 4 (s.1.put (some 13) (.int .i64 32), s.2)).bind fun s => restF Tryd.prog Ex 9000 Tryd.f7 1 5 (s.1.put (some 16) (.int .i64 2), s.2)) = true := by kernel_rfl
theorem f_32_3 (n0 n1 : Int) : okB (((toF Tryd.prog Ex 9000 Tryd.f7 0 0 1 1 (AAct.enter Tryd.f7.ntmps [.int .i64 n0, .int .i64 n1], M00)).bind fun s => toF Tryd.prog Ex 9000 Tryd.f7 1 2 1 4 (s.1.put (some 13) (.int .i64 32), s.2)).bind fun s => restF Tryd.prog Ex 9000 Tryd.f7 1 5 (s.1.put (some 16) (.int .i64 3), s.2)) = true := by kernel_rfl
theorem f_32_4 (n0 n1 : Int) : okB (((toF Tryd.prog Ex 9000 Tryd.f7 0 0 1 1 (AAct.enter Tryd.f7.ntmps [.int .i64 n0, .int .i64 n1], M00)).bind fun s => toF Tryd.prog Ex 9000 Tryd.f7 1 2 1 4 (s.1.put (some 13) (.int .i64 32), s.2)).bind fun s => restF Tryd.prog Ex 9000 Tryd.f7 1 5 (s.1.put (some 16) (.int .i64 4), s.2)) = true := by kernel_rfl
theorem f_32_5 (n0 n1 : Int) : okB (((toF Tryd.prog Ex 9000 Tryd.f7 0 0 1 1 (AAct.enter Tryd.f7.ntmps [.int .i64 n0, .int .i64 n1], M00)).bind fun s => toF Tryd.prog Ex 9000 Tryd.f7 1 2 1 4 (s.1.put (some 13) (.int .i64 32), s.2)).bind fun s => restF Tryd.prog Ex 9000 Tryd.f7 1 5 (s.1.put (some 16) (.int .i64 5), s.2)) = true := by kernel_rfl
theorem f_32_6 (n0 n1 : Int) : okB (((toF Tryd.prog Ex 9000 Tryd.f7 0 0 1 1 (AAct.enter Tryd.f7.ntmps [.int .i64 n0, .int .i64 n1], M00)).bind fun s => toF Tryd.prog Ex 9000 Tryd.f7 1 2 1 4 (s.1.put (some 13) (.int .i64 32), s.2)).bind fun s => restF Tryd.prog Ex 9000 Tryd.f7 1 5 (s.1.put (some 16) (.int .i64 6), s.2)) = true := by kernel_rfl
theorem f_32_7 (n0 n1 : Int) : okB (((toF Tryd.prog Ex 9000 Tryd.f7 0 0 1 1 (AAct.enter Tryd.f7.ntmps [.int .i64 n0, .int .i64 n1], M00)).bind fun s => toF Tryd.prog Ex 9000 Tryd.f7 1 2 1 4 (s.1.put (some 13) (.int .i64 32), s.2)).bind fun s => restF Tryd.prog Ex 9000 Tryd.f7 1 5 (s.1.put (some 16) (.int .i64 7), s.2)) = true := by kernel_rfl
theorem g_32 (n0 n1 : Int) (s1 : AAct × Store) (h1 : toF Tryd.prog Ex 9000 Tryd.f7 0 0 1 1 (AAct.enter Tryd.f7.ntmps [.int .i64 n0, .int .i64 n1], M00) = some s1) : okB (restF Tryd.prog Ex 9000 Tryd.f7 1 2 (s1.1.put (some 13) (.int .i64 32), s1.2)) = true := by
  have h := e_32 n0 n1
  rw [h1, Option.bind_some] at h
  obtain ⟨s2, h2, x2⟩ := Option.map_eq_some_iff.1 h
  rw [rest_rem (m := 8) (d := 16) (x := .tmp 15) (by decide) (by kernel_rfl) (by decide) h2 x2]
  obtain ⟨y, hy, vy⟩ := bits_rem n1 255 8 (by decide) (by decide)
  rw [vy]
  have all : ∀ y : Nat, y < 8 → okB (((toF Tryd.prog Ex 9000 Tryd.f7 0 0 1 1 (AAct.enter Tryd.f7.ntmps [.int .i64 n0, .int .i64 n1], M00)).bind fun s => toF Tryd.prog Ex 9000 Tryd.f7 1 2 1 4 (s.1.put (some 13) (.int .i64 32), s.2)).bind fun s => restF Tryd.prog Ex 9000 Tryd.f7 1 5 (s.1.put (some 16) (.int .i64 y), s.2)) = true := by
    intro y hy
    rcases (show y = 0 ∨ y = 1 ∨ y = 2 ∨ y = 3 ∨ y = 4 ∨ y = 5 ∨ y = 6 ∨ y = 7 by omega) with rfl | rfl | rfl | rfl | rfl | rfl | rfl | rfl
    · exact f_32_0 n0 n1
    · exact f_32_1 n0 n1
    · exact f_32_2 n0 n1
    · exact f_32_3 n0 n1
    · exact f_32_4 n0 n1
    · exact f_32_5 n0 n1
    · exact f_32_6 n0 n1
    · exact f_32_7 n0 n1
  have h3 := all y hy
  rw [h1, Option.bind_some, h2, Option.bind_some] at h3
  exact h3
theorem e_40 (n0 n1 : Int) : ((toF Tryd.prog Ex 9000 Tryd.f7 0 0 1 1 (AAct.enter Tryd.f7.ntmps [.int .i64 n0, .int .i64 n1], M00)).bind fun s => toF Tryd.prog Ex 9000 Tryd.f7 1 2 1 4 (s.1.put (some 13) (.int .i64 40), s.2)).map (fun s => s.1.eval (.tmp 15)) = some (.int .i64 (Go.Ab.bits n1 255)) := by kernel_rfl
theorem f_40_0 (n0 n1 : Int) : okB (((toF Tryd.prog Ex 9000 Tryd.f7 0 0 1 1 (AAct.enter Tryd.f7.ntmps [.int .i64 n0, .int .i64 n1], M00)).bind fun s => toF Tryd.prog Ex 9000 Tryd.f7 1 2 1 4 (s.1.put (some 13) (.int .i64 40), s.2)).bind fun s => restF Tryd.prog Ex 9000 Tryd.f7 1 5 (s.1.put (some 16) (.int .i64 0), s.2)) = true := by kernel_rfl
theorem f_40_1 (n0 n1 : Int) : okB (((toF Tryd.prog Ex 9000 Tryd.f7 0 0 1 1 (AAct.enter Tryd.f7.ntmps [.int .i64 n0, .int .i64 n1], M00)).bind fun s => toF Tryd.prog Ex 9000 Tryd.f7 1 2 1 4 (s.1.put (some 13) (.int .i64 40), s.2)).bind fun s => restF Tryd.prog Ex 9000 Tryd.f7 1 5 (s.1.put (some 16) (.int .i64 1), s.2)) = true := by kernel_rfl
theorem f_40_2 (n0 n1 : Int) : okB (((toF Tryd.prog Ex 9000 Tryd.f7 0 0 1 1 (AAct.enter Tryd.f7.ntmps [.int .i64 n0, .int .i64 n1], M00)).bind fun s => toF Tryd.prog Ex 9000 Tryd.f7 1 2 1 4 (s.1.put (some 13) (.int .i64 40), s.2)).bind fun s => restF Tryd.prog Ex 9000 Tryd.f7 1 5 (s.1.put (some 16) (.int .i64 2), s.2)) = true := by kernel_rfl
theorem f_40_3 (n0 n1 : Int) : okB (((toF Tryd.prog Ex 9000 Tryd.f7 0 0 1 1 (AAct.enter Tryd.f7.ntmps [.int .i64 n0, .int .i64 n1], M00)).bind fun s => toF Tryd.prog Ex 9000 Tryd.f7 1 2 1 4 (s.1.put (some 13) (.int .i64 40), s.2)).bind fun s => restF Tryd.prog Ex 9000 Tryd.f7 1 5 (s.1.put (some 16) (.int .i64 3), s.2)) = true := by kernel_rfl
theorem f_40_4 (n0 n1 : Int) : okB (((toF Tryd.prog Ex 9000 Tryd.f7 0 0 1 1 (AAct.enter Tryd.f7.ntmps [.int .i64 n0, .int .i64 n1], M00)).bind fun s => toF Tryd.prog Ex 9000 Tryd.f7 1 2 1 4 (s.1.put (some 13) (.int .i64 40), s.2)).bind fun s => restF Tryd.prog Ex 9000 Tryd.f7 1 5 (s.1.put (some 16) (.int .i64 4), s.2)) = true := by kernel_rfl
theorem f_40_5 (n0 n1 : Int) : okB (((toF Tryd.prog Ex 9000 Tryd.f7 0 0 1 1 (AAct.enter Tryd.f7.ntmps [.int .i64 n0, .int .i64 n1], M00)).bind fun s => toF Tryd.prog Ex 9000 Tryd.f7 1 2 1 4 (s.1.put (some 13) (.int .i64 40), s.2)).bind fun s => restF Tryd.prog Ex 9000 Tryd.f7 1 5 (s.1.put (some 16) (.int .i64 5), s.2)) = true := by kernel_rfl
theorem f_40_6 (n0 n1 : Int) : okB (((toF Tryd.prog Ex 9000 Tryd.f7 0 0 1 1 (AAct.enter Tryd.f7.ntmps [.int .i64 n0, .int .i64 n1], M00)).bind fun s => toF Tryd.prog Ex 9000 Tryd.f7 1 2 1 4 (s.1.put (some 13) (.int .i64 40), s.2)).bind fun s => restF Tryd.prog Ex 9000 Tryd.f7 1 5 (s.1.put (some 16) (.int .i64 6), s.2)) = true := by kernel_rfl
theorem f_40_7 (n0 n1 : Int) : okB (((toF Tryd.prog Ex 9000 Tryd.f7 0 0 1 1 (AAct.enter Tryd.f7.ntmps [.int .i64 n0, .int .i64 n1], M00)).bind fun s => toF Tryd.prog Ex 9000 Tryd.f7 1 2 1 4 (s.1.put (some 13) (.int .i64 40), s.2)).bind fun s => restF Tryd.prog Ex 9000 Tryd.f7 1 5 (s.1.put (some 16) (.int .i64 7), s.2)) = true := by kernel_rfl
theorem g_40 (n0 n1 : Int) (s1 : AAct × Store) (h1 : toF Tryd.prog Ex 9000 Tryd.f7 0 0 1 1 (AAct.enter Tryd.f7.ntmps [.int .i64 n0, .int .i64 n1], M00) = some s1) : okB (restF Tryd.prog Ex 9000 Tryd.f7 1 2 (s1.1.put (some 13) (.int .i64 40), s1.2)) = true := by
  have h := e_40 n0 n1
  rw [h1, Option.bind_some] at h
  obtain ⟨s2, h2, x2⟩ := Option.map_eq_some_iff.1 h
  rw [rest_rem (m := 8) (d := 16) (x := .tmp 15) (by decide) (by kernel_rfl) (by decide) h2 x2]
  obtain ⟨y, hy, vy⟩ := bits_rem n1 255 8 (by decide) (by decide)
  rw [vy]
  have all : ∀ y : Nat, y < 8 → okB (((toF Tryd.prog Ex 9000 Tryd.f7 0 0 1 1 (AAct.enter Tryd.f7.ntmps [.int .i64 n0, .int .i64 n1], M00)).bind fun s => toF Tryd.prog Ex 9000 Tryd.f7 1 2 1 4 (s.1.put (some 13) (.int .i64 40), s.2)).bind fun s => restF Tryd.prog Ex 9000 Tryd.f7 1 5 (s.1.put (some 16) (.int .i64 y), s.2)) = true := by
    intro y hy
    rcases (show y = 0 ∨ y = 1 ∨ y = 2 ∨ y = 3 ∨ y = 4 ∨ y = 5 ∨ y = 6 ∨ y = 7 by omega) with rfl | rfl | rfl | rfl | rfl | rfl | rfl | rfl
    · exact f_40_0 n0 n1
    · exact f_40_1 n0 n1
    · exact f_40_2 n0 n1
    · exact f_40_3 n0 n1
    · exact f_40_4 n0 n1
    · exact f_40_5 n0 n1
    · exact f_40_6 n0 n1
    · exact f_40_7 n0 n1
  have h3 := all y hy
  rw [h1, Option.bind_some, h2, Option.bind_some] at h3
  exact h3
theorem e_48 (n0 n1 : Int) : ((toF Tryd.prog Ex 9000 Tryd.f7 0 0 1 1 (AAct.enter Tryd.f7.ntmps [.int .i64 n0, .int .i64 n1], M00)).bind fun s => toF Tryd.prog Ex 9000 Tryd.f7 1 2 1 4 (s.1.put (some 13) (.int .i64 48), s.2)).map (fun s => s.1.eval (.tmp 15)) = some (.int .i64 (Go.Ab.bits n1 255)) := by kernel_rfl
theorem f_48_0 (n0 n1 : Int) : okB (((toF Tryd.prog Ex 9000 Tryd.f7 0 0 1 1 (AAct.enter Tryd.f7.ntmps [.int .i64 n0, .int .i64 n1], M00)).bind fun s => toF Tryd.prog Ex 9000 Tryd.f7 1 2 1 4 (s.1.put (some 13) (.int .i64 48), s.2)).bind fun s => restF Tryd.prog Ex 9000 Tryd.f7 1 5 (s.1.put (some 16) (.int .i64 0), s.2)) = true := by kernel_rfl
theorem f_48_1 (n0 n1 : Int) : okB (((toF Tryd.prog Ex 9000 Tryd.f7 0 0 1 1 (AAct.enter Tryd.f7.ntmps [.int .i64 n0, .int .i64 n1], M00)).bind fun s => toF Tryd.prog Ex 9000 Tryd.f7 1 2 1 4 (s.1.put (some 13) (.int .i64 48), s.2)).bind fun s => restF Tryd.prog Ex 9000 Tryd.f7 1 5 (s.1.put (some 16) (.int .i64 1), s.2)) = true := by kernel_rfl
theorem f_48_2 (n0 n1 : Int) : okB (((toF Tryd.prog Ex 9000 Tryd.f7 0 0 1 1 (AAct.enter Tryd.f7.ntmps [.int .i64 n0, .int .i64 n1], M00)).bind fun s => toF Tryd.prog Ex 9000 Tryd.f7 1 2 1 4 (s.1.put (some 13) (.int .i64 48), s.2)).bind fun s => restF Tryd.prog Ex 9000 Tryd.f7 1 5 (s.1.put (some 16) (.int .i64 2), s.2)) = true := by kernel_rfl
theorem f_48_3 (n0 n1 : Int) : okB (((toF Tryd.prog Ex 9000 Tryd.f7 0 0 1 1 (AAct.enter Tryd.f7.ntmps [.int .i64 n0, .int .i64 n1], M00)).bind fun s => toF Tryd.prog Ex 9000 Tryd.f7 1 2 1 4 (s.1.put (some 13) (.int .i64 48), s.2)).bind fun s => restF Tryd.prog Ex 9000 Tryd.f7 1 5 (s.1.put (some 16) (.int .i64 3), s.2)) = true := by kernel_rfl
theorem f_48_4 (n0 n1 : Int) : okB (((toF Tryd.prog Ex 9000 Tryd.f7 0 0 1 1 (AAct.enter Tryd.f7.ntmps [.int .i64 n0, .int .i64 n1], M00)).bind fun s => toF Tryd.prog Ex 9000 Tryd.f7 1 2 1 4 (s.1.put (some 13) (.int .i64 48), s.2)).bind fun s => restF Tryd.prog Ex 9000 Tryd.f7 1 5 (s.1.put (some 16) (.int .i64 4), s.2)) = true := by kernel_rfl
theorem f_48_5 (n0 n1 : Int) : okB (((toF Tryd.prog Ex 9000 Tryd.f7 0 0 1 1 (AAct.enter Tryd.f7.ntmps [.int .i64 n0, .int .i64 n1], M00)).bind fun s => toF Tryd.prog Ex 9000 Tryd.f7 1 2 1 4 (s.1.put (some 13) (.int .i64 48), s.2)).bind fun s => restF Tryd.prog Ex 9000 Tryd.f7 1 5 (s.1.put (some 16) (.int .i64 5), s.2)) = true := by kernel_rfl
theorem f_48_6 (n0 n1 : Int) : okB (((toF Tryd.prog Ex 9000 Tryd.f7 0 0 1 1 (AAct.enter Tryd.f7.ntmps [.int .i64 n0, .int .i64 n1], M00)).bind fun s => toF Tryd.prog Ex 9000 Tryd.f7 1 2 1 4 (s.1.put (some 13) (.int .i64 48), s.2)).bind fun s => restF Tryd.prog Ex 9000 Tryd.f7 1 5 (s.1.put (some 16) (.int .i64 6), s.2)) = true := by kernel_rfl
theorem f_48_7 (n0 n1 : Int) : okB (((toF Tryd.prog Ex 9000 Tryd.f7 0 0 1 1 (AAct.enter Tryd.f7.ntmps [.int .i64 n0, .int .i64 n1], M00)).bind fun s => toF Tryd.prog Ex 9000 Tryd.f7 1 2 1 4 (s.1.put (some 13) (.int .i64 48), s.2)).bind fun s => restF Tryd.prog Ex 9000 Tryd.f7 1 5 (s.1.put (some 16) (.int .i64 7), s.2)) = true := by kernel_rfl
theorem g_48 (n0 n1 : Int) (s1 : AAct × Store) (h1 : toF Tryd.prog Ex 9000 Tryd.f7 0 0 1 1 (AAct.enter Tryd.f7.ntmps [.int .i64 n0, .int .i64 n1], M00) = some s1) : okB (restF Tryd.prog Ex 9000 Tryd.f7 1 2 (s1.1.put (some 13) (.int .i64 48), s1.2)) = true := by
  have h := e_48 n0 n1
  rw [h1, Option.bind_some] at h
  obtain ⟨s2, h2, x2⟩ := Option.map_eq_some_iff.1 h
  rw [rest_rem (m := 8) (d := 16) (x := .tmp 15) (by decide) (by kernel_rfl) (by decide) h2 x2]
  obtain ⟨y, hy, vy⟩ := bits_rem n1 255 8 (by decide) (by decide)
  rw [vy]
  have all : ∀ y : Nat, y < 8 → okB (((toF Tryd.prog Ex 9000 Tryd.f7 0 0 1 1 (AAct.enter Tryd.f7.ntmps [.int .i64 n0, .int .i64 n1], M00)).bind fun s => toF Tryd.prog Ex 9000 Tryd.f7 1 2 1 4 (s.1.put (some 13) (.int .i64 48), s.2)).bind fun s => restF Tryd.prog Ex 9000 Tryd.f7 1 5 (s.1.put (some 16) (.int .i64 y), s.2)) = true := by
    intro y hy
    rcases (show y = 0 ∨ y = 1 ∨ y = 2 ∨ y = 3 ∨ y = 4 ∨ y = 5 ∨ y = 6 ∨ y = 7 by omega) with rfl | rfl | rfl | rfl | rfl | rfl | rfl | rfl
    · exact f_48_0 n0 n1
    · exact f_48_1 n0 n1
    · exact f_48_2 n0 n1
    · exact f_48_3 n0 n1
    · exact f_48_4 n0 n1
    · exact f_48_5 n0 n1
    · exact f_48_6 n0 n1
    · exact f_48_7 n0 n1
  have h3 := all y hy
  rw [h1, Option.bind_some, h2, Option.bind_some] at h3
  exact h3
theorem e_56 (n0 n1 : Int) : ((toF Tryd.prog Ex 9000 Tryd.f7 0 0 1 1 (AAct.enter Tryd.f7.ntmps [.int .i64 n0, .int .i64 n1], M00)).bind fun s => toF Tryd.prog Ex 9000 Tryd.f7 1 2 1 4 (s.1.put (some 13) (.int .i64 56), s.2)).map (fun s => s.1.eval (.tmp 15)) = some (.int .i64 (Go.Ab.bits n1 255)) := by kernel_rfl
theorem f_56_0 (n0 n1 : Int) : okB (((toF Tryd.prog Ex 9000 Tryd.f7 0 0 1 1 (AAct.enter Tryd.f7.ntmps [.int .i64 n0, .int .i64 n1], M00)).bind fun s => toF Tryd.prog Ex 9000 Tryd.f7 1 2 1 4 (s.1.put (some 13) (.int .i64 56), s.2)).bind fun s => restF Tryd.prog Ex 9000 Tryd.f7 1 5 (s.1.put (some 16) (.int .i64 0), s.2)) = true := by kernel_rfl
theorem f_56_1 (n0 n1 : Int) : okB (((toF Tryd.prog Ex 9000 Tryd.f7 0 0 1 1 (AAct.enter Tryd.f7.ntmps [.int .i64 n0, .int .i64 n1], M00)).bind fun s => toF Tryd.prog Ex 9000 Tryd.f7 1 2 1 4 (s.1.put (some 13) (.int .i64 56), s.2)).bind fun s => restF Tryd.prog Ex 9000 Tryd.f7 1 5 (s.1.put (some 16) (.int .i64 1), s.2)) = true := by kernel_rfl
theorem f_56_2 (n0 n1 : Int) : okB (((toF Tryd.prog Ex 9000 Tryd.f7 0 0 1 1 (AAct.enter Tryd.f7.ntmps [.int .i64 n0, .int .i64 n1], M00)).bind fun s => toF Tryd.prog Ex 9000 Tryd.f7 1 2 1 4 (s.1.put (some 13) (.int .i64 56), s.2)).bind fun s => restF Tryd.prog Ex 9000 Tryd.f7 1 5 (s.1.put (some 16) (.int .i64 2), s.2)) = true := by kernel_rfl
theorem f_56_3 (n0 n1 : Int) : okB (((toF Tryd.prog Ex 9000 Tryd.f7 0 0 1 1 (AAct.enter Tryd.f7.ntmps [.int .i64 n0, .int .i64 n1], M00)).bind fun s => toF Tryd.prog Ex 9000 Tryd.f7 1 2 1 4 (s.1.put (some 13) (.int .i64 56), s.2)).bind fun s => restF Tryd.prog Ex 9000 Tryd.f7 1 5 (s.1.put (some 16) (.int .i64 3), s.2)) = true := by kernel_rfl
theorem f_56_4 (n0 n1 : Int) : okB (((toF Tryd.prog Ex 9000 Tryd.f7 0 0 1 1 (AAct.enter Tryd.f7.ntmps [.int .i64 n0, .int .i64 n1], M00)).bind fun s => toF Tryd.prog Ex 9000 Tryd.f7 1 2 1 4 (s.1.put (some 13) (.int .i64 56), s.2)).bind fun s => restF Tryd.prog Ex 9000 Tryd.f7 1 5 (s.1.put (some 16) (.int .i64 4), s.2)) = true := by kernel_rfl
theorem f_56_5 (n0 n1 : Int) : okB (((toF Tryd.prog Ex 9000 Tryd.f7 0 0 1 1 (AAct.enter Tryd.f7.ntmps [.int .i64 n0, .int .i64 n1], M00)).bind fun s => toF Tryd.prog Ex 9000 Tryd.f7 1 2 1 4 (s.1.put (some 13) (.int .i64 56), s.2)).bind fun s => restF Tryd.prog Ex 9000 Tryd.f7 1 5 (s.1.put (some 16) (.int .i64 5), s.2)) = true := by kernel_rfl
theorem f_56_6 (n0 n1 : Int) : okB (((toF Tryd.prog Ex 9000 Tryd.f7 0 0 1 1 (AAct.enter Tryd.f7.ntmps [.int .i64 n0, .int .i64 n1], M00)).bind fun s => toF Tryd.prog Ex 9000 Tryd.f7 1 2 1 4 (s.1.put (some 13) (.int .i64 56), s.2)).bind fun s => restF Tryd.prog Ex 9000 Tryd.f7 1 5 (s.1.put (some 16) (.int .i64 6), s.2)) = true := by kernel_rfl
theorem f_56_7 (n0 n1 : Int) : okB (((toF Tryd.prog Ex 9000 Tryd.f7 0 0 1 1 (AAct.enter Tryd.f7.ntmps [.int .i64 n0, .int .i64 n1], M00)).bind fun s => toF Tryd.prog Ex 9000 Tryd.f7 1 2 1 4 (s.1.put (some 13) (.int .i64 56), s.2)).bind fun s => restF Tryd.prog Ex 9000 Tryd.f7 1 5 (s.1.put (some 16) (.int .i64 7), s.2)) = true := by kernel_rfl
theorem g_56 (n0 n1 : Int) (s1 : AAct × Store) (h1 : toF Tryd.prog Ex 9000 Tryd.f7 0 0 1 1 (AAct.enter Tryd.f7.ntmps [.int .i64 n0, .int .i64 n1], M00) = some s1) : okB (restF Tryd.prog Ex 9000 Tryd.f7 1 2 (s1.1.put (some 13) (.int .i64 56), s1.2)) = true := by
  have h := e_56 n0 n1
  rw [h1, Option.bind_some] at h
  obtain ⟨s2, h2, x2⟩ := Option.map_eq_some_iff.1 h
  rw [rest_rem (m := 8) (d := 16) (x := .tmp 15) (by decide) (by kernel_rfl) (by decide) h2 x2]
  obtain ⟨y, hy, vy⟩ := bits_rem n1 255 8 (by decide) (by decide)
  rw [vy]
  have all : ∀ y : Nat, y < 8 → okB (((toF Tryd.prog Ex 9000 Tryd.f7 0 0 1 1 (AAct.enter Tryd.f7.ntmps [.int .i64 n0, .int .i64 n1], M00)).bind fun s => toF Tryd.prog Ex 9000 Tryd.f7 1 2 1 4 (s.1.put (some 13) (.int .i64 56), s.2)).bind fun s => restF Tryd.prog Ex 9000 Tryd.f7 1 5 (s.1.put (some 16) (.int .i64 y), s.2)) = true := by
    intro y hy
    rcases (show y = 0 ∨ y = 1 ∨ y = 2 ∨ y = 3 ∨ y = 4 ∨ y = 5 ∨ y = 6 ∨ y = 7 by omega) with rfl | rfl | rfl | rfl | rfl | rfl | rfl | rfl
    · exact f_56_0 n0 n1
    · exact f_56_1 n0 n1
    · exact f_56_2 n0 n1
    · exact f_56_3 n0 n1
    · exact f_56_4 n0 n1
    · exact f_56_5 n0 n1
    · exact f_56_6 n0 n1
    · exact f_56_7 n0 n1
  have h3 := all y hy
  rw [h1, Option.bind_some, h2, Option.bind_some] at h3
  exact h3
end actsGrow
end Go.G
