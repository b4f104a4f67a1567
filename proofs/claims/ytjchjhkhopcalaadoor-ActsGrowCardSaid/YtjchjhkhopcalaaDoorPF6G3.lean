/- ActsGrow: its runs, part 3. -/
import Derived.Test.YtjchjhkhopcalaaDoorPAW
import Derived.Test.YtjchjhkhopcalaaDoorPAbFin
namespace Go.G
open Go.Ab Go.Proofs Go.RowKit
set_option linter.unusedVariables false
set_option maxRecDepth 100000
namespace actsGrow
theorem e_3 (n0 n1 : Int) : ((toF Tryd.prog Ex 9000 Tryd.f7 0 0 1 1 (AAct.enter Tryd.f7.ntmps [.int .i64 n0, .int .i64 n1], M00)).bind fun s => toF Tryd.prog Ex 9000 Tryd.f7 1 2 1 4 (s.1.put (some 13) (.int .i64 3), s.2)).map (fun s => s.1.eval (.tmp 15)) = some (.int .i64 (Go.Ab.bits n1 255)) := by kernel_rfl
theorem f_3_0 (n0 n1 : Int) : okB (((toF Tryd.prog Ex 9000 Tryd.f7 0 0 1 1 (AAct.enter Tryd.f7.ntmps [.int .i64 n0, .int .i64 n1], M00)).bind fun s => toF Tryd.prog Ex 9000 Tryd.f7 1 2 1 4 (s.1.put (some 13) (.int .i64 3), s.2)).bind fun s => restF Tryd.prog Ex 9000 Tryd.f7 1 5 (s.1.put (some 16) (.int .i64 0), s.2)) = true := by kernel_rfl
theorem f_3_1 (n0 n1 : Int) : okB (((toF Tryd.prog Ex 9000 Tryd.f7 0 0 1 1 (AAct.enter Tryd.f7.ntmps [.int .i64 n0, .int .i64 n1], M00)).bind fun s => toF Tryd.prog Ex 9000 Tryd.f7 1 2 1 4 (s.1.put (some 13) (.int .i64 3), s.2)).bind fun s => restF Tryd.prog Ex 9000 Tryd.f7 1 5 (s.1.put (some 16) (.int .i64 1), s.2)) = true := by kernel_rfl
theorem f_3_2 (n0 n1 : Int) : okB (((toF Tryd.prog Ex 9000 Tryd.f7 0 0 1 1 (AAct.enter Tryd.f7.ntmps [.int .i64 n0, .int .i64 n1], M00)).bind fun s => toF Tryd.prog Ex 9000 Tryd.f7 1 2 1 4 (s.1.put (some 13) (.int .i64 3), s.2)).bind fun s => restF Tryd.prog Ex 9000 Tryd.f7 1 5 (s.1.put (some 16) (.int .i64 2), s.2)) = true := by kernel_rfl
theorem f_3_3 (n0 n1 : Int) : okB (((toF Tryd.prog Ex 9000 Tryd.f7 0 0 1 1 (AAct.enter Tryd.f7.ntmps [.int .i64 n0, .int .i64 n1], M00)).bind fun s => toF Tryd.prog Ex 9000 Tryd.f7 1 2 1 4 (s.1.put (some 13) (.int .i64 3), s.2)).bind fun s => restF Tryd.prog Ex 9000 Tryd.f7 1 5 (s.1.put (some 16) (.int .i64 3), s.2)) = true := by kernel_rfl
theorem f_3_4 (n0 n1 : Int) : okB (((toF Tryd.prog Ex 9000 Tryd.f7 0 0 1 1 (AAct.enter Tryd.f7.ntmps [.int .i64 n0, .int .i64 n1], M00)).bind fun s => toF Tryd.prog Ex 9000 Tryd.f7 1 2 1 4 (s.1.put (some 13) (.int .i64 3), s.2)).bind fun s => restF Tryd.prog Ex 9000 Tryd.f7 1 5 (s.1.put (some 16) (.int .i64 4), s.2)) = true := by kernel_rfl
theorem f_3_5 (n0 n1 : Int) : okB (((toF Tryd.prog Ex 9000 Tryd.f7 0 0 1 1 (AAct.enter Tryd.f7.ntmps [.int .i64 n0, .int .i64 n1], M00)).bind fun s => toF Tryd.prog Ex 9000 Tryd.f7 1 2 1 4 (s.1.put (some 13) (.int .i64 3), s.2)).bind fun s => restF Tryd.prog Ex 9000 Tryd.f7 1 5 (s.1.put (some 16) (.int .i64 5), s.2)) = true := by kernel_rfl
theorem f_3_6 (n0 n1 : Int) : okB (((toF Tryd.prog Ex 9000 Tryd.f7 0 0 1 1 (AAct.enter Tryd.f7.ntmps [.int .i64 n0, .int .i64 n1], M00)).bind fun s => toF Tryd.prog Ex 9000 Tryd.f7 1 2 1 4 (s.1.put (some 13) (.int .i64 3), s.2)).bind fun s => restF Tryd.prog Ex 9000 Tryd.f7 1 5 (s.1.put (some 16) (.int .i64 6), s.2)) = true := by kernel_rfl
theorem f_3_7 (n0 n1 : Int) : okB (((toF Tryd.prog Ex 9000 Tryd.f7 0 0 1 1 (AAct.enter Tryd.f7.ntmps [.int .i64 n0, .int .i64 n1], M00)).bind fun s => toF Tryd.prog Ex 9000 Tryd.f7 1 2 1 4 (s.1.put (some 13) (.int .i64 3), s.2)).bind fun s => restF Tryd.prog Ex 9000 Tryd.f7 1 5 (s.1.put (some 16) (.int .i64 7), s.2)) = true := by kernel_rfl
theorem g_3 (n0 n1 : Int) (s1 : AAct × Store) (h1 : toF Tryd.prog Ex 9000 Tryd.f7 0 0 1 1 (AAct.enter Tryd.f7.ntmps [.int .i64 n0, .int .i64 n1], M00) = some s1) : okB (restF Tryd.prog Ex 9000 Tryd.f7 1 2 (s1.1.put (some 13) (.int .i64 3), s1.2)) = true := by
  have h := e_3 n0 n1
  rw [h1, Option.bind_some] at h
  obtain ⟨s2, h2, x2⟩ := Option.map_eq_some_iff.1 h
  rw [rest_rem (m := 8) (d := 16) (x := .tmp 15) (by decide) (by kernel_rfl) (by decide) h2 x2]
  obtain ⟨y, hy, vy⟩ := bits_rem n1 255 8 (by decide) (by decide)
  rw [vy]
  have all : ∀ y : Nat, y < 8 → okB (((toF Tryd.prog Ex 9000 Tryd.f7 0 0 1 1 (AAct.enter Tryd.f7.ntmps [.int .i64 n0, .int .i64 n1], M00)).bind fun s => toF Tryd.prog Ex 9000 Tryd.f7 1 2 1 4 (s.1.put (some 13) (.int .i64 3), s.2)).bind fun s => restF Tryd.prog Ex 9000 Tryd.f7 1 5 (s.1.put (some 16) (.int .i64 y), s.2)) = true := by
    intro y hy
    rcases (show y = 0 ∨ y = 1 ∨ y = 2 ∨ y = 3 ∨ y = 4 ∨ y = 5 ∨ y = 6 ∨ y = 7 by omega) with rfl | rfl | rfl | rfl | rfl | rfl | rfl | rfl
    · exact f_3_0 n0 n1
    · exact f_3_1 n0 n1
    · exact f_3_2 n0 n1
    · exact f_3_3 n0 n1
    · exact f_3_4 n0 n1
    · exact f_3_5 n0 n1
    · exact f_3_6 n0 n1
    · exact f_3_7 n0 n1
  have h3 := all y hy
  rw [h1, Option.bind_some, h2, Option.bind_some] at h3
  exact h3
theorem e_11 (n0 n1 : Int) : ((toF Tryd.prog Ex 9000 Tryd.f7 0 0 1 1 (AAct.enter Tryd.f7.ntmps [.int .i64 n0, .int .i64 n1], M00)).bind fun s => toF Tryd.prog Ex 9000 Tryd.f7 1 2 1 4 (s.1.put (some 13) (.int .i64 11), s.2)).map (fun s => s.1.eval (.tmp 15)) = some (.int .i64 (Go.Ab.bits n1 255)) := by kernel_rfl
theorem f_11_0 (n0 n1 : Int) : okB (((toF Tryd.prog Ex 9000 Tryd.f7 0 0 1 1 (AAct.enter Tryd.f7.ntmps [.int .i64 n0, .int .i64 n1], M00)).bind fun s => toF Tryd.prog Ex 9000 Tryd.f7 1 2 1 4 (s.1.put (some 13) (.int .i64 11), s.2)).bind fun s => restF Tryd.prog Ex 9000 Tryd.f7 1 5 (s.1.put (some 16) (.int .i64 0), s.2)) = true := by kernel_rfl
theorem f_11_1 (n0 n1 : Int) : okB (((toF Tryd.prog Ex 9000 Tryd.f7 0 0 1 1 (AAct.enter Tryd.f7.ntmps [.int .i64 n0, .int .i64 n1], M00)).bind fun s => toF Tryd.prog Ex 9000 Tryd.f7 1 2 1 4 (s.1.put (some 13) (.int .i64 11), s.2)).bind fun s => restF Tryd.prog Ex 9000 Tryd.f7 1 5 (s.1.put (some 16) (.int .i64 1), s.2)) = true := by kernel_rfl
theorem f_11_2 (n0 n1 : Int) : okB (((toF Tryd.prog Ex 9000 Tryd.f7 0 0 1 1 (AAct.enter Tryd.f7.ntmps [.int .i64 n0, .int .i64 n1], M00)).bind fun s => toF Tryd.prog Ex 9000 Tryd.f7 1 2 1 4 (s.1.put (some 13) (.int .i64 11), s.2)).bind fun s => restF Tryd.prog Ex 9000 Tryd.f7 1 5 (s.1.put (some 16) (.int .i64 2), s.2)) = true := by kernel_rfl
theorem f_11_3 (n0 n1 : Int) : okB (((toF Tryd.prog Ex 9000 Tryd.f7 0 0 1 1 (AAct.enter Tryd.f7.ntmps [.int .i64 n0, .int .i64 n1], M00)).bind fun s => toF Tryd.prog Ex 9000 Tryd.f7 1 2 1 4 (s.1.put (some 13) (.int .i64 11), s.2)).bind fun s => restF Tryd.prog Ex 9000 Tryd.f7 1 5 (s.1.put (some 16) (.int .i64 3), s.2)) = true := by kernel_rfl
theorem f_11_4 (n0 n1 : Int) : okB (((toF Tryd.prog Ex 9000 Tryd.f7 0 0 1 1 (AAct.enter Tryd.f7.ntmps [.int .i64 n0, .int .i64 n1], M00)).bind fun s => toF Tryd.prog Ex 9000 Tryd.f7 1 2 1 4 (s.1.put (some 13) (.int .i64 11), s.2)).bind fun s => restF Tryd.prog Ex 9000 Tryd.f7 1 5 (s.1.put (some 16) (.int .i64 4), s.2)) = true := by kernel_rfl
theorem f_11_5 (n0 n1 : Int) : okB (((toF Tryd.prog Ex 9000 Tryd.f7 0 0 1 1 (AAct.enter Tryd.f7.ntmps [.int .i64 n0, .int .i64 n1], M00)).bind fun s => toF Tryd.prog Ex 9000 Tryd.f7 1 2 1 4 (s.1.put (some 13) (.int .i64 11), s.2)).bind fun s => restF Tryd.prog Ex 9000 Tryd.f7 1 5 (s.1.put (some 16) (.int .i64 5), s.2)) = true := by kernel_rfl
theorem f_11_6 (n0 n1 : Int) : okB (((toF Tryd.prog Ex 9000 Tryd.f7 0 0 1 1 (AAct.enter Tryd.f7.ntmps [.int .i64 n0, .int .i64 n1], M00)).bind fun s => toF Tryd.prog Ex 9000 Tryd.f7 1 2 1 4 (s.1.put (some 13) (.int .i64 11), s.2)).bind fun s => restF Tryd.prog Ex 9000 Tryd.f7 1 5 (s.1.put (some 16) (.int .i64 6), s.2)) = true := by kernel_rfl
theorem f_11_7 (n0 n1 : Int) : okB (((toF Tryd.prog Ex 9000 Tryd.f7 0 0 1 1 (AAct.enter Tryd.f7.ntmps [.int .i64 n0, .int .i64 n1], M00)).bind fun s => toF Tryd.prog Ex 9000 Tryd.f7 1 2 1 4 (s.1.put (some 13) (.int .i64 11), s.2)).bind fun s => restF Tryd.prog Ex 9000 Tryd.f7 1 5 (s.1.put (some 16) (.int .i64 7), s.2)) = true := by kernel_rfl
theorem g_11 (n0 n1 : Int) (s1 : AAct × Store) (h1 : toF Tryd.prog Ex 9000 Tryd.f7 0 0 1 1 (AAct.enter Tryd.f7.ntmps [.int .i64 n0, .int .i64 n1], M00) = some s1) : okB (restF Tryd.prog Ex 9000 Tryd.f7 1 2 (s1.1.put (some 13) (.int .i64 11), s1.2)) = true := by
  have h := e_11 n0 n1
  rw [h1, Option.bind_some] at h
  obtain ⟨s2, h2, x2⟩ := Option.map_eq_some_iff.1 h
  rw [rest_rem (m := 8) (d := 16) (x := .tmp 15) (by decide) (by kernel_rfl) (by decide) h2 x2]
  obtain ⟨y, hy, vy⟩ := bits_rem n1 255 8 (by decide) (by decide)
  rw [vy]
  have all : ∀ y : Nat, y < 8 → okB (((toF Tryd.prog Ex 9000 Tryd.f7 0 0 1 1 (AAct.enter Tryd.f7.ntmps [.int .i64 n0, .int .i64 n1], M00)).bind fun s => toF Tryd.prog Ex 9000 Tryd.f7 1 2 1 4 (s.1.put (some 13) (.int .i64 11), s.2)).bind fun s => restF Tryd.prog Ex 9000 Tryd.f7 1 5 (s.1.put (some 16) (.int .i64 y), s.2)) = true := by
    intro y hy
    rcases (show y = 0 ∨ y = 1 ∨ y = 2 ∨ y = 3 ∨ y = 4 ∨ y = 5 ∨ y = 6 ∨ y = 7 by omega) with rfl | rfl | rfl | rfl | rfl | rfl | rfl | rfl
    · exact f_11_0 n0 n1
    · exact f_11_1 n0 n1
    · exact f_11_2 n0 n1
    · exact f_11_3 n0 n1
    · exact f_11_4 n0 n1
    · exact f_11_5 n0 n1
    · exact f_11_6 n0 n1
    · exact f_11_7 n0 n1
  have h3 := all y hy
  rw [h1, Option.bind_some, h2, Option.bind_some] at h3
  exact h3
theorem e_19 (n0 n1 : Int) : ((toF Tryd.prog Ex 9000 Tryd.f7 0 0 1 1 (AAct.enter Tryd.f7.ntmps [.int .i64 n0, .int .i64 n1], M00)).bind fun s => toF Tryd.prog Ex 9000 Tryd.f7 1 2 1 4 (s.1.put (some 13) (.int .i64 19), s.2)).map (fun s => s.1.eval (.tmp 15)) = some (.int .i64 (Go.Ab.bits n1 255)) := by kernel_rfl
theorem f_19_0 (n0 n1 : Int) : okB (((toF Tryd.prog Ex 9000 Tryd.f7 0 0 1 1 (AAct.enter Tryd.f7.ntmps [.int .i64 n0, .int .i64 n1], M00)).bind fun s => toF Tryd.prog Ex 9000 Tryd.f7 1 2 1 4 (s.1.put (some 13) (.int .i64 19), s.2)).bind fun s => restF Tryd.prog Ex 9000 Tryd.f7 1 5 (s.1.put (some 16) (.int .i64 0), s.2)) = true := by kernel_rfl
theorem f_19_1 (n0 n1 : Int) : okB (((toF Tryd.prog Ex 9000 Tryd.f7 0 0 1 1 (AAct.enter Tryd.f7.ntmps [.int .i64 n0, .int .i64 n1], M00)).bind fun s => toF Tryd.prog Ex 9000 Tryd.f7 1 2 1 4 (s.1.put (some 13) (.int .i64 19), s.2)).bind fun s => restF Tryd.prog Ex 9000 Tryd.f7 1 5 (s.1.put (some 16) (.int .i64 1), s.2)) = true := by kernel_rfl
theorem f_19_2 (n0 n1 : Int) : okB (((toF Tryd.prog Ex 9000 Tryd.f7 0 0 1 1 (AAct.enter Tryd.f7.ntmps [.int .i64 n0, .int .i64 n1], M00)).bind fun s => toF Tryd.prog Ex 9000 Tryd.f7 1 2 1 4 (s.1.put (some 13) (.int .i64 19), s.2)).bind fun s => restF Tryd.prog Ex 9000 Tryd.f7 1 5 (s.1.put (some 16) (.int .i64 2), s.2)) = true := by kernel_rfl
theorem f_19_3 (n0 n1 : Int) : okB (((toF Tryd.prog Ex 9000 Tryd.f7 0 0 1 1 (AAct.enter Tryd.f7.ntmps [.int .i64 n0, .int .i64 n1], M00)).bind fun s => toF Tryd.prog Ex 9000 Tryd.f7 1 2 1 4 (s.1.put (some 13) (.int .i64 19), s.2)).bind fun s => restF Tryd.prog Ex 9000 Tryd.f7 1 5 (s.1.put (some 16) (.int .i64 3), s.2)) = true := by kernel_rfl
theorem f_19_4 (n0 n1 : Int) : okB (((toF Tryd.prog Ex 9000 Tryd.f7 0 0 1 1 (AAct.enter Tryd.f7.ntmps [.int .i64 n0, .int .i64 n1], M00)).bind fun s => toF Tryd.prog Ex 9000 Tryd.f7 1 2 1 4 (s.1.put (some 13) (.int .i64 19), s.2)).bind fun s => restF Tryd.prog Ex 9000 Tryd.f7 1 5 (s.1.put (some 16) (.int .i64 4), s.2)) = true := by kernel_rfl
theorem f_19_5 (n0 n1 : Int) : okB (((toF Tryd.prog Ex 9000 Tryd.f7 0 0 1 1 (AAct.enter Tryd.f7.ntmps [.int .i64 n0, .int .i64 n1], M00)).bind fun s => toF Tryd.prog Ex 9000 Tryd.f7 1 2 1 4 (s.1.put (some 13) (.int .i64 19), s.2)).bind fun s => restF Tryd.prog Ex 9000 Tryd.f7 1 5 (s.1.put (some 16) (.int .i64 5), s.2)) = true := by kernel_rfl
theorem f_19_6 (n0 n1 : Int) : okB (((toF Tryd.prog Ex 9000 Tryd.f7 0 0 1 1 (AAct.enter Tryd.f7.ntmps [.int .i64 n0, .int .i64 n1], M00)).bind fun s => toF Tryd.prog Ex 9000 Tryd.f7 1 2 1 4 (s.1.put (some 13) (.int .i64 19), s.2)).bind fun s => restF Tryd.prog Ex 9000 Tryd.f7 1 5 (s.1.put (some 16) (.int .i64 6), s.2)) = true := by kernel_rfl
theorem f_19_7 (n0 n1 : Int) : okB (((toF Tryd.prog Ex 9000 Tryd.f7 0 0 1 1 (AAct.enter Tryd.f7.ntmps [.int .i64 n0, .int .i64 n1], M00)).bind fun s => toF Tryd.prog Ex 9000 Tryd.f7 1 2 1 4 (s.1.put (some 13) (.int .i64 19), s.2)).bind fun s => restF Tryd.prog Ex 9000 Tryd.f7 1 5 (s.1.put (some 16) (.int .i64 7), s.2)) = true := by kernel_rfl
theorem g_19 (n0 n1 : Int) (s1 : AAct × Store) (h1 : toF Tryd.prog Ex 9000 Tryd.f7 0 0 1 1 (AAct.enter Tryd.f7.ntmps [.int .i64 n0, .int .i64 n1], M00) = some s1) : okB (restF Tryd.prog Ex 9000 Tryd.f7 1 2 (s1.1.put (some 13) (.int .i64 19), s1.2)) = true := by
  have h := e_19 n0 n1
  rw [h1, Option.bind_some] at h
  obtain ⟨s2, h2, x2⟩ := Option.map_eq_some_iff.1 h
  rw [rest_rem (m := 8) (d := 16) (x := .tmp 15) (by decide) (by kernel_rfl) (by decide) h2 x2]
  obtain ⟨y, hy, vy⟩ := bits_rem n1 255 8 (by decide) (by decide)
  rw [vy]
  have all : ∀ y : Nat, y < 8 → okB (((toF Tryd.prog Ex 9000 Tryd.f7 0 0 1 1 (AAct.enter Tryd.f7.ntmps [.int .i64 n0, .int .i64 n1], M00)).bind fun s => toF Tryd.prog Ex 9000 Tryd.f7 1 2 1 4 (s.1.put (some 13) (.int .i64 19), s.2)).bind fun s => restF Tryd.prog Ex 9000 Tryd.f7 1 5 (s.1.put (some 16) (.int .i64 y), s.2)) = true := by
    intro y hy
    rcases (show y = 0 ∨ y = 1 ∨ y = 2 ∨ y = 3 ∨ y = 4 ∨ y = 5 ∨ y = 6 ∨ y = 7 by omega) with rfl | rfl | rfl | rfl | rfl | rfl | rfl | rfl
    · exact f_19_0 n0 n1
    · exact f_19_1 n0 n1
    · exact f_19_2 n0 n1
    · exact f_19_3 n0 n1
    · exact f_19_4 n0 n1
    · exact f_19_5 n0 n1
    · exact f_19_6 n0 n1
    · exact f_19_7 n0 n1
  have h3 := all y hy
  rw [h1, Option.bind_some, h2, Option.bind_some] at h3
  exact h3
theorem e_27 (n0 n1 : Int) : ((toF Tryd.prog Ex 9000 Tryd.f7 0 0 1 1 (AAct.enter Tryd.f7.ntmps [.int .i64 n0, .int .i64 n1], M00)).bind fun s => toF Tryd.prog Ex 9000 Tryd.f7 1 2 1 4 (s.1.put (some 13) (.int .i64 27), s.2)).map (fun s => s.1.eval (.tmp 15)) = some (.int .i64 (Go.Ab.bits n1 255)) := by kernel_rfl
theorem f_27_0 (n0 n1 : Int) : okB (((toF Tryd.prog Ex 9000 Tryd.f7 0 0 1 1 (AAct.enter Tryd.f7.ntmps [.int .i64 n0, .int .i64 n1], M00)).bind fun s => toF Tryd.prog Ex 9000 Tryd.f7 1 2 1 4 (s.1.put (some 13) (.int .i64 27), s.2)).bind fun s => restF Tryd.prog Ex 9000 Tryd.f7 1 5 (s.1.put (some 16) (.int .i64 0), s.2)) = true := by kernel_rfl
theorem f_27_1 (n0 n1 : Int) : okB (((toF Tryd.prog Ex 9000 Tryd.f7 0 0 1 1 (AAct.enter Tryd.f7.ntmps [.int .i64 n0, .int .i64 n1], M00)).bind fun s => toF Tryd.prog Ex 9000 Tryd.f7 1 2 1 4 (s.1.put (some 13) (.int .i64 27), s.2)).bind fun s => restF Tryd.prog Ex 9000 Tryd.f7 1 5 (s.1.put (some 16) (.int .i64 1), s.2)) = true := by kernel_rfl
theorem f_27_2 (n0 n1 : Int) : okB (((toF Tryd.prog Ex 9000 Tryd.f7 0 0 1 1 (AAct.enter Tryd.f7.ntmps [.int .i64 n0, .int .i64 n1], M00)).bind fun s => toF Tryd.prog Ex 9000 Tryd.f7 1 2 1 4 (s.1.put (some 13) (.int .i64 27), s.2)).bind fun s => restF Tryd.prog Ex 9000 Tryd.f7 1 5 (s.1.put (some 16) (.int .i64 2), s.2)) = true := by kernel_rfl
theorem f_27_3 (n0 n1 : Int) : okB (((toF Tryd.prog Ex 9000 Tryd.f7 0 0 1 1 (AAct.enter Tryd.f7.ntmps [.int .i64 n0, .int .i64 n1], M00)).bind fun s => toF Tryd.prog Ex 9000 Tryd.f7 1 2 1 4 (s.1.put (some 13) (.int .i64 27), s.2)).bind fun s => restF Tryd.prog Ex 9000 Tryd.f7 1 5 (s.1.put (some 16) (.int .i64 3), s.2)) = true := by kernel_rfl
theorem f_27_4 (n0 n1 : Int) : okB (((toF Tryd.prog Ex 9000 Tryd.f7 0 0 1 1 (AAct.enter Tryd.f7.ntmps [.int .i64 n0, .int .i64 n1], M00)).bind fun s => toF Tryd.prog Ex 9000 Tryd.f7 1 2 1 4 (s.1.put (some 13) (.int .i64 27), s.2)).bind fun s => restF Tryd.prog Ex 9000 Tryd.f7 1 5 (s.1.put (some 16) (.int .i64 4), s.2)) = true := by kernel_rfl
theorem f_27_5 (n0 n1 : Int) : okB (((toF Tryd.prog Ex 9000 Tryd.f7 0 0 1 1 (AAct.enter Tryd.f7.ntmps [.int .i64 n0, .int .i64 n1], M00)).bind fun s => toF Tryd.prog Ex 9000 Tryd.f7 1 2 1 4 (s.1.put (some 13) (.int .i64 27), s.2)).bind fun s => restF Tryd.prog Ex 9000 Tryd.f7 1 5 (s.1.put (some 16) (.int .i64 5), s.2)) = true := by kernel_rfl
theorem f_27_6 (n0 n1 : Int) : okB (((toF Tryd.prog Ex 9000 Tryd.f7 0 0 1 1 (AAct.enter Tryd.f7.ntmps [.int .i64 n0, .int .i64 n1], M00)).bind fun s => toF Tryd.prog Ex 9000 Tryd.f7 1 2 1 4 (s.1.put (some 13) (.int .i64 27), s.2)).bind fun s => restF Tryd.prog Ex 9000 Tryd.f7 1 5 (s.1.put (some 16) (.int .i64 6), s.2)) = true := by kernel_rfl
theorem f_27_7 (n0 n1 : Int) : okB (((toF Tryd.prog Ex 9000 Tryd.f7 0 0 1 1 (AAct.enter Tryd.f7.ntmps [.int .i64 n0, .int .i64 n1], M00)).bind fun s => toF Tryd.prog Ex 9000 Tryd.f7 1 2 1 4 (s.1.put (some 13) (.int .i64 27), s.2)).bind fun s => restF Tryd.prog Ex 9000 Tryd.f7 1 5 (s.1.put (some 16) (.int .i64 7), s.2)) = true := by kernel_rfl
theorem g_27 (n0 n1 : Int) (s1 : AAct × Store) (h1 : toF Tryd.prog Ex 9000 Tryd.f7 0 0 1 1 (AAct.enter Tryd.f7.ntmps [.int .i64 n0, .int .i64 n1], M00) = some s1) : okB (restF Tryd.prog Ex 9000 Tryd.f7 1 2 (s1.1.put (some 13) (.int .i64 27), s1.2)) = true := by
  have h := e_27 n0 n1
  rw [h1, Option.bind_some] at h
  obtain ⟨s2, h2, x2⟩ := Option.map_eq_some_iff.1 h
  rw [rest_rem (m := 8) (d := 16) (x := .tmp 15) (by decide) (by kernel_rfl) (by decide) h2 x2]
  obtain ⟨y, hy, vy⟩ := bits_rem n1 255 8 (by decide) (by decide)
  rw [vy]
  have all : ∀ y : Nat, y < 8 → okB (((toF Tryd.prog Ex 9000 Tryd.f7 0 0 1 1 (AAct.enter Tryd.f7.ntmps [.int .i64 n0, .int .i64 n1], M00)).bind fun s => toF Tryd.prog Ex 9000 Tryd.f7 1 2 1 4 (s.1.put (some 13) (.int .i64 27), s.2)).bind fun s => restF Tryd.prog Ex 9000 Tryd.f7 1 5 (s.1.put (some 16) (.int .i64 y), s.2)) = true := by
    intro y hy
    rcases (show y = 0 ∨ y = 1 ∨ y = 2 ∨ y = 3 ∨ y = 4 ∨ y = 5 ∨ y = 6 ∨ y = 7 by omega) with rfl | rfl | rfl | rfl | rfl | rfl | rfl | rfl
    · exact f_27_0 n0 n1
    · exact f_27_1 n0 n1
    · exact f_27_2 n0 n1
    · exact f_27_3 n0 n1
    · exact f_27_4 n0 n1
    · exact f_27_5 n0 n1
    · exact f_27_6 n0 n1
    · exact f_27_7 n0 n1
  have h3 := all y hy
  rw [h1, Option.bind_some, h2, Option.bind_some] at h3
  exact h3
theorem e_35 (n0 n1 : Int) : ((toF Tryd.prog Ex 9000 Tryd.f7 0 0 1 1 (AAct.enter Tryd.f7.ntmps [.int .i64 n0, .int .i64 n1], M00)).bind fun s => toF Tryd.prog Ex 9000 Tryd.f7 1 2 1 4 (s.1.put (some 13) (.int .i64 35), s.2)).map (fun s => s.1.eval (.tmp 15)) = some (.int .i64 (Go.Ab.bits n1 255)) := by kernel_rfl
theorem f_35_0 (n0 n1 : Int) : okB (((toF Tryd.prog Ex 9000 Tryd.f7 0 0 1 1 (AAct.enter Tryd.f7.ntmps [.int .i64 n0, .int .i64 n1], M00)).bind fun s => toF Tryd.prog Ex 9000 Tryd.f7 1 2 1 4 (s.1.put (some 13) (.int .i64 35), s.2)).bind fun s => restF Tryd.prog Ex 9000 Tryd.f7 1 5 (s.1.put (some 16) (.int .i64 0), s.2)) = true := by kernel_rfl
theorem f_35_1 (n0 n1 : Int) : okB (((toF Tryd.prog Ex 9000 Tryd.f7 0 0 1 1 (AAct.enter Tryd.f7.ntmps [.int .i64 n0, .int .i64 n1], M00)).bind fun s => toF Tryd.prog Ex 9000 Tryd.f7 1 2 1 4 (s.1.put (some 13) (.int .i64 35), s.2)).bind fun s => restF Tryd.prog Ex 9000 Tryd.f7 1 5 (s.1.put (some 16) (.int .i64 1), s.2)) = true := by kernel_rfl
theorem f_35_2 (n0 n1 : Int) : okB (((toF Tryd.prog Ex 9000 Tryd.f7 0 0 1 1 (AAct.enter Tryd.f7.ntmps [.int .i64 n0, .int .i64 n1], M00)).bind fun s => toF Tryd.prog Ex 9000 Tryd.f7 1 2 1 4 (s.1.put (some 13) (.int .i64 35), s.2)).bind fun s => restF Tryd.prog Ex 9000 Tryd.f7 1 5 (s.1.put (some 16) (.int .i64 2), s.2)) = true := by kernel_rfl
theorem f_35_3 (n0 n1 : Int) : okB (((toF Tryd.prog Ex 9000 Tryd.f7 0 0 1 1 (AAct.enter Tryd.f7.ntmps [.int .i64 n0, .int .i64 n1], M00)).bind fun s => toF Tryd.prog Ex 9000 Tryd.f7 1 2 1 4 (s.1.put (some 13) (.int .i64 35), s.2)).bind fun s => restF Tryd.prog Ex 9000 Tryd.f7 1 5 (s.1.put (some 16) (.int .i64 3), s.2)) = true := by kernel_rfl
theorem f_35_4 (n0 n1 : Int) : okB (((toF Tryd.prog Ex 9000 Tryd.f7 0 0 1 1 (AAct.enter Tryd.f7.ntmps [.int .i64 n0, .int .i64 n1], M00)).bind fun s => toF Tryd.prog Ex 9000 Tryd.f7 1 2 1 4 (s.1.put (some 13) (.int .i64 35), s.2)).bind fun s => restF Tryd.prog Ex 9000 Tryd.f7 1 5 (s.1.put (some 16) (.int .i64 4), s.2)) = true := by kernel_rfl
theorem f_35_5 (n0 n1 : Int) : okB (((toF Tryd.prog Ex 9000 Tryd.f7 0 0 1 1 (AAct.enter Tryd.f7.ntmps [.int .i64 n0, .int .i64 n1], M00)).bind fun s => toF Tryd.prog Ex 9000 Tryd.f7 1 2 1 4 (s.1.put (some 13) (.int .i64 35), s.2)).bind fun s => restF Tryd.prog Ex 9000 Tryd.f7 1 5 (s.1.put (some 16) (.int .i64 5), s.2)) = true := by kernel_rfl
theorem f_35_6 (n0 n1 : Int) : okB (((toF Tryd.prog Ex 9000 Tryd.f7 0 0 1 1 (AAct.enter Tryd.f7.ntmps [.int .i64 n0, .int .i64 n1], M00)).bind fun s => toF Tryd.prog Ex 9000 Tryd.f7 1 2 1 4 (s.1.put (some 13) (.int .i64 35), s.2)).bind fun s => restF Tryd.prog Ex 9000 Tryd.f7 1 5 (s.1.put (some 16) (.int .i64 6), s.2)) = true := by kernel_rfl
theorem f_35_7 (n0 n1 : Int) : okB (((toF Tryd.prog Ex 9000 Tryd.f7 0 0 1 1 (AAct.enter Tryd.f7.ntmps [.int .i64 n0, .int .i64 n1], M00)).bind fun s => toF Tryd.prog Ex 9000 Tryd.f7 1 2 1 4 (s.1.put (some 13) (.int .i64 35), s.2)).bind fun s => restF Tryd.prog Ex 9000 Tryd.f7 1 5 (s.1.put (some 16) (.int .i64 7), s.2)) = true := by kernel_rfl
theorem g_35 (n0 n1 : Int) (s1 : AAct × Store) (h1 : toF Tryd.prog Ex 9000 Tryd.f7 0 0 1 1 (AAct.enter Tryd.f7.ntmps [.int .i64 n0, .int .i64 n1], M00) = some s1) : okB (restF Tryd.prog Ex 9000 Tryd.f7 1 2 (s1.1.put (some 13) (.int .i64 35), s1.2)) = true := by
  have h := e_35 n0 n1
  rw [h1, Option.bind_some] at h
  obtain ⟨s2, h2, x2⟩ := Option.map_eq_some_iff.1 h
  rw [rest_rem (m := 8) (d := 16) (x := .tmp 15) (by decide) (by kernel_rfl) (by decide) h2 x2]
  obtain ⟨y, hy, vy⟩ := bits_rem n1 255 8 (by decide) (by decide)
  rw [vy]
  have all : ∀ y : Nat, y < 8 → okB (((toF Tryd.prog Ex 9000 Tryd.f7 0 0 1 1 (AAct.enter Tryd.f7.ntmps [.int .i64 n0, .int .i64 n1], M00)).bind fun s => toF Tryd.prog Ex 9000 Tryd.f7 1 2 1 4 (s.1.put (some 13) (.int .i64 35), s.2)).bind fun s => restF Tryd.prog Ex 9000 Tryd.f7 1 5 (s.1.put (some 16) (.int .i64 y), s.2)) = true := by
    intro y hy
    rcases (show y = 0 ∨ y = 1 ∨ y = 2 ∨ y = 3 ∨ y = 4 ∨ y = 5 ∨ y = 6 ∨ y = 7 by omega) with rfl | rfl | rfl | rfl | rfl | rfl | rfl | rfl
    · exact f_35_0 n0 n1
    · exact f_35_1 n0 n1
    · exact f_35_2 n0 n1
    · exact f_35_3 n0 n1
    · exact f_35_4 n0 n1
    · exact f_35_5 n0 n1
    · exact f_35_6 n0 n1
    · exact f_35_7 n0 n1
  have h3 := all y hy
  rw [h1, Option.bind_some, h2, Option.bind_some] at h3
  exact h3
theorem e_43 (n0 n1 : Int) : ((toF Tryd.prog Ex 9000 Tryd.f7 0 0 1 1 (AAct.enter Tryd.f7.ntmps [.int .i64 n0, .int .i64 n1], M00)).bind fun s => toF Tryd.prog Ex 9000 Tryd.f7 1 2 1 4 (s.1.put (some 13) (.int .i64 43), s.2)).map (fun s => s.1.eval (.tmp 15)) = some (.int .i64 (Go.Ab.bits n1 255)) := by kernel_rfl
theorem f_43_0 (n0 n1 : Int) : okB (((toF Tryd.prog Ex 9000 Tryd.f7 0 0 1 1 (AAct.enter Tryd.f7.ntmps [.int .i64 n0, .int .i64 n1], M00)).bind fun s => toF Tryd.prog Ex 9000 Tryd.f7 1 2 1 4 (s.1.put (some 13) (.int .i64 43), s.2)).bind fun s => restF Tryd.prog Ex 9000 Tryd.f7 1 5 (s.1.put (some 16) (.int .i64 0), s.2)) = true := by kernel_rfl
theorem f_43_1 (n0 n1 : Int) : okB (((toF Tryd.prog Ex 9000 Tryd.f7 0 0 1 1 (AAct.enter Tryd.f7.ntmps [.int .i64 n0, .int .i64 n1], M00)).bind fun s => toF Tryd.prog Ex 9000 Tryd.f7 1 2 1 4 (s.1.put (some 13) (.int .i64 43), s.2)).bind fun s => restF Tryd.prog Ex 9000 Tryd.f7 1 5 (s.1.put (some 16) (.int .i64 1), s.2)) = true := by kernel_rfl
theorem f_43_2 (n0 n1 : Int) : okB (((toF Tryd.prog Ex 9000 Tryd.f7 0 0 1 1 (AAct.enter Tryd.f7.ntmps [.int .i64 n0, .int .i64 n1], M00)).bind fun s => toF Tryd.prog Ex 9000 Tryd.f7 1 2 1 4 (s.1.put (some 13) (.int .i64 43), s.2)).bind fun s => restF Tryd.prog Ex 9000 Tryd.f7 1 5 (s.1.put (some 16) (.int .i64 2), s.2)) = true := by kernel_rfl
theorem f_43_3 (n0 n1 : Int) : okB (((toF Tryd.prog Ex 9000 Tryd.f7 0 0 1 1 (AAct.enter Tryd.f7.ntmps [.int .i64 n0, .int .i64 n1], M00)).bind fun s => toF Tryd.prog Ex 9000 Tryd.f7 1 2 1 4 (s.1.put (some 13) (.int .i64 43), s.2)).bind fun s => restF Tryd.prog Ex 9000 Tryd.f7 1 5 (s.1.put (some 16) (.int .i64 3), s.2)) = true := by kernel_rfl
theorem f_43_4 (n0 n1 : Int) : okB (((toF Tryd.prog Ex 9000 Tryd.f7 0 0 1 1 (AAct.enter Tryd.f7.ntmps [.int .i64 n0, .int .i64 n1], M00)).bind fun s => toF Tryd.prog Ex 9000 Tryd.f7 1 2 1 4 (s.1.put (some 13) (.int .i64 43), s.2)).bind fun s => restF Tryd.prog Ex 9000 Tryd.f7 1 5 (s.1.put (some 16) (.int .i64 4), s.2)) = true := by kernel_rfl
theorem f_43_5 (n0 n1 : Int) : okB (((toF Tryd.prog Ex 9000 Tryd.f7 0 0 1 1 (AAct.enter Tryd.f7.ntmps [.int .i64 n0, .int .i64 n1], M00)).bind fun s => toF Tryd.prog Ex 9000 Tryd.f7 1 2 1 4 (s.1.put (some 13) (.int .i64 43), s.2)).bind fun s => restF Tryd.prog Ex 9000 Tryd.f7 1 5 (s.1.put (some 16) (.int .i64 5), s.2)) = true := by kernel_rfl
theorem f_43_6 (n0 n1 : Int) : okB (((toF Tryd.prog Ex 9000 Tryd.f7 0 0 1 1 (AAct.enter Tryd.f7.ntmps [.int .i64 n0, .int .i64 n1], M00)).bind fun s => toF Tryd.prog Ex 9000 Tryd.f7 1 2 1 4 (s.1.put (some 13) (.int .i64 43), s.2)).bind fun s => restF Tryd.prog Ex 9000 Tryd.f7 1 5 (s.1.put (some 16) (.int .i64 6), s.2)) = true := by kernel_rfl
theorem f_43_7 (n0 n1 : Int) : okB (((toF Tryd.prog Ex 9000 Tryd.f7 0 0 1 1 (AAct.enter Tryd.f7.ntmps [.int .i64 n0, .int .i64 n1], M00)).bind fun s => toF Tryd.prog Ex 9000 Tryd.f7 1 2 1 4 (s.1.put (some 13) (.int .i64 43), s.2)).bind fun s => restF Tryd.prog Ex 9000 Tryd.f7 1 5 (s.1.put (some 16) (.int .i64 7), s.2)) = true := by kernel_rfl
theorem g_43 (n0 n1 : Int) (s1 : AAct × Store) (h1 : toF Tryd.prog Ex 9000 Tryd.f7 0 0 1 1 (AAct.enter Tryd.f7.ntmps [.int .i64 n0, .int .i64 n1], M00) = some s1) : okB (restF Tryd.prog Ex 9000 Tryd.f7 1 2 (s1.1.put (some 13) (.int .i64 43), s1.2)) = true := by
  have h := e_43 n0 n1
  rw [h1, Option.bind_some] at h
  obtain ⟨s2, h2, x2⟩ := Option.map_eq_some_iff.1 h
  rw [rest_rem (m := 8) (d := 16) (x := .tmp 15) (by decide) (by kernel_rfl) (by decide) h2 x2]
  obtain ⟨y, hy, vy⟩ := bits_rem n1 255 8 (by decide) (by decide)
  rw [vy]
  have all : ∀ y : Nat, y < 8 → okB (((toF Tryd.prog Ex 9000 Tryd.f7 0 0 1 1 (AAct.enter Tryd.f7.ntmps [.int .i64 n0, .int .i64 n1], M00)).bind fun s => toF Tryd.prog Ex 9000 Tryd.f7 1 2 1 4 (s.1.put (some 13) (.int .i64 43), s.2)).bind fun s => restF Tryd.prog Ex 9000 Tryd.f7 1 5 (s.1.put (some 16) (.int .i64 y), s.2)) = true := by
    intro y hy
    rcases (show y = 0 ∨ y = 1 ∨ y = 2 ∨ y = 3 ∨ y = 4 ∨ y = 5 ∨ y = 6 ∨ y = 7 by omega) with rfl | rfl | rfl | rfl | rfl | rfl | rfl | rfl
    · exact f_43_0 n0 n1
    · exact f_43_1 n0 n1
    · exact f_43_2 n0 n1
    · exact f_43_3 n0 n1
    · exact f_43_4 n0 n1
    · exact f_43_5 n0 n1
    · exact f_43_6 n0 n1
    · exact f_43_7 n0 n1
  have h3 := all y hy
  rw [h1, Option.bind_some, h2, Option.bind_some] at h3
  exact h3
theorem e_51 (n0 n1 : Int) : ((toF Tryd.prog Ex 9000 Tryd.f7 0 0 1 1 (AAct.enter Tryd.f7.ntmps [.int .i64 n0, .int .i64 n1], M00)).bind fun s => toF Tryd.prog Ex 9000 Tryd.f7 1 2 1 4 (s.1.put (some 13) (.int .i64 51), s.2)).map (fun s => s.1.eval (.tmp 15)) = some (.int .i64 (Go.Ab.bits n1 255)) := by kernel_rfl
theorem f_51_0 (n0 n1 : Int) : okB (((toF Tryd.prog Ex 9000 Tryd.f7 0 0 1 1 (AAct.enter Tryd.f7.ntmps [.int .i64 n0, .int .i64 n1], M00)).bind fun s => toF Tryd.prog Ex 9000 Tryd.f7 1 2 1 4 (s.1.put (some 13) (.int .i64 51), s.2)).bind fun s => restF Tryd.prog Ex 9000 Tryd.f7 1 5 (s.1.put (some 16) (.int .i64 0), s.2)) = true := by kernel_rfl
theorem f_51_1 (n0 n1 : Int) : okB (((toF Tryd.prog Ex 9000 Tryd.f7 0 0 1 1 (AAct.enter Tryd.f7.ntmps [.int .i64 n0, .int .i64 n1], M00)).bind fun s => toF Tryd.prog Ex 9000 Tryd.f7 1 2 1 4 (s.1.put (some 13) (.int .i64 51), s.2)).bind fun s => restF Tryd.prog Ex 9000 Tryd.f7 1 5 (s.1.put (some 16) (.int .i64 1), s.2)) = true := by kernel_rfl
theorem f_51_2 (n0 n1 : Int) : okB (((toF Tryd.prog Ex 9000 Tryd.f7 0 0 1 1 (AAct.enter Tryd.f7.ntmps [.int .i64 n0, .int .i64 n1], M00)).bind fun s => toF Tryd.prog Ex 9000 Tryd.f7 1 2 1 4 (s.1.put (some 13) (.int .i64 51), s.2)).bind fun s => restF Tryd.prog Ex 9000 Tryd.f7 1 5 (s.1.put (some 16) (.int .i64 2), s.2)) = true := by kernel_rfl
theorem f_51_3 (n0 n1 : Int) : okB (((toF Tryd.prog Ex 9000 Tryd.f7 0 0 1 1 (AAct.enter Tryd.f7.ntmps [.int .i64 n0, .int .i64 n1], M00)).bind fun s => toF Tryd.prog Ex 9000 Tryd.f7 1 2 1 4 (s.1.put (some 13) (.int .i64 51), s.2)).bind fun s => restF Tryd.prog Ex 9000 Tryd.f7 1 5 (s.1.put (some 16) (.int .i64 3), s.2)) = true := by kernel_rfl
theorem f_51_4 (n0 n1 : Int) : okB (((toF Tryd.prog Ex 9000 Tryd.f7 0 0 1 1 (AAct.enter Tryd.f7.ntmps [.int .i64 n0, .int .i64 n1], M00)).bind fun s => toF Tryd.prog Ex 9000 Tryd.f7 1 2 1 4 (s.1.put (some 13) (.int .i64 51), s.2)).bind fun s => restF Tryd.prog Ex 9000 Tryd.f7 1 5 (s.1.put (some 16) (.int .i64 4), s.2)) = true := by kernel_rfl
theorem f_51_5 (n0 n1 : Int) : okB (((toF Tryd.prog Ex 9000 Tryd.f7 0 0 1 1 (AAct.enter Tryd.f7.ntmps [.int .i64 n0, .int .i64 n1], M00)).bind fun s => toF Tryd.prog Ex 9000 Tryd.f7 1 2 1 4 (s.1.put (some 13) (.int .i64 51), s.2)).bind fun s => restF Tryd.prog Ex 9000 Tryd.f7 1 5 (s.1.put (some 16) (.int .i64 5), s.2)) = true := by kernel_rfl
theorem f_51_6 (n0 n1 : Int) : okB (((toF Tryd.prog Ex 9000 Tryd.f7 0 0 1 1 (AAct.enter Tryd.f7.ntmps [.int .i64 n0, .int .i64 n1], M00)).bind fun s => toF Tryd.prog Ex 9000 Tryd.f7 1 2 1 4 (s.1.put (some 13) (.int .i64 51), s.2)).bind fun s => restF Tryd.prog Ex 9000 Tryd.f7 1 5 (s.1.put (some 16) (.int .i64 6), s.2)) = true := by kernel_rfl
theorem f_51_7 (n0 n1 : Int) : okB (((toF Tryd.prog Ex 9000 Tryd.f7 0 0 1 1 (AAct.enter Tryd.f7.ntmps [.int .i64 n0, .int .i64 n1], M00)).bind fun s => toF Tryd.prog Ex 9000 Tryd.f7 1 2 1 4 (s.1.put (some 13) (.int .i64 51), s.2)).bind fun s => restF Tryd.prog Ex 9000 Tryd.f7 1 5 (s.1.put (some 16) (.int .i64 7), s.2)) = true := by kernel_rfl
theorem g_51 (n0 n1 : Int) (s1 : AAct × Store) (h1 : toF Tryd.prog Ex 9000 Tryd.f7 0 0 1 1 (AAct.enter Tryd.f7.ntmps [.int .i64 n0, .int .i64 n1], M00) = some s1) : okB (restF Tryd.prog Ex 9000 Tryd.f7 1 2 (s1.1.put (some 13) (.int .i64 51), s1.2)) = true := by
  have h := e_51 n0 n1
  rw [h1, Option.bind_some] at h
  obtain ⟨s2, h2, x2⟩ := Option.map_eq_some_iff.1 h
  rw [rest_rem (m := 8) (d := 16) (x := .tmp 15) (by decide) (by kernel_rfl) (by decide) h2 x2]
  obtain ⟨y, hy, vy⟩ := bits_rem n1 255 8 (by decide) (by decide)
  rw [vy]
  have all : ∀ y : Nat, y < 8 → okB (((toF Tryd.prog Ex 9000 Tryd.f7 0 0 1 1 (AAct.enter Tryd.f7.ntmps [.int .i64 n0, .int .i64 n1], M00)).bind fun s => toF Tryd.prog Ex 9000 Tryd.f7 1 2 1 4 (s.1.put (some 13) (.int .i64 51), s.2)).bind fun s => restF Tryd.prog Ex 9000 Tryd.f7 1 5 (s.1.put (some 16) (.int .i64 y), s.2)) = true := by
    intro y hy
    rcases (show y = 0 ∨ y = 1 ∨ y = 2 ∨ y = 3 ∨ y = 4 ∨ y = 5 ∨ y = 6 ∨ y = 7 by omega) with rfl | rfl | rfl | rfl | rfl | rfl | rfl | rfl
    · exact f_51_0 n0 n1
    · exact f_51_1 n0 n1
    · exact f_51_2 n0 n1
    · exact f_51_3 n0 n1
    · exact f_51_4 n0 n1
    · exact f_51_5 n0 n1
    · exact f_51_6 n0 n1
    · exact f_51_7 n0 n1
  have h3 := all y hy
  rw [h1, Option.bind_some, h2, Option.bind_some] at h3
  exact h3
theorem e_59 (n0 n1 : Int) : ((toF Tryd.prog Ex 9000 Tryd.f7 0 0 1 1 (AAct.enter Tryd.f7.ntmps [.int .i64 n0, .int .i64 n1], M00)).bind fun s => toF Tryd.prog Ex 9000 Tryd.f7 1 2 1 4 (s.1.put (some 13) (.int .i64 59), s.2)).map (fun s => s.1.eval (.tmp 15)) = some (.int .i64 (Go.Ab.bits n1 255)) := by kernel_rfl
theorem f_59_0 (n0 n1 : Int) : okB (((toF Tryd.prog Ex 9000 Tryd.f7 0 0 1 1 (AAct.enter Tryd.f7.ntmps [.int .i64 n0, .int .i64 n1], M00)).bind fun s => toF Tryd.prog Ex 9000 Tryd.f7 1 2 1 4 (s.1.put (some 13) (.int .i64 59), s.2)).bind fun s => restF Tryd.prog Ex 9000 Tryd.f7 1 5 (s.1.put (some 16) (.int .i64 0), s.2)) = true := by kernel_rfl
theorem f_59_1 (n0 n1 : Int) : okB (((toF Tryd.prog Ex 9000 Tryd.f7 0 0 1 1 (AAct.enter Tryd.f7.ntmps [.int .i64 n0, .int .i64 n1], M00)).bind fun s => toF Tryd.prog Ex 9000 Tryd.f7 1 2 1 4 (s.1.put (some 13) (.int .i64 59), s.2)).bind fun s => restF Tryd.prog Ex 9000 Tryd.f7 1 5 (s.1.put (some 16) (.int .i64 1), s.2)) = true := by kernel_rfl
theorem f_59_2 (n0 n1 : Int) : okB (((toF Tryd.prog Ex 9000 Tryd.f7 0 0 1 1 (AAct.enter Tryd.f7.ntmps [.int .i64 n0, .int .i64 n1], M00)).bind fun s => toF Tryd.prog Ex 9000 Tryd.f7 1 2 1 4 (s.1.put (some 13) (.int .i64 59), s.2)).bind fun s => restF Tryd.prog Ex 9000 Tryd.f7 1 5 (s.1.put (some 16) (.int .i64 2), s.2)) = true := by kernel_rfl
theorem f_59_3 (n0 n1 : Int) : okB (((toF Tryd.prog Ex 9000 Tryd.f7 0 0 1 1 (AAct.enter Tryd.f7.ntmps [.int .i64 n0, .int .i64 n1], M00)).bind fun s => toF Tryd.prog Ex 9000 Tryd.f7 1 2 1 4 (s.1.put (some 13) (.int .i64 59), s.2)).bind fun s => restF Tryd.prog Ex 9000 Tryd.f7 1 5 (s.1.put (some 16) (.int .i64 3), s.2)) = true := by kernel_rfl
theorem f_59_4 (n0 n1 : Int) : okB (((toF Tryd.prog Ex 9000 Tryd.f7 0 0 1 1 (AAct.enter Tryd.f7.ntmps [.int .i64 n0, .int .i64 n1], M00)).bind fun s => toF Tryd.prog Ex 9000 Tryd.f7 1 2 1 4 (s.1.put (some 13) (.int .i64 59), s.2)).bind fun s => restF Tryd.prog Ex 9000 Tryd.f7 1 5 (s.1.put (some 16) (.int .i64 4), s.2)) = true := by kernel_rfl
theorem f_59_5 (n0 n1 : Int) : okB (((toF Tryd.prog Ex 9000 Tryd.f7 0 0 1 1 (AAct.enter Tryd.f7.ntmps [.int .i64 n0, .int .i64 n1], M00)).bind fun s => toF Tryd.prog Ex 9000 Tryd.f7 1 2 1 4 (s.1.put (some 13) (.int .i64 59), s.2)).bind fun s => restF Tryd.prog Ex 9000 Tryd.f7 1 5 (s.1.put (some 16) (.int .i64 5), s.2)) = true := by kernel_rfl
theorem f_59_6 (n0 n1 : Int) : okB (((toF Tryd.prog Ex 9000 Tryd.f7 0 0 1 1 (AAct.enter Tryd.f7.ntmps [.int .i64 n0, .int .i64 n1], M00)).bind fun s => toF Tryd.prog Ex 9000 Tryd.f7 1 2 1 4 (s.1.put (some 13) (.int .i64 59), s.2)).bind fun s => restF Tryd.prog Ex 9000 Tryd.f7 1 5 (s.1.put (some 16) (.int .i64 6), s.2)) = true := by kernel_rfl
theorem f_59_7 (n0 n1 : Int) : okB (((toF Tryd.prog Ex 9000 Tryd.f7 0 0 1 1 (AAct.enter Tryd.f7.ntmps [.int .i64 n0, .int .i64 n1], M00)).bind fun s => toF Tryd.prog Ex 9000 Tryd.f7 1 2 1 4 (s.1.put (some 13) (.int .i64 59), s.2)).bind fun s => restF Tryd.prog Ex 9000 Tryd.f7 1 5 (s.1.put (some 16) (.int .i64 7), s.2)) = true := by kernel_rfl
theorem g_59 (n0 n1 : Int) (s1 : AAct × Store) (h1 : toF Tryd.prog Ex 9000 Tryd.f7 0 0 1 1 (AAct.enter Tryd.f7.ntmps [.int .i64 n0, .int .i64 n1], M00) = some s1) : okB (restF Tryd.prog Ex 9000 Tryd.f7 1 2 (s1.1.put (some 13) (.int .i64 59), s1.2)) = true := by
  have h := e_59 n0 n1
  rw [h1, Option.bind_some] at h
  obtain ⟨s2, h2, x2⟩ := Option.map_eq_some_iff.1 h
  rw [rest_rem (m := 8) (d := 16) (x := .tmp 15) (by decide) (by kernel_rfl) (by decide) h2 x2]
  obtain ⟨y, hy, vy⟩ := bits_rem n1 255 8 (by decide) (by decide)
  rw [vy]
  have all : ∀ y : Nat, y < 8 → okB (((toF Tryd.prog Ex 9000 Tryd.f7 0 0 1 1 (AAct.enter Tryd.f7.ntmps [.int .i64 n0, .int .i64 n1], M00)).bind fun s => toF Tryd.prog Ex 9000 Tryd.f7 1 2 1 4 (s.1.put (some 13) (.int .i64 59), s.2)).bind fun s => restF Tryd.prog Ex 9000 Tryd.f7 1 5 (s.1.put (some 16) (.int .i64 y), s.2)) = true := by
    intro y hy
    rcases (show y = 0 ∨ y = 1 ∨ y = 2 ∨ y = 3 ∨ y = 4 ∨ y = 5 ∨ y = 6 ∨ y = 7 by omega) with rfl | rfl | rfl | rfl | rfl | rfl | rfl | rfl
    · exact f_59_0 n0 n1
    · exact f_59_1 n0 n1
    · exact f_59_2 n0 n1
    · exact f_59_3 n0 n1
    · exact f_59_4 n0 n1
    · exact f_59_5 n0 n1
    · exact f_59_6 n0 n1
    · exact f_59_7 n0 n1
  have h3 := all y hy
  rw [h1, Option.bind_some, h2, Option.bind_some] at h3
  exact h3
end actsGrow
end Go.G
