/- SweeList: its runs, part 2. -/
import Derived.Test.YtjchjhkhopcalaaGreatDoorPAW
import Derived.Test.YtjchjhkhopcalaaGreatDoorPAbFin
namespace Go.G
open Go.Ab Go.Proofs Go.RowKit
set_option linter.unusedVariables false
set_option maxRecDepth 100000
namespace sweeList
theorem e_2 (n0 n1 : Int) : ((toF Tryz.prog Ex 9000 Tryz.f3 0 0 4 1 (AAct.enter Tryz.f3.ntmps [.int .i64 n0, .int .i64 n1], M00)).bind fun s => toF Tryz.prog Ex 9000 Tryz.f3 4 2 4 3 (s.1.put (some 14) (.int .i64 2), s.2)).map (fun s => s.1.eval (.tmp 15)) = some (.int .i64 n1) := by kernel_rfl
theorem jx (n0 n1 : Int) : okB (((toF Tryz.prog Ex 9000 Tryz.f3 0 0 4 1 (AAct.enter Tryz.f3.ntmps [.int .i64 n0, .int .i64 n1], M00)).bind fun s => toF Tryz.prog Ex 9000 Tryz.f3 4 2 4 3 (s.1.put (some 14) (.int .i64 2), s.2)).bind fun s => ad Tryz.prog Ex 9000 Tryz.f3 4 4 (s.1.put (some 16) (.int .i64 0), s.2)) = true := by kernel_rfl
theorem jy (n0 n1 : Int) : okB (((toF Tryz.prog Ex 9000 Tryz.f3 0 0 4 1 (AAct.enter Tryz.f3.ntmps [.int .i64 n0, .int .i64 n1], M00)).bind fun s => toF Tryz.prog Ex 9000 Tryz.f3 4 2 4 3 (s.1.put (some 14) (.int .i64 2), s.2)).bind fun s => ad Tryz.prog Ex 9000 Tryz.f3 4 4 (s.1.put (some 16) (.int .i64 1), s.2)) = true := by kernel_rfl
theorem jz (n0 n1 : Int) : okB (((toF Tryz.prog Ex 9000 Tryz.f3 0 0 4 1 (AAct.enter Tryz.f3.ntmps [.int .i64 n0, .int .i64 n1], M00)).bind fun s => toF Tryz.prog Ex 9000 Tryz.f3 4 2 4 3 (s.1.put (some 14) (.int .i64 2), s.2)).bind fun s => ad Tryz.prog Ex 9000 Tryz.f3 4 4 (s.1.put (some 16) (.int .i64 2), s.2)) = true := by kernel_rfl
theorem jA (n0 n1 : Int) : okB (((toF Tryz.prog Ex 9000 Tryz.f3 0 0 4 1 (AAct.enter Tryz.f3.ntmps [.int .i64 n0, .int .i64 n1], M00)).bind fun s => toF Tryz.prog Ex 9000 Tryz.f3 4 2 4 3 (s.1.put (some 14) (.int .i64 2), s.2)).bind fun s => ad Tryz.prog Ex 9000 Tryz.f3 4 4 (s.1.put (some 16) (.int .i64 3), s.2)) = true := by kernel_rfl
theorem jB (n0 n1 : Int) : okB (((toF Tryz.prog Ex 9000 Tryz.f3 0 0 4 1 (AAct.enter Tryz.f3.ntmps [.int .i64 n0, .int .i64 n1], M00)).bind fun s => toF Tryz.prog Ex 9000 Tryz.f3 4 2 4 3 (s.1.put (some 14) (.int .i64 2), s.2)).bind fun s => ad Tryz.prog Ex 9000 Tryz.f3 4 4 (s.1.put (some 16) (.int .i64 4), s.2)) = true := by kernel_rfl
theorem jC (n0 n1 : Int) : okB (((toF Tryz.prog Ex 9000 Tryz.f3 0 0 4 1 (AAct.enter Tryz.f3.ntmps [.int .i64 n0, .int .i64 n1], M00)).bind fun s => toF Tryz.prog Ex 9000 Tryz.f3 4 2 4 3 (s.1.put (some 14) (.int .i64 2), s.2)).bind fun s => ad Tryz.prog Ex 9000 Tryz.f3 4 4 (s.1.put (some 16) (.int .i64 5), s.2)) = true := by kernel_rfl
theorem jD (n0 n1 : Int) : okB (((toF Tryz.prog Ex 9000 Tryz.f3 0 0 4 1 (AAct.enter Tryz.f3.ntmps [.int .i64 n0, .int .i64 n1], M00)).bind fun s => toF Tryz.prog Ex 9000 Tryz.f3 4 2 4 3 (s.1.put (some 14) (.int .i64 2), s.2)).bind fun s => ad Tryz.prog Ex 9000 Tryz.f3 4 4 (s.1.put (some 16) (.int .i64 6), s.2)) = true := by kernel_rfl
theorem jE (n0 n1 : Int) : okB (((toF Tryz.prog Ex 9000 Tryz.f3 0 0 4 1 (AAct.enter Tryz.f3.ntmps [.int .i64 n0, .int .i64 n1], M00)).bind fun s => toF Tryz.prog Ex 9000 Tryz.f3 4 2 4 3 (s.1.put (some 14) (.int .i64 2), s.2)).bind fun s => ad Tryz.prog Ex 9000 Tryz.f3 4 4 (s.1.put (some 16) (.int .i64 7), s.2)) = true := by kernel_rfl
theorem g_2 (n0 n1 : Int) (s1 : AAct × Store) (h1 : toF Tryz.prog Ex 9000 Tryz.f3 0 0 4 1 (AAct.enter Tryz.f3.ntmps [.int .i64 n0, .int .i64 n1], M00) = some s1) : okB (ad Tryz.prog Ex 9000 Tryz.f3 4 2 (s1.1.put (some 14) (.int .i64 2), s1.2)) = true := by
 have h := e_2 n0 n1
 rw [h1, Option.bind_some] at h
 obtain ⟨s2, h2, x2⟩ := Option.map_eq_some_iff.1 h
 rw [aJ (m := 7) (d := 16) (x := .tmp 15) (by decide) (by kernel_rfl) h2 x2]
 obtain ⟨y, hy, vy⟩ := bd n1 7 (by decide)
 rw [vy]
 have all : ∀ y : Nat, y ≤ 7 → okB (((toF Tryz.prog Ex 9000 Tryz.f3 0 0 4 1 (AAct.enter Tryz.f3.ntmps [.int .i64 n0, .int .i64 n1], M00)).bind fun s => toF Tryz.prog Ex 9000 Tryz.f3 4 2 4 3 (s.1.put (some 14) (.int .i64 2), s.2)).bind fun s => ad Tryz.prog Ex 9000 Tryz.f3 4 4 (s.1.put (some 16) (.int .i64 y), s.2)) = true := by
  intro y hy
  rcases (show y = 0 ∨ y = 1 ∨ y = 2 ∨ y = 3 ∨ y = 4 ∨ y = 5 ∨ y = 6 ∨ y = 7 by omega) with rfl | rfl | rfl | rfl | rfl | rfl | rfl | rfl
  ·exact jx n0 n1
  ·exact jy n0 n1
  ·exact jz n0 n1
  ·exact jA n0 n1
  ·exact jB n0 n1
  ·exact jC n0 n1
  ·exact jD n0 n1
  ·exact jE n0 n1
 have h3 := all y hy
 rw [h1, Option.bind_some, h2, Option.bind_some] at h3
 exact h3
theorem e_6 (n0 n1 : Int) : ((toF Tryz.prog Ex 9000 Tryz.f3 0 0 4 1 (AAct.enter Tryz.f3.ntmps [.int .i64 n0, .int .i64 n1], M00)).bind fun s => toF Tryz.prog Ex 9000 Tryz.f3 4 2 4 3 (s.1.put (some 14) (.int .i64 6), s.2)).map (fun s => s.1.eval (.tmp 15)) = some (.int .i64 n1) := by kernel_rfl
theorem j4 (n0 n1 : Int) : okB (((toF Tryz.prog Ex 9000 Tryz.f3 0 0 4 1 (AAct.enter Tryz.f3.ntmps [.int .i64 n0, .int .i64 n1], M00)).bind fun s => toF Tryz.prog Ex 9000 Tryz.f3 4 2 4 3 (s.1.put (some 14) (.int .i64 6), s.2)).bind fun s => ad Tryz.prog Ex 9000 Tryz.f3 4 4 (s.1.put (some 16) (.int .i64 0), s.2)) = true := by kernel_rfl
theorem j5 (n0 n1 : Int) : okB (((toF Tryz.prog Ex 9000 Tryz.f3 0 0 4 1 (AAct.enter Tryz.f3.ntmps [.int .i64 n0, .int .i64 n1], M00)).bind fun s => toF Tryz.prog Ex 9000 Tryz.f3 4 2 4 3 (s.1.put (some 14) (.int .i64 6), s.2)).bind fun s => ad Tryz.prog Ex 9000 Tryz.f3 4 4 (s.1.put (some 16) (.int .i64 1), s.2)) = true := by kernel_rfl
theorem j6 (n0 n1 : Int) : okB (((toF Tryz.prog Ex 9000 Tryz.f3 0 0 4 1 (AAct.enter Tryz.f3.ntmps [.int .i64 n0, .int .i64 n1], M00)).bind fun s => toF Tryz.prog Ex 9000 Tryz.f3 4 2 4 3 (s.1.put (some 14) (.int .i64 6), s.2)).bind fun s => ad Tryz.prog Ex 9000 Tryz.f3 4 4 (s.1.put (some 16) (.int .i64 2), s.2)) = true := by kernel_rfl
theorem j7 (n0 n1 : Int) : okB (((toF Tryz.prog Ex 9000 Tryz.f3 0 0 4 1 (AAct.enter Tryz.f3.ntmps [.int .i64 n0, .int .i64 n1], M00)).bind fun s => toF Tryz.prog Ex 9000 Tryz.f3 4 2 4 3 (s.1.put (some 14) (.int .i64 6), s.2)).bind fun s => ad Tryz.prog Ex 9000 Tryz.f3 4 4 (s.1.put (some 16) (.int .i64 3), s.2)) = true := by kernel_rfl
theorem j8 (n0 n1 : Int) : okB (((toF Tryz.prog Ex 9000 Tryz.f3 0 0 4 1 (AAct.enter Tryz.f3.ntmps [.int .i64 n0, .int .i64 n1], M00)).bind fun s => toF Tryz.prog Ex 9000 Tryz.f3 4 2 4 3 (s.1.put (some 14) (.int .i64 6), s.2)).bind fun s => ad Tryz.prog Ex 9000 Tryz.f3 4 4 (s.1.put (some 16) (.int .i64 4), s.2)) = true := by kernel_rfl
theorem j9 (n0 n1 : Int) : okB (((toF Tryz.prog Ex 9000 Tryz.f3 0 0 4 1 (AAct.enter Tryz.f3.ntmps [.int .i64 n0, .int .i64 n1], M00)).bind fun s => toF Tryz.prog Ex 9000 Tryz.f3 4 2 4 3 (s.1.put (some 14) (.int .i64 6), s.2)).bind fun s => ad Tryz.prog Ex 9000 Tryz.f3 4 4 (s.1.put (some 16) (.int .i64 5), s.2)) = true := by kernel_rfl
theorem ka (n0 n1 : Int) : okB (((toF Tryz.prog Ex 9000 Tryz.f3 0 0 4 1 (AAct.enter Tryz.f3.ntmps [.int .i64 n0, .int .i64 n1], M00)).bind fun s => toF Tryz.prog Ex 9000 Tryz.f3 4 2 4 3 (s.1.put (some 14) (.int .i64 6), s.2)).bind fun s => ad Tryz.prog Ex 9000 Tryz.f3 4 4 (s.1.put (some 16) (.int .i64 6), s.2)) = true := by kernel_rfl
theorem kb (n0 n1 : Int) : okB (((toF Tryz.prog Ex 9000 Tryz.f3 0 0 4 1 (AAct.enter Tryz.f3.ntmps [.int .i64 n0, .int .i64 n1], M00)).bind fun s => toF Tryz.prog Ex 9000 Tryz.f3 4 2 4 3 (s.1.put (some 14) (.int .i64 6), s.2)).bind fun s => ad Tryz.prog Ex 9000 Tryz.f3 4 4 (s.1.put (some 16) (.int .i64 7), s.2)) = true := by kernel_rfl
theorem g_6 (n0 n1 : Int) (s1 : AAct × Store) (h1 : toF Tryz.prog Ex 9000 Tryz.f3 0 0 4 1 (AAct.enter Tryz.f3.ntmps [.int .i64 n0, .int .i64 n1], M00) = some s1) : okB (ad Tryz.prog Ex 9000 Tryz.f3 4 2 (s1.1.put (some 14) (.int .i64 6), s1.2)) = true := by
 have h := e_6 n0 n1
 rw [h1, Option.bind_some] at h
 obtain ⟨s2, h2, x2⟩ := Option.map_eq_some_iff.1 h
 rw [aJ (m := 7) (d := 16) (x := .tmp 15) (by decide) (by kernel_rfl) h2 x2]
 obtain ⟨y, hy, vy⟩ := bd n1 7 (by decide)
 rw [vy]
 have all : ∀ y : Nat, y ≤ 7 → okB (((toF Tryz.prog Ex 9000 Tryz.f3 0 0 4 1 (AAct.enter Tryz.f3.ntmps [.int .i64 n0, .int .i64 n1], M00)).bind fun s => toF Tryz.prog Ex 9000 Tryz.f3 4 2 4 3 (s.1.put (some 14) (.int .i64 6), s.2)).bind fun s => ad Tryz.prog Ex 9000 Tryz.f3 4 4 (s.1.put (some 16) (.int .i64 y), s.2)) = true := by
  intro y hy
  rcases (show y = 0 ∨ y = 1 ∨ y = 2 ∨ y = 3 ∨ y = 4 ∨ y = 5 ∨ y = 6 ∨ y = 7 by omega) with rfl | rfl | rfl | rfl | rfl | rfl | rfl | rfl
  ·exact j4 n0 n1
  ·exact j5 n0 n1
  ·exact j6 n0 n1
  ·exact j7 n0 n1
  ·exact j8 n0 n1
  ·exact j9 n0 n1
  ·exact ka n0 n1
  ·exact kb n0 n1
 have h3 := all y hy
 rw [h1, Option.bind_some, h2, Option.bind_some] at h3
 exact h3
end sweeList
end Go.G
