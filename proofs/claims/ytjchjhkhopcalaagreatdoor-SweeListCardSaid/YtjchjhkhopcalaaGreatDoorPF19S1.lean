/- SweeList: its runs, part 1. -/
import Derived.Test.YtjchjhkhopcalaaGreatDoorPAW
import Derived.Test.YtjchjhkhopcalaaGreatDoorPAbFin
namespace Go.G
open Go.Ab Go.Proofs Go.RowKit
set_option linter.unusedVariables false
set_option maxRecDepth 100000
namespace sweeList
theorem e_1 (n0 n1 : Int) : ((toF Tryz.prog Ex 9000 Tryz.f3 0 0 4 1 (AAct.enter Tryz.f3.ntmps [.int .i64 n0, .int .i64 n1], M00)).bind fun s => toF Tryz.prog Ex 9000 Tryz.f3 4 2 4 3 (s.1.put (some 14) (.int .i64 1), s.2)).map (fun s => s.1.eval (.tmp 15)) = some (.int .i64 n1) := by kernel_rfl
theorem jo (n0 n1 : Int) : okB (((toF Tryz.prog Ex 9000 Tryz.f3 0 0 4 1 (AAct.enter Tryz.f3.ntmps [.int .i64 n0, .int .i64 n1], M00)).bind fun s => toF Tryz.prog Ex 9000 Tryz.f3 4 2 4 3 (s.1.put (some 14) (.int .i64 1), s.2)).bind fun s => ad Tryz.prog Ex 9000 Tryz.f3 4 4 (s.1.put (some 16) (.int .i64 0), s.2)) = true := by kernel_rfl
theorem jp (n0 n1 : Int) : okB (((toF Tryz.prog Ex 9000 Tryz.f3 0 0 4 1 (AAct.enter Tryz.f3.ntmps [.int .i64 n0, .int .i64 n1], M00)).bind fun s => toF Tryz.prog Ex 9000 Tryz.f3 4 2 4 3 (s.1.put (some 14) (.int .i64 1), s.2)).bind fun s => ad Tryz.prog Ex 9000 Tryz.f3 4 4 (s.1.put (some 16) (.int .i64 1), s.2)) = true := by kernel_rfl
theorem jq (n0 n1 : Int) : okB (((toF Tryz.prog Ex 9000 Tryz.f3 0 0 4 1 (AAct.enter Tryz.f3.ntmps [.int .i64 n0, .int .i64 n1], M00)).bind fun s => toF Tryz.prog Ex 9000 Tryz.f3 4 2 4 3 (s.1.put (some 14) (.int .i64 1), s.2)).bind fun s => ad Tryz.prog Ex 9000 Tryz.f3 4 4 (s.1.put (some 16) (.int .i64 2), s.2)) = true := by kernel_rfl
theorem jr (n0 n1 : Int) : okB (((toF Tryz.prog Ex 9000 Tryz.f3 0 0 4 1 (AAct.enter Tryz.f3.ntmps [.int .i64 n0, .int .i64 n1], M00)).bind fun s => toF Tryz.prog Ex 9000 Tryz.f3 4 2 4 3 (s.1.put (some 14) (.int .i64 1), s.2)).bind fun s => ad Tryz.prog Ex 9000 Tryz.f3 4 4 (s.1.put (some 16) (.int .i64 3), s.2)) = true := by kernel_rfl
theorem js (n0 n1 : Int) : okB (((toF Tryz.prog Ex 9000 Tryz.f3 0 0 4 1 (AAct.enter Tryz.f3.ntmps [.int .i64 n0, .int .i64 n1], M00)).bind fun s => toF Tryz.prog Ex 9000 Tryz.f3 4 2 4 3 (s.1.put (some 14) (.int .i64 1), s.2)).bind fun s => ad Tryz.prog Ex 9000 Tryz.f3 4 4 (s.1.put (some 16) (.int .i64 4), s.2)) = true := by kernel_rfl
theorem jt (n0 n1 : Int) : okB (((toF Tryz.prog Ex 9000 Tryz.f3 0 0 4 1 (AAct.enter Tryz.f3.ntmps [.int .i64 n0, .int .i64 n1], M00)).bind fun s => toF Tryz.prog Ex 9000 Tryz.f3 4 2 4 3 (s.1.put (some 14) (.int .i64 1), s.2)).bind fun s => ad Tryz.prog Ex 9000 Tryz.f3 4 4 (s.1.put (some 16) (.int .i64 5), s.2)) = true := by kernel_rfl
theorem ju (n0 n1 : Int) : okB (((toF Tryz.prog Ex 9000 Tryz.f3 0 0 4 1 (AAct.enter Tryz.f3.ntmps [.int .i64 n0, .int .i64 n1], M00)).bind fun s => toF Tryz.prog Ex 9000 Tryz.f3 4 2 4 3 (s.1.put (some 14) (.int .i64 1), s.2)).bind fun s => ad Tryz.prog Ex 9000 Tryz.f3 4 4 (s.1.put (some 16) (.int .i64 6), s.2)) = true := by kernel_rfl
theorem jw (n0 n1 : Int) : okB (((toF Tryz.prog Ex 9000 Tryz.f3 0 0 4 1 (AAct.enter Tryz.f3.ntmps [.int .i64 n0, .int .i64 n1], M00)).bind fun s => toF Tryz.prog Ex 9000 Tryz.f3 4 2 4 3 (s.1.put (some 14) (.int .i64 1), s.2)).bind fun s => ad Tryz.prog Ex 9000 Tryz.f3 4 4 (s.1.put (some 16) (.int .i64 7), s.2)) = true := by kernel_rfl
theorem g_1 (n0 n1 : Int) (s1 : AAct × Store) (h1 : toF Tryz.prog Ex 9000 Tryz.f3 0 0 4 1 (AAct.enter Tryz.f3.ntmps [.int .i64 n0, .int .i64 n1], M00) = some s1) : okB (ad Tryz.prog Ex 9000 Tryz.f3 4 2 (s1.1.put (some 14) (.int .i64 1), s1.2)) = true := by
 have h := e_1 n0 n1
 rw [h1, Option.bind_some] at h
 obtain ⟨s2, h2, x2⟩ := Option.map_eq_some_iff.1 h
 rw [aJ (m := 7) (d := 16) (x := .tmp 15) (by decide) (by kernel_rfl) h2 x2]
 obtain ⟨y, hy, vy⟩ := bd n1 7 (by decide)
 rw [vy]
 have all : ∀ y : Nat, y ≤ 7 → okB (((toF Tryz.prog Ex 9000 Tryz.f3 0 0 4 1 (AAct.enter Tryz.f3.ntmps [.int .i64 n0, .int .i64 n1], M00)).bind fun s => toF Tryz.prog Ex 9000 Tryz.f3 4 2 4 3 (s.1.put (some 14) (.int .i64 1), s.2)).bind fun s => ad Tryz.prog Ex 9000 Tryz.f3 4 4 (s.1.put (some 16) (.int .i64 y), s.2)) = true := by
  intro y hy
  rcases (show y = 0 ∨ y = 1 ∨ y = 2 ∨ y = 3 ∨ y = 4 ∨ y = 5 ∨ y = 6 ∨ y = 7 by omega) with rfl | rfl | rfl | rfl | rfl | rfl | rfl | rfl
  ·exact jo n0 n1
  ·exact jp n0 n1
  ·exact jq n0 n1
  ·exact jr n0 n1
  ·exact js n0 n1
  ·exact jt n0 n1
  ·exact ju n0 n1
  ·exact jw n0 n1
 have h3 := all y hy
 rw [h1, Option.bind_some, h2, Option.bind_some] at h3
 exact h3
theorem e_5 (n0 n1 : Int) : ((toF Tryz.prog Ex 9000 Tryz.f3 0 0 4 1 (AAct.enter Tryz.f3.ntmps [.int .i64 n0, .int .i64 n1], M00)).bind fun s => toF Tryz.prog Ex 9000 Tryz.f3 4 2 4 3 (s.1.put (some 14) (.int .i64 5), s.2)).map (fun s => s.1.eval (.tmp 15)) = some (.int .i64 n1) := by kernel_rfl
theorem jV (n0 n1 : Int) : okB (((toF Tryz.prog Ex 9000 Tryz.f3 0 0 4 1 (AAct.enter Tryz.f3.ntmps [.int .i64 n0, .int .i64 n1], M00)).bind fun s => toF Tryz.prog Ex 9000 Tryz.f3 4 2 4 3 (s.1.put (some 14) (.int .i64 5), s.2)).bind fun s => ad Tryz.prog Ex 9000 Tryz.f3 4 4 (s.1.put (some 16) (.int .i64 0), s.2)) = true := by kernel_rfl
theorem jW (n0 n1 : Int) : okB (((toF Tryz.prog Ex 9000 Tryz.f3 0 0 4 1 (AAct.enter Tryz.f3.ntmps [.int .i64 n0, .int .i64 n1], M00)).bind fun s => toF Tryz.prog Ex 9000 Tryz.f3 4 2 4 3 (s.1.put (some 14) (.int .i64 5), s.2)).bind fun s => ad Tryz.prog Ex 9000 Tryz.f3 4 4 (s.1.put (some 16) (.int .i64 1), s.2)) = true := by kernel_rfl
theorem jX (n0 n1 : Int) : okB (((toF Tryz.prog Ex 9000 Tryz.f3 0 0 4 1 (AAct.enter Tryz.f3.ntmps [.int .i64 n0, .int .i64 n1], M00)).bind fun s => toF Tryz.prog Ex 9000 Tryz.f3 4 2 4 3 (s.1.put (some 14) (.int .i64 5), s.2)).bind fun s => ad Tryz.prog Ex 9000 Tryz.f3 4 4 (s.1.put (some 16) (.int .i64 2), s.2)) = true := by kernel_rfl
theorem jY (n0 n1 : Int) : okB (((toF Tryz.prog Ex 9000 Tryz.f3 0 0 4 1 (AAct.enter Tryz.f3.ntmps [.int .i64 n0, .int .i64 n1], M00)).bind fun s => toF Tryz.prog Ex 9000 Tryz.f3 4 2 4 3 (s.1.put (some 14) (.int .i64 5), s.2)).bind fun s => ad Tryz.prog Ex 9000 Tryz.f3 4 4 (s.1.put (some 16) (.int .i64 3), s.2)) = true := by kernel_rfl
theorem jZ (n0 n1 : Int) : okB (((toF Tryz.prog Ex 9000 Tryz.f3 0 0 4 1 (AAct.enter Tryz.f3.ntmps [.int .i64 n0, .int .i64 n1], M00)).bind fun s => toF Tryz.prog Ex 9000 Tryz.f3 4 2 4 3 (s.1.put (some 14) (.int .i64 5), s.2)).bind fun s => ad Tryz.prog Ex 9000 Tryz.f3 4 4 (s.1.put (some 16) (.int .i64 4), s.2)) = true := by kernel_rfl
theorem j0 (n0 n1 : Int) : okB (((toF Tryz.prog Ex 9000 Tryz.f3 0 0 4 1 (AAct.enter Tryz.f3.ntmps [.int .i64 n0, .int .i64 n1], M00)).bind fun s => toF Tryz.prog Ex 9000 Tryz.f3 4 2 4 3 (s.1.put (some 14) (.int .i64 5), s.2)).bind fun s => ad Tryz.prog Ex 9000 Tryz.f3 4 4 (s.1.put (some 16) (.int .i64 5), s.2)) = true := by kernel_rfl
theorem j1 (n0 n1 : Int) : okB (((toF Tryz.prog Ex 9000 Tryz.f3 0 0 4 1 (AAct.enter Tryz.f3.ntmps [.int .i64 n0, .int .i64 n1], M00)).bind fun s => toF Tryz.prog Ex 9000 Tryz.f3 4 2 4 3 (s.1.put (some 14) (.int .i64 5), s.2)).bind fun s => ad Tryz.prog Ex 9000 Tryz.f3 4 4 (s.1.put (some 16) (.int .i64 6), s.2)) = true := by kernel_rfl
theorem j3 (n0 n1 : Int) : okB (((toF Tryz.prog Ex 9000 Tryz.f3 0 0 4 1 (AAct.enter Tryz.f3.ntmps [.int .i64 n0, .int .i64 n1], M00)).bind fun s => toF Tryz.prog Ex 9000 Tryz.f3 4 2 4 3 (s.1.put (some 14) (.int .i64 5), s.2)).bind fun s => ad Tryz.prog Ex 9000 Tryz.f3 4 4 (s.1.put (some 16) (.int .i64 7), s.2)) = true := by kernel_rfl
theorem g_5 (n0 n1 : Int) (s1 : AAct × Store) (h1 : toF Tryz.prog Ex 9000 Tryz.f3 0 0 4 1 (AAct.enter Tryz.f3.ntmps [.int .i64 n0, .int .i64 n1], M00) = some s1) : okB (ad Tryz.prog Ex 9000 Tryz.f3 4 2 (s1.1.put (some 14) (.int .i64 5), s1.2)) = true := by
 have h := e_5 n0 n1
 rw [h1, Option.bind_some] at h
 obtain ⟨s2, h2, x2⟩ := Option.map_eq_some_iff.1 h
 rw [aJ (m := 7) (d := 16) (x := .tmp 15) (by decide) (by kernel_rfl) h2 x2]
 obtain ⟨y, hy, vy⟩ := bd n1 7 (by decide)
 rw [vy]
 have all : ∀ y : Nat, y ≤ 7 → okB (((toF Tryz.prog Ex 9000 Tryz.f3 0 0 4 1 (AAct.enter Tryz.f3.ntmps [.int .i64 n0, .int .i64 n1], M00)).bind fun s => toF Tryz.prog Ex 9000 Tryz.f3 4 2 4 3 (s.1.put (some 14) (.int .i64 5), s.2)).bind fun s => ad Tryz.prog Ex 9000 Tryz.f3 4 4 (s.1.put (some 16) (.int .i64 y), s.2)) = true := by
  intro y hy
  rcases (show y = 0 ∨ y = 1 ∨ y = 2 ∨ y = 3 ∨ y = 4 ∨ y = 5 ∨ y = 6 ∨ y = 7 by omega) with rfl | rfl | rfl | rfl | rfl | rfl | rfl | rfl
  ·exact jV n0 n1
  ·exact jW n0 n1
  ·exact jX n0 n1
  ·exact jY n0 n1
  ·exact jZ n0 n1
  ·exact j0 n0 n1
  ·exact j1 n0 n1
  ·exact j3 n0 n1
 have h3 := all y hy
 rw [h1, Option.bind_some, h2, Option.bind_some] at h3
 exact h3
end sweeList
end Go.G
