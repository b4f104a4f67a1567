/- SweeList: its runs, part 0. -/
import Derived.Test.YtjchjhkhopcalaaGreatDoorPAW
import Derived.Test.YtjchjhkhopcalaaGreatDoorPAbFin
namespace Go.G
open Go.Ab Go.Proofs Go.RowKit
set_option linter.unusedVariables false
set_option maxRecDepth 100000
namespace sweeList
theorem e_0 (n0 n1 : Int) : ((toF Tryz.prog Ex 9000 Tryz.f3 0 0 4 1 (AAct.enter Tryz.f3.ntmps [.int .i64 n0, .int .i64 n1], M00)).bind fun s => toF Tryz.prog Ex 9000 Tryz.f3 4 2 4 3 (s.1.put (some 14) (.int .i64 0), s.2)).map (fun s => s.1.eval (.tmp 15)) = some (.int .i64 n1) := by kernel_rfl
theorem jg (n0 n1 : Int) : okB (((toF Tryz.prog Ex 9000 Tryz.f3 0 0 4 1 (AAct.enter Tryz.f3.ntmps [.int .i64 n0, .int .i64 n1], M00)).bind fun s => toF Tryz.prog Ex 9000 Tryz.f3 4 2 4 3 (s.1.put (some 14) (.int .i64 0), s.2)).bind fun s => ad Tryz.prog Ex 9000 Tryz.f3 4 4 (s.1.put (some 16) (.int .i64 0), s.2)) = true := by kernel_rfl
theorem jh (n0 n1 : Int) : okB (((toF Tryz.prog Ex 9000 Tryz.f3 0 0 4 1 (AAct.enter Tryz.f3.ntmps [.int .i64 n0, .int .i64 n1], M00)).bind fun s => toF Tryz.prog Ex 9000 Tryz.f3 4 2 4 3 (s.1.put (some 14) (.int .i64 0), s.2)).bind fun s => ad Tryz.prog Ex 9000 Tryz.f3 4 4 (s.1.put (some 16) (.int .i64 1), s.2)) = true := by kernel_rfl
theorem ji (n0 n1 : Int) : okB (((toF Tryz.prog Ex 9000 Tryz.f3 0 0 4 1 (AAct.enter Tryz.f3.ntmps [.int .i64 n0, .int .i64 n1], M00)).bind fun s => toF Tryz.prog Ex 9000 Tryz.f3 4 2 4 3 (s.1.put (some 14) (.int .i64 0), s.2)).bind fun s => ad Tryz.prog Ex 9000 Tryz.f3 4 4 (s.1.put (some 16) (.int .i64 2), s.2)) = true := by kernel_rfl
theorem jj (n0 n1 : Int) : okB (((toF Tryz.prog Ex 9000 Tryz.f3 0 0 4 1 (AAct.enter Tryz.f3.ntmps [.int .i64 n0, .int .i64 n1], M00)).bind fun s => toF Tryz.prog Ex 9000 Tryz.f3 4 2 4 3 (s.1.put (some 14) (.int .i64 0), s.2)).bind fun s => ad Tryz.prog Ex 9000 Tryz.f3 4 4 (s.1.put (some 16) (.int .i64 3), s.2)) = true := by kernel_rfl
theorem jk (n0 n1 : Int) : okB (((toF Tryz.prog Ex 9000 Tryz.f3 0 0 4 1 (AAct.enter Tryz.f3.ntmps [.int .i64 n0, .int .i64 n1], M00)).bind fun s => toF Tryz.prog Ex 9000 Tryz.f3 4 2 4 3 (s.1.put (some 14) (.int .i64 0), s.2)).bind fun s => ad Tryz.prog Ex 9000 Tryz.f3 4 4 (s.1.put (some 16) (.int .i64 4), s.2)) = true := by kernel_rfl
theorem jl (n0 n1 : Int) : okB (((toF Tryz.prog Ex 9000 Tryz.f3 0 0 4 1 (AAct.enter Tryz.f3.ntmps [.int .i64 n0, .int .i64 n1], M00)).bind fun s => toF Tryz.prog Ex 9000 Tryz.f3 4 2 4 3 (s.1.put (some 14) (.int .i64 0), s.2)).bind fun s => ad Tryz.prog Ex 9000 Tryz.f3 4 4 (s.1.put (some 16) (.int .i64 5), s.2)) = true := by kernel_rfl
theorem jm (n0 n1 : Int) : okB (((toF Tryz.prog Ex 9000 Tryz.f3 0 0 4 1 (AAct.enter Tryz.f3.ntmps [.int .i64 n0, .int .i64 n1], M00)).bind fun s => toF Tryz.prog Ex 9000 Tryz.f3 4 2 4 3 (s.1.put (some 14) (.int .i64 0), s.2)).bind fun s => ad Tryz.prog Ex 9000 Tryz.f3 4 4 (s.1.put (some 16) (.int .i64 6), s.2)) = true := by kernel_rfl
theorem jn (n0 n1 : Int) : okB (((toF Tryz.prog Ex 9000 Tryz.f3 0 0 4 1 (AAct.enter Tryz.f3.ntmps [.int .i64 n0, .int .i64 n1], M00)).bind fun s => toF Tryz.prog Ex 9000 Tryz.f3 4 2 4 3 (s.1.put (some 14) (.int .i64 0), s.2)).bind fun s => ad Tryz.prog Ex 9000 Tryz.f3 4 4 (s.1.put (some 16) (.int .i64 7), s.2)) = true := by kernel_rfl
theorem g_0 (n0 n1 : Int) (s1 : AAct × Store) (h1 : toF Tryz.prog Ex 9000 Tryz.f3 0 0 4 1 (AAct.enter Tryz.f3.ntmps [.int .i64 n0, .int .i64 n1], M00) = some s1) : okB (ad Tryz.prog Ex 9000 Tryz.f3 4 2 (s1.1.put (some 14) (.int .i64 0), s1.2)) = true := by
 have h := e_0 n0 n1
 rw [h1, Option.bind_some] at h
 obtain ⟨s2, h2, x2⟩ := Option.map_eq_some_iff.1 h
 rw [aJ (m := 7) (d := 16) (x := .tmp 15) (by decide) (by kernel_rfl) h2 x2]
 obtain ⟨y, hy, vy⟩ := bd n1 7 (by decide)
 rw [vy]
 have all : ∀ y : Nat, y ≤ 7 → okB (((toF Tryz.prog Ex 9000 Tryz.f3 0 0 4 1 (AAct.enter Tryz.f3.ntmps [.int .i64 n0, .int .i64 n1], M00)).bind fun s => toF Tryz.prog Ex 9000 Tryz.f3 4 2 4 3 (s.1.put (some 14) (.int .i64 0), s.2)).bind fun s => ad Tryz.prog Ex 9000 Tryz.f3 4 4 (s.1.put (some 16) (.int .i64 y), s.2)) = true := by
  intro y hy
  rcases (show y = 0 ∨ y = 1 ∨ y = 2 ∨ y = 3 ∨ y = 4 ∨ y = 5 ∨ y = 6 ∨ y = 7 by omega) with rfl | rfl | rfl | rfl | rfl | rfl | rfl | rfl
  ·exact jg n0 n1
  ·exact jh n0 n1
  ·exact ji n0 n1
  ·exact jj n0 n1
  ·exact jk n0 n1
  ·exact jl n0 n1
  ·exact jm n0 n1
  ·exact jn n0 n1
 have h3 := all y hy
 rw [h1, Option.bind_some, h2, Option.bind_some] at h3
 exact h3
theorem e_4 (n0 n1 : Int) : ((toF Tryz.prog Ex 9000 Tryz.f3 0 0 4 1 (AAct.enter Tryz.f3.ntmps [.int .i64 n0, .int .i64 n1], M00)).bind fun s => toF Tryz.prog Ex 9000 Tryz.f3 4 2 4 3 (s.1.put (some 14) (.int .i64 4), s.2)).map (fun s => s.1.eval (.tmp 15)) = some (.int .i64 n1) := by kernel_rfl
theorem jN (n0 n1 : Int) : okB (((toF Tryz.prog Ex 9000 Tryz.f3 0 0 4 1 (AAct.enter Tryz.f3.ntmps [.int .i64 n0, .int .i64 n1], M00)).bind fun s => toF Tryz.prog Ex 9000 Tryz.f3 4 2 4 3 (s.1.put (some 14) (.int .i64 4), s.2)).bind fun s => ad Tryz.prog Ex 9000 Tryz.f3 4 4 (s.1.put (some 16) (.int .i64 0), s.2)) = true := by kernel_rfl
theorem jO (n0 n1 : Int) : okB (((toF Tryz.prog Ex 9000 Tryz.f3 0 0 4 1 (AAct.enter Tryz.f3.ntmps [.int .i64 n0, .int .i64 n1], M00)).bind fun s => toF Tryz.prog Ex 9000 Tryz.f3 4 2 4 3 (s.1.put (some 14) (.int .i64 4), s.2)).bind fun s => ad Tryz.prog Ex 9000 Tryz.f3 4 4 (s.1.put (some 16) (.int .i64 1), s.2)) = true := by kernel_rfl
theorem jP (n0 n1 : Int) : okB (((toF Tryz.prog Ex 9000 Tryz.f3 0 0 4 1 (AAct.enter Tryz.f3.ntmps [.int .i64 n0, .int .i64 n1], M00)).bind fun s => toF Tryz.prog Ex 9000 Tryz.f3 4 2 4 3 (s.1.put (some 14) (.int .i64 4), s.2)).bind fun s => ad Tryz.prog Ex 9000 Tryz.f3 4 4 (s.1.put (some 16) (.int .i64 2), s.2)) = true := by kernel_rfl
theorem jQ (n0 n1 : Int) : okB (((toF Tryz.prog Ex 9000 Tryz.f3 0 0 4 1 (AAct.enter Tryz.f3.ntmps [.int .i64 n0, .int .i64 n1], M00)).bind fun s => toF Tryz.prog Ex 9000 Tryz.f3 4 2 4 3 (s.1.put (some 14) (.int .i64 4), s.2)).bind fun s => ad Tryz.prog Ex 9000 Tryz.f3 4 4 (s.1.put (some 16) (.int .i64 3), s.2)) = true := by kernel_rfl
theorem jR (n0 n1 : Int) : okB (((toF Tryz.prog Ex 9000 Tryz.f3 0 0 4 1 (AAct.enter Tryz.f3.ntmps [.int .i64 n0, .int .i64 n1], M00)).bind fun s => toF Tryz.prog Ex 9000 Tryz.f3 4 2 4 3 (s.1.put (some 14) (.int .i64 4), s.2)).bind fun s => ad Tryz.prog Ex 9000 Tryz.f3 4 4 (s.1.put (some 16) (.int .i64 4), s.2)) = true := by kernel_rfl
theorem jS (n0 n1 : Int) : okB (((toF Tryz.prog Ex 9000 Tryz.f3 0 0 4 1 (AAct.enter Tryz.f3.ntmps [.int .i64 n0, .int .i64 n1], M00)).bind fun s => toF Tryz.prog Ex 9000 Tryz.f3 4 2 4 3 (s.1.put (some 14) (.int .i64 4), s.2)).bind fun s => ad Tryz.prog Ex 9000 Tryz.f3 4 4 (s.1.put (some 16) (.int .i64 5), s.2)) = true := by kernel_rfl
theorem jT (n0 n1 : Int) : okB (((toF Tryz.prog Ex 9000 Tryz.f3 0 0 4 1 (AAct.enter Tryz.f3.ntmps [.int .i64 n0, .int .i64 n1], M00)).bind fun s => toF Tryz.prog Ex 9000 Tryz.f3 4 2 4 3 (s.1.put (some 14) (.int .i64 4), s.2)).bind fun s => ad Tryz.prog Ex 9000 Tryz.f3 4 4 (s.1.put (some 16) (.int .i64 6), s.2)) = true := by kernel_rfl
theorem jU (n0 n1 : Int) : okB (((toF Tryz.prog Ex 9000 Tryz.f3 0 0 4 1 (AAct.enter Tryz.f3.ntmps [.int .i64 n0, .int .i64 n1], M00)).bind fun s => toF Tryz.prog Ex 9000 Tryz.f3 4 2 4 3 (s.1.put (some 14) (.int .i64 4), s.2)).bind fun s => ad Tryz.prog Ex 9000 Tryz.f3 4 4 (s.1.put (some 16) (.int .i64 7), s.2)) = true := by kernel_rfl
theorem g_4 (n0 n1 : Int) (s1 : AAct × Store) (h1 : toF Tryz.prog Ex 9000 Tryz.f3 0 0 4 1 (AAct.enter Tryz.f3.ntmps [.int .i64 n0, .int .i64 n1], M00) = some s1) : okB (ad Tryz.prog Ex 9000 Tryz.f3 4 2 (s1.1.put (some 14) (.int .i64 4), s1.2)) = true := by
 have h := e_4 n0 n1
 rw [h1, Option.bind_some] at h
 obtain ⟨s2, h2, x2⟩ := Option.map_eq_some_iff.1 h
 rw [aJ (m := 7) (d := 16) (x := .tmp 15) (by decide) (by kernel_rfl) h2 x2]
 obtain ⟨y, hy, vy⟩ := bd n1 7 (by decide)
 rw [vy]
 have all : ∀ y : Nat, y ≤ 7 → okB (((toF Tryz.prog Ex 9000 Tryz.f3 0 0 4 1 (AAct.enter Tryz.f3.ntmps [.int .i64 n0, .int .i64 n1], M00)).bind fun s => toF Tryz.prog Ex 9000 Tryz.f3 4 2 4 3 (s.1.put (some 14) (.int .i64 4), s.2)).bind fun s => ad Tryz.prog Ex 9000 Tryz.f3 4 4 (s.1.put (some 16) (.int .i64 y), s.2)) = true := by
  intro y hy
  rcases (show y = 0 ∨ y = 1 ∨ y = 2 ∨ y = 3 ∨ y = 4 ∨ y = 5 ∨ y = 6 ∨ y = 7 by omega) with rfl | rfl | rfl | rfl | rfl | rfl | rfl | rfl
  ·exact jN n0 n1
  ·exact jO n0 n1
  ·exact jP n0 n1
  ·exact jQ n0 n1
  ·exact jR n0 n1
  ·exact jS n0 n1
  ·exact jT n0 n1
  ·exact jU n0 n1
 have h3 := all y hy
 rw [h1, Option.bind_some, h2, Option.bind_some] at h3
 exact h3
end sweeList
end Go.G
