/- What the listed variables hold as a call begins. -/
import Derived.Test.YtjchjhkhopcalaaGreatDoorPRZ
import Derived.Test.YtjchjhkhopcalaaGreatDoorPKE
namespace Go.G
open Go.Ab Go.Proofs Go.RowKit Go.ChangeShapes Go.WideShapes Go.ChangeAt
set_option linter.unusedVariables false
set_option maxRecDepth 100000
def sI : List Int := [1, 10, 100, 1000, 10000, 100000, 1000000, 10000000, 100000000, 1000000000, 10000000000, 100000000000, 1000000000000, 10000000000000, 100000000000000, 1000000000000000, 10000000000000000, 100000000000000000, 1000000000000000000, 10000000000000000000]
def tX (x : TypeId) : aJ := some (.inl ([.iface x (.pointer (some ⟨0, 0, some 0⟩))], Ty.h, false))
def uT : aJ := some (.inl (sI.map fun z => Value.int .u64 z, Ty.n, false))
def MT (x y : TypeId) : Store := ⟨3, [uT, tX y, tX x], []⟩
theorem tc : qR Tryz.prog = true := by kernel_rfl
theorem there {w : World} (hS : w.ShapedOpen Tryz.prog) : Gsh w := oP tc hS
theorem sa {w : World} (hS : w.ShapedOpen Tryz.prog) {laid : List (String × DataW Unit)} (hp : (laid.all fun x => x.2.handleName?.isNone) = true) (h : laidMetH Tryz.prog laid w)
    (h0 : ("strconv.ErrSyntax", Proofs.YtjchjhkhopcalaaGreatDoor.Rows.laid_strconv_ErrSyntax) ∈ laid) (h1 : ("strconv.ErrRange", Proofs.YtjchjhkhopcalaaGreatDoor.Rows.laid_strconv_ErrRange) ∈ laid) (h3 : ("internal/strconv.uint64pow10", Proofs.YtjchjhkhopcalaaGreatDoor.Rows.laid_internal_strconv_uint64pow10) ∈ laid) :
    ∃ x y, Lay Tryz.prog w fu (MT x y) := by
 rw [MakeChecks.laidMetH_plain _ _ _ hp] at h
 obtain ⟨x, hx⟩ := pg h h0 (by kernel_rfl) (by kernel_rfl) (t := Ty.h) (ms := #[("Error", 124)]) (by kernel_rfl) Ty.h ⟨0, 0, some 0⟩ (by simp)
 obtain ⟨y, hy⟩ := pg h h1 (by kernel_rfl) (by kernel_rfl) (t := Ty.h) (ms := #[("Error", 124)]) (by kernel_rfl) Ty.h ⟨0, 0, some 0⟩ (by simp)
 refine ⟨x, y, Lay.tabs rfl (there hS) fun i g hg => ?_⟩
 match i, hg with
 | 0, hg =>
  obtain rfl : 1 = g := Option.some.inj hg
  exact hx
 | 1, hg =>
  obtain rfl : 2 = g := Option.some.inj hg
  exact hy
 | 2, hg =>
  obtain rfl : 5 = g := Option.some.inj hg
  exact r9 h (k := .u64) (zs := sI) h3 (by kernel_rfl) (by kernel_rfl) (t := Ty.o) (e := Ty.n) (n := 20) (by kernel_rfl) (by kernel_rfl) (by kernel_rfl) (by kernel_rfl) _
 | n + 3, hg => simp [a7] at hg
end Go.G
