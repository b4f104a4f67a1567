/- What the listed variables hold as a call begins. -/
import Derived.Test.YtnonfejhkbaikaaDoorPRZ
import Derived.Test.YtnonfejhkbaikaaDoorPKE
namespace Go.G
open Go.Ab Go.Proofs Go.RowKit Go.ChangeShapes Go.WideShapes Go.ChangeAt
set_option linter.unusedVariables false
set_option maxRecDepth 100000

def pow10 : List Int := [1, 10, 100, 1000, 10000, 100000, 1000000, 10000000, 100000000, 1000000000, 10000000000, 100000000000, 1000000000000, 10000000000000, 100000000000000, 1000000000000000, 10000000000000000, 100000000000000000, 1000000000000000000, 10000000000000000000]
/-- The errors' and the table's boxes. -/
def errO (x : TypeId) : AObj := some (.inl ([.iface x (.pointer (some ⟨0, 0, some 0⟩))], Ty.error_t, false))
def powO : AObj := some (.inl (pow10.map fun z => Value.int .u64 z, Ty.uint64, false))
/-- The errors are of whatever types. -/
def MT (x y : TypeId) : Store := ⟨3, [powO, errO y, errO x], []⟩

theorem globs_B : globsB Tryd.prog = true := by kernel_rfl
theorem there {w : World} (hS : w.ShapedOpen Tryd.prog) : Gsh w := globs_there globs_B hS

theorem tabs_lay {w : World} (hS : w.ShapedOpen Tryd.prog) {laid : List (String × DataW Unit)} (hp : (laid.all fun x => x.2.handleName?.isNone) = true) (h : laidMetH Tryd.prog laid w)
    (h0 : ("strconv.ErrSyntax", Proofs.YtnonfejhkbaikaaDoor.Rows.laid_strconv_ErrSyntax) ∈ laid) (h1 : ("strconv.ErrRange", Proofs.YtnonfejhkbaikaaDoor.Rows.laid_strconv_ErrRange) ∈ laid) (h3 : ("internal/strconv.uint64pow10", Proofs.YtnonfejhkbaikaaDoor.Rows.laid_internal_strconv_uint64pow10) ∈ laid) :
    ∃ x y, Lay Tryd.prog w μ00 (MT x y) := by
  rw [MakeChecks.laidMetH_plain _ _ _ hp] at h
  obtain ⟨x, hx⟩ := tab_err h h0 (by kernel_rfl) (by kernel_rfl) (t := Ty.error_t) (ms := #[("Error", 77)]) (by kernel_rfl) Ty.error_t ⟨0, 0, some 0⟩ (by simp)
  obtain ⟨y, hy⟩ := tab_err h h1 (by kernel_rfl) (by kernel_rfl) (t := Ty.error_t) (ms := #[("Error", 77)]) (by kernel_rfl) Ty.error_t ⟨0, 0, some 0⟩ (by simp)
  refine ⟨x, y, Lay.tabs rfl (there hS) fun i g hg => ?_⟩
  match i, hg with
  | 0, hg =>
    obtain rfl : 3 = g := Option.some.inj hg
    exact hx
  | 1, hg =>
    obtain rfl : 4 = g := Option.some.inj hg
    exact hy
  | 2, hg =>
    obtain rfl : 5 = g := Option.some.inj hg
    exact tab_ints h (k := .u64) (zs := pow10) h3 (by kernel_rfl) (by kernel_rfl) (t := Ty.a20_uint64) (e := Ty.uint64) (n := 20) (by kernel_rfl) (by kernel_rfl) (by kernel_rfl) (by kernel_rfl) _
  | n + 3, hg => simp [globs] at hg
end Go.G
