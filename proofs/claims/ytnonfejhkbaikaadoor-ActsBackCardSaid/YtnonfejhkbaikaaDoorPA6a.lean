/- Layer 6: things made. -/
import Derived.Test.YtnonfejhkbaikaaDoorPA6
namespace Go.G
open Go.Ab Go.Proofs Go.RowKit
set_option linter.unusedVariables false
set_option linter.unusedSimpArgs false
set_option maxRecDepth 100000

abbrev pt (b : Nat) : Value := .pointer (some ⟨b, 0, none⟩)
theorem bl_do (d : Dw) : bldL (.agg #[(.int .i64 0), (.int .i64 0), (.string ⟨#[]⟩)]) 3 1 [(0, dv d)] = some (dcs d) := by obtain ⟨a, b, c⟩ := d; kernel_rfl
theorem bs_do (k : Int) : bldS #[(.int .i64 0), (.int .i64 0), (.string ⟨#[]⟩)] [(0, 1), (1, 1), (2, 1)] [(0, iv k)] = some (.agg [iv k, iv 0, sv []].toArray) := by kernel_rfl

end Go.G
