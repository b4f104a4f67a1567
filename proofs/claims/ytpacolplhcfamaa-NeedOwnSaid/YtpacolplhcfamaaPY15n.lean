/- Names of files that the statements use: told at once. -/
import Derived.Test.YtpacolplhcfamaaPGI
import Derived.Test.YtpacolplhcfamaaPN1
import Derived.Test.YtpacolplhcfamaaPAW
namespace Go.G
open Go.Ab Go.Proofs Go.RowKit
set_option linter.unusedVariables false
set_option linter.unusedSimpArgs false
set_option maxRecDepth 100000
theorem R_run {f : FuncId} {args : Array Value} {M M' : Store} {v : Value} (k : Nat) (h : acall Try.prog Ex k true f args M = some (v, M')) {Q : Value → Store → Prop} (hQ : Q v M') : R f args M Q := ⟨k, v, M', h, hQ⟩
theorem File_s (M : Store) : acall Try.prog Ex 60 true F.name_File #[sv [115]] M = some (.bool true, M) := by kernel_rfl
end Go.G
