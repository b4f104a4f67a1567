/- Bytes cut at a byte, plainly. -/
import Derived.Test.YtnonfejhkbaikaaPN0
namespace Go.G
open Go.Ab
set_option linter.unusedVariables false
set_option linter.unusedSimpArgs false
end Go.G
