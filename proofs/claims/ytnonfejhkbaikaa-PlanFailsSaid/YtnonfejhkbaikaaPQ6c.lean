/- Layer 6, plainly: an action's words. -/
import Derived.Test.YtnonfejhkbaikaaPQ6
import Derived.Test.YtnonfejhkbaikaaPKC
import Derived.Test.YtnonfejhkbaikaaPKE
namespace Go.G
open Go.Ab
set_option linter.unusedVariables false
set_option linter.unusedSimpArgs false
abbrev Ww := List UInt8 × Int × Int × Bool
def fI : List (List UInt8) := [[], [116, 101, 120, 116], [105, 110], [97, 108, 108], [117, 112, 112, 101, 114], [108, 111, 119, 101, 114], [114, 101, 118], [116, 97, 107, 101], [100, 114, 111, 112], [116, 119, 105, 99, 101], [106, 111, 105, 110], [102, 97, 105, 108]]
end Go.G
