/- What is told at once of Go's library. -/
import Derived.Test.YtpacolplhcfamaaPAbShelf2
namespace Go.Ab
def bjoinB : Array Value → Store → Option (Value × Store) := bjoinX
end Go.Ab
