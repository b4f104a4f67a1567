/- What is told at once of Go's library, with this seat's boxes. -/
import Derived.Test.YtnonfejhkbaikaaDoorPKE
import Derived.Test.YtnonfejhkbaikaaDoorPAbShelf2
namespace Go.Ab
def itoaB : Array Value → Store → Option (Value × Store) := itoaX 2
def atoiB : Array Value → Store → Option (Value × Store) := atoiX 0 1 107
def joinB : Array Value → Store → Option (Value × Store) := joinX
def bjoinB : Array Value → Store → Option (Value × Store) := bjoinX
end Go.Ab
