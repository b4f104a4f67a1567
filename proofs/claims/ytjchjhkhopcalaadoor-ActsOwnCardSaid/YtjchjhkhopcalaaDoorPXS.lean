/- What is told at once of Go's library, with this seat's boxes. -/
import Derived.Test.YtjchjhkhopcalaaDoorPKE
import Derived.Test.YtjchjhkhopcalaaDoorPAbShelf2
namespace Go.Ab
def itoaB : Array Value → Store → Option (Value × Store) := itoaX 2
def atoiB : Array Value → Store → Option (Value × Store) := atoiX 0 1 83
def bjoinB : Array Value → Store → Option (Value × Store) := bjoinX
end Go.Ab
