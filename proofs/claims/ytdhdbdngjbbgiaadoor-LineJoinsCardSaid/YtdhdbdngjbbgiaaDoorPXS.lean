/- What is told at once of Go's library, with this seat's boxes. -/
import Derived.Test.YtdhdbdngjbbgiaaDoorPKE
namespace Go.Ab
def itoaB : Array Value → Store → Option (Value × Store) := itoaX 2
def atoiB : Array Value → Store → Option (Value × Store) := atoiX 0 1 108
def joinB : Array Value → Store → Option (Value × Store) := joinX
end Go.Ab
