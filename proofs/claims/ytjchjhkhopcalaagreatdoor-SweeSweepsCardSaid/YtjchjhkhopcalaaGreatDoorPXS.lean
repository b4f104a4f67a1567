/- What is told at once of Go's library, with this seat's boxes. -/
import Derived.Test.YtjchjhkhopcalaaGreatDoorPKE
import Derived.Test.YtjchjhkhopcalaaGreatDoorPKF
namespace Go.Ab
def nb : Array Value → Store → Option (Value × Store) := pZ 2
def k7 : Array Value → Store → Option (Value × Store) := pL 0 1 194
def p3 : Array Value → Store → Option (Value × Store) := p4
def pO : Array Value → Store → Option (Value × Store) := pP 118
def r6 : Array Value → Store → Option (Value × Store) := r7 118 5
def fM : Array Value → Store → Option (Value × Store) := md 77 9
end Go.Ab
