/- What is told at once of Go's library, with this seat's boxes. -/
import Derived.Test.YtjchjhkhopcalaaGreatDoorPKE
import Derived.Test.YtjchjhkhopcalaaGreatDoorPKF
namespace Go.Ab
def gh : Array Value → Store → Option (Value × Store) := gl 2
def f7 : Array Value → Store → Option (Value × Store) := f8 0 1 194
def gp : Array Value → Store → Option (Value × Store) := gq
def gd : Array Value → Store → Option (Value × Store) := ge 118
def ij : Array Value → Store → Option (Value × Store) := ik 118 5
def ed : Array Value → Store → Option (Value × Store) := ee 77 9
end Go.Ab
