/- Layer 19: the tables as a call begins. -/
import Derived.Test.YtjchjhkhopcalaaGreatDoorPZ19g
import Derived.Test.YtjchjhkhopcalaaGreatDoorPTB
namespace Go.G
open Go.Ab Go.Proofs Go.RowKit
theorem tH (x y : TypeId) {M : Store} (h : Up (MT x y) M) : Tb M := Tb.up (M := MT x y) ⟨rfl, rfl, rfl⟩ h
end Go.G
