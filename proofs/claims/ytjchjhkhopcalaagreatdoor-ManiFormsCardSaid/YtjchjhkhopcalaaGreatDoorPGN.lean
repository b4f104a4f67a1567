/- Names of the program's functions and types; what a call comes to. -/
import Derived.Test.YtjchjhkhopcalaaGreatDoorProg
import Derived.Test.YtjchjhkhopcalaaGreatDoorPKD
import Derived.Test.YtjchjhkhopcalaaGreatDoorPKE
import Derived.Test.YtjchjhkhopcalaaGreatDoorPXS
import Derived.KernelRfl
namespace Go.G
open Go.Ab Go.Proofs
abbrev KP := Value → Store → Prop
def F.i : Nat := 3
def F.k : Nat := 6
def F.j : Nat := 17
def F.l : Nat := 22
def F.e : Nat := 39
def F.d : Nat := 65
def F.f : Nat := 70
def F.b : Nat := 98
def F.h : Nat := 100
def F.g : Nat := 108
def F.c : Nat := 177
def F.a : Nat := 188
def Ty.a : Nat := 3
def Ty.d : Nat := 4
def Ty.b : Nat := 9
def Ty.c : Nat := 20
theorem U.a : Tryz.prog.underlying Ty.a = some (.int .i64) := by kernel_rfl
theorem U.c : Tryz.prog.underlying Ty.d = some .bool := by kernel_rfl
theorem U.b : Tryz.prog.underlying Ty.b = some .string := by kernel_rfl
def Ex : Ext := fun f => bif Nat.beq f F.l then some fm else bif Nat.beq f F.j then some fm else bif Nat.beq f F.a then some gm else bif Nat.beq f F.c then some ga else bif Nat.beq f F.g then some gh else bif Nat.beq f F.f then some f7 else bif Nat.beq f F.h then some gp else bif Nat.beq f F.b then some gd else bif Nat.beq f F.d then some ij else bif Nat.beq f F.e then some ed else none
abbrev R (f : FuncId) (args : Array Value) (M : Store) (Q : KP) : Prop := Runs Tryz.prog Ex f args M Q
end Go.G
