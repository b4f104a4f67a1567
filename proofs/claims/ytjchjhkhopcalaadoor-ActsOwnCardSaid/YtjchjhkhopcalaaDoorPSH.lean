/- Itoa, Atoi, bytes.Join: the kit's shelf laid at this program. -/
import Derived.Test.YtjchjhkhopcalaaDoorPRZ
import Derived.Test.YtjchjhkhopcalaaDoorPXS
import Derived.Shelf.Lay
import Derived.Ground.NamesProg
import Derived.Ground.SlbNamesProg
namespace Go.Proofs
open Go.Shelf
shelf_lay LaysM.n171 Nm 171 at Tryd as Tryd.laysItoa
shelf_lay LaysC.n172 Nm 172 at Tryd as Tryd.laysAtoi
shelf_lay SlLaysJ.n14 Slb 14 at Tryd as Tryd.laysBJoin
end Go.Proofs
namespace Go.G
open Go.Ab Go.Proofs Go.RowKit Go.Shelf
set_option linter.unusedVariables false
set_option maxRecDepth 100000
theorem itoaB_ok : CallOk1 Tryd.prog F.strconv_Itoa itoaB := itoaX_ok Tryd.laysItoa (g := 3) (c := bodyOf Tryd.f46) Tryd.func46 (by kernel_rfl) (by kernel_rfl) (by kernel_rfl) (by kernel_rfl) (by kernel_rfl)
theorem atoiB_ok : CallOk1 Tryd.prog F.strconv_Atoi atoiB := atoiX_ok Tryd.laysAtoi (c := bodyOf Tryd.f45) Tryd.func45 (by kernel_rfl) (by kernel_rfl) (by kernel_rfl) (by kernel_rfl)
theorem bjoinB_ok : CallOk1 Tryd.prog F.bytes_Join bjoinB := bjoinX_ok Tryd.laysBJoin (c := bodyOf Tryd.f40) Tryd.func40 (by kernel_rfl) (by kernel_rfl)
end Go.G
