/- bytes.Join: the kit's shelf laid at this program. -/
import Derived.Test.YtpacolplhcfamaaPU1
import Derived.Test.YtpacolplhcfamaaPXS
import Derived.Shelf.Lay
import Derived.Ground.SlbNamesProg
namespace Go.Proofs
open Go.Shelf
shelf_lay SlLaysJ.n14 Slb 14 at Try as Try.laysBJoin
end Go.Proofs
namespace Go.G
open Go.Ab Go.Proofs Go.RowKit Go.Shelf
set_option maxRecDepth 100000
theorem bjoinB_ok : CallOk1 Try.prog F.bytes_Join bjoinB := bjoinX_ok Try.laysBJoin (c := bodyOf Try.f118) Try.func118 (by kernel_rfl) (by kernel_rfl)
end Go.G
