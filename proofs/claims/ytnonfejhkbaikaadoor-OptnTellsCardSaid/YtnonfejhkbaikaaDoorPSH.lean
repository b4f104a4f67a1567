/- Itoa, Atoi, strings.Join, bytes.Join: the kit's shelf laid at this program. -/
import Derived.Test.YtnonfejhkbaikaaDoorPRZ
import Derived.Test.YtnonfejhkbaikaaDoorPXS
import Derived.Shelf.Lay
import Derived.Ground.NamesProg
import Derived.Ground.SlbNamesProg
namespace Go.Proofs
open Go.Shelf
shelf_lay LaysM.n171 Nm 171 at Tryd as Tryd.laysItoa
shelf_lay LaysC.n172 Nm 172 at Tryd as Tryd.laysAtoi
shelf_lay Lays.n156 Nm 156 at Tryd as Tryd.laysJoin
shelf_lay SlLaysJ.n14 Slb 14 at Tryd as Tryd.laysBJoin
end Go.Proofs
namespace Go.G
open Go.Ab Go.Proofs Go.RowKit Go.Shelf
set_option linter.unusedVariables false
set_option maxRecDepth 100000
theorem itoaB_ok : CallOk1 Tryd.prog F.strconv_Itoa itoaB := itoaX_ok Tryd.laysItoa (g := 5) (c := bodyOf Tryd.f64) Tryd.func64 (by kernel_rfl) (by kernel_rfl) (by kernel_rfl) (by kernel_rfl) (by kernel_rfl)
theorem atoiB_ok : CallOk1 Tryd.prog F.strconv_Atoi atoiB := atoiX_ok Tryd.laysAtoi (c := bodyOf Tryd.f63) Tryd.func63 (by kernel_rfl) (by kernel_rfl) (by kernel_rfl) (by kernel_rfl)
theorem join_extra : Builder.Extra Tryd.prog Tryd.laysJoin_ren where
  sizeBuilder := by kernel_rfl
  liesBuilder := by kernel_rfl
  t5 := by kernel_rfl
  a5 := fun w => by kernel_rfl
  z5 := fun w => by kernel_rfl
  v5 := fun w => by kernel_rfl
  infoByte := by kernel_rfl
  cellsByte := by kernel_rfl
  sizeByte := by kernel_rfl
  neB5 := by decide
theorem joinB_ok : CallOk1 Tryd.prog F.strings_Join joinB := joinX_ok Tryd.laysJoin join_extra (c := bodyOf Tryd.f22) Tryd.func22 (by kernel_rfl) (by kernel_rfl)
theorem bjoinB_ok : CallOk1 Tryd.prog F.bytes_Join bjoinB := bjoinX_ok Tryd.laysBJoin (c := bodyOf Tryd.f65) Tryd.func65 (by kernel_rfl) (by kernel_rfl)
end Go.G
