/- Itoa, Atoi, Join: the kit's shelf laid at this program. -/
import Derived.Test.YtdhdbdngjbbgiaaDoorPRZ
import Derived.Test.YtdhdbdngjbbgiaaDoorPXS
import Derived.Shelf.Lay
import Derived.Ground.NamesProg
namespace Go.Proofs
open Go.Shelf
shelf_lay LaysM.n171 Nm 171 at Tryd as Tryd.laysItoa
shelf_lay LaysC.n172 Nm 172 at Tryd as Tryd.laysAtoi
shelf_lay Lays.n156 Nm 156 at Tryd as Tryd.laysJoin
end Go.Proofs
namespace Go.G
open Go.Ab Go.Proofs Go.RowKit Go.Shelf
set_option maxRecDepth 100000
theorem itoaB_ok : CallOk1 Tryd.prog F.strconv_Itoa itoaB := itoaX_ok Tryd.laysItoa (g := 3) (c := bodyOf Tryd.f50) Tryd.func50 (by kernel_rfl) (by kernel_rfl) (by kernel_rfl) (by kernel_rfl) (by kernel_rfl)
theorem atoiB_ok : CallOk1 Tryd.prog F.strconv_Atoi atoiB := atoiX_ok Tryd.laysAtoi (c := bodyOf Tryd.f46) Tryd.func46 (by kernel_rfl) (by kernel_rfl) (by kernel_rfl) (by kernel_rfl)
theorem join_extra : Builder.Extra Tryd.prog Tryd.laysJoin_ren where
  sizeBuilder := by kernel_rfl
  liesBuilder := by kernel_rfl
  t5 := by kernel_rfl
  a5 := fun w => by kernel_rfl
  z5 := fun w => by kernel_rfl
  v5 := fun w => by kernel_rfl
  infoByte := by kernel_rfl
  cellsByte := by kernel_rfl
  sizeByte := by kernel_rfl
  neB5 := by decide
theorem joinB_ok : CallOk1 Tryd.prog F.strings_Join joinB := joinX_ok Tryd.laysJoin join_extra (c := bodyOf Tryd.f42) Tryd.func42 (by kernel_rfl) (by kernel_rfl)
end Go.G
