/- Itoa, Atoi, Join: the kit's shelf laid at this program. -/
import Derived.Test.YtjchjhkhopcalaaGreatDoorPRZ
import Derived.Test.YtjchjhkhopcalaaGreatDoorPXS
import Derived.Shelf.Lay
import Derived.Ground.NamesProg
import Derived.Ground.GgzProg
import Derived.Ground.SlgmProg
import Derived.Shelf.SortM.Plain
import Derived.Shelf.SortM.SortNone
namespace Go.Proofs
open Go.Shelf
shelf_lay LaysM.n171 Nm 171 at Tryz as Tryz.laysItoa
shelf_lay LaysC.n172 Nm 172 at Tryz as Tryz.laysAtoi
shelf_lay Lays.n156 Nm 156 at Tryz as Tryz.laysJoin
shelf_lay_g SlLaysZ.n7 Ggz 7 at Tryz 40 as Tryz.keysA
shelf_lay_g SlLaysZ.n6 Ggz 6 at Tryz 39 as Tryz.sortedA
shelf_lay_g SlLaysM.n6 Slgm 6 at Tryz 76 as Tryz.sortA
end Go.Proofs
namespace Go.G
open Go.Ab Go.Proofs Go.RowKit Go.Shelf Go.Maps
set_option linter.unusedVariables false
set_option maxRecDepth 100000
theorem n3 : ay Tryz.prog F.p nb := rG Tryz.laysItoa (g := 5) (c := bI Tryz.f108) Tryz.func108 (by kernel_rfl) (by kernel_rfl) (by kernel_rfl) (by kernel_rfl) (by kernel_rfl)
theorem nH : ay Tryz.prog F.o k7 := ry Tryz.laysAtoi (c := bI Tryz.f70) Tryz.func70 (by kernel_rfl) (by kernel_rfl) (by kernel_rfl) (by kernel_rfl)
theorem join_extra : Builder.Extra Tryz.prog Tryz.laysJoin_ren where
 sizeBuilder := by kernel_rfl
 liesBuilder := by kernel_rfl
 t5 := by kernel_rfl
 a5 := fun w => by kernel_rfl
 z5 := fun w => by kernel_rfl
 v5 := fun w => by kernel_rfl
 infoByte := by kernel_rfl
 cellsByte := by kernel_rfl
 sizeByte := by kernel_rfl
 neB5 := by decide
theorem n5 : ay Tryz.prog F.x p3 := rI Tryz.laysJoin join_extra (c := bI Tryz.f100) Tryz.func100 (by kernel_rfl) (by kernel_rfl)
theorem nL : ay Tryz.prog F.e pO := rD (ρ := Tryz.laysJoin_ren) { Tryz.laysJoin with } join_extra.toX72 (c := bI Tryz.f98) Tryz.func98 (by kernel_rfl) (by kernel_rfl)
theorem pf : ay Tryz.prog F.h r6 := tx (ρ := Tryz.laysJoin_ren) { Tryz.laysJoin with } join_extra (c := bI Tryz.f65) Tryz.func65 (by kernel_rfl) (by kernel_rfl)
theorem r5 (m : Nat) : AnyZ.SortsIn Tryz.prog Tryz.sortedA_ren Fence.wide m :=
 ⟨fun blk off cap ss W hH hblk hsz => callsIn_wide.2 (AnyM.slices_Sort_string Tryz.sortA blk off cap ss W hH hblk hsz), fun p cap W => callsIn_wide.2 (AnyM.slices_Sort_string_none Tryz.sortA p cap W)⟩
theorem lA : ay Tryz.prog F.f fM := by
 refine qf (P := Tryz.prog) (FS := 39) (g := 77) (K := 9) (by kernel_rfl) ?_ (c := bI Tryz.f39) Tryz.func39 (by kernel_rfl) (by kernel_rfl)
 intro Bm b nn D0 R w hBm hm hown hs
 refine (callsIn_wide (n := 5)).1 ?_
 have hseq : SeqGives Fence.wide 2 Tryz.prog 77 #[.pointer (some ⟨Bm, 0, none⟩)] encStr (fun ss => ss.Perm (strKeys D0)) (Maps.size D0) w :=
  AnyZ.keys_gives (ρ := Tryz.keysA_ren) { Tryz.keysA with } Fence.wide _ trivial rfl (by omega) Bm b nn D0 w hBm hm hown
 exact AnyZ.sorted_in Tryz.sortedA Fence.wide 5 trivial trivial trivial trivial rfl (by omega) (r5 _) (enters_of Tryz.func76 (by kernel_rfl) rfl) 77 #[.pointer (some ⟨Bm, 0, none⟩)] trivial (enters_of Tryz.func77 (by kernel_rfl) rfl) _ (Maps.size D0) (by unfold maxLen; omega) (by omega) w hseq
end Go.G
