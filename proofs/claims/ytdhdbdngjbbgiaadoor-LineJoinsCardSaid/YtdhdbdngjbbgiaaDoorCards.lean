/-
  DERIVED. GIVEN WITH THE SEED: THE CARDS: each row of YtdhdbdngjbbgiaaDoorRows.lean that lists a variable, with what it lists TIED to the program's text (the seventh form; the later family's looks); each row that meets fmt, with fmt's text TOLD by the authors' own Lean function (tested against real Go, not proved from fmt's source: count such statements apart). THE CARD IS WHAT COUNTS. Prove the row's statement (the work); the ties are given (YtdhdbdngjbbgiaaDoorTie.lean); close each card by the builder's one call (the guide's Derived/Test/ToyasCard.lean, 'card_holds'). Laid BY PROGRAM, IN A SANDBOX (cutbox-door.mjs). By AI agents, Wed Nov 11 2026. No macro, syntax, notation, axiom, sorry.
-/
import Derived.Test.YtdhdbdngjbbgiaaDoorRows
import GoSem.ClaimSeven
namespace Go.Proofs.YtdhdbdngjbbgiaaDoor
namespace Rows

/-- THE TIED CARD OF 'fettlelaw5.LinePlaces'. -/
def linePlacesCard : Claim7 := { stood := { row := linePlacesRow, standIns := [], harness := (true, "f7e1dc6c36cbb00591176a7f0d25a78ebaefc4142e4cb95488d7515175621942"), looks := true }, kinds := [], alts := [], laidByText := true, laidKinds := [.data, .pinned], laidTests := true, laidLooks := .later }
def LinePlacesCardSaid : Prop := Claim7.holds Tryd.pinned (.plain (OpenSpec.ofChange linePlacesSpec)) linePlacesCard

/-- THE TIED CARD OF 'fettlelaw5.LineJoins'. -/
def lineJoinsCard : Claim7 := { stood := { row := lineJoinsRow, standIns := [], harness := (true, "f7e1dc6c36cbb00591176a7f0d25a78ebaefc4142e4cb95488d7515175621942"), looks := true }, kinds := [], alts := [], laidByText := true, laidKinds := [.data, .pinned], laidTests := true, laidLooks := .later }
def LineJoinsCardSaid : Prop := Claim7.holds Tryd.pinned (.plain (OpenSpec.ofChange lineJoinsSpec)) lineJoinsCard

/-- THE TIED CARD OF 'fettlelaw5.LineTells'. -/
def lineTellsCard : Claim7 := { stood := { row := lineTellsRow, standIns := [], harness := (true, "f7e1dc6c36cbb00591176a7f0d25a78ebaefc4142e4cb95488d7515175621942"), looks := true }, kinds := [], alts := [], laidByText := true, laidKinds := [.data, .pinned], laidTests := true, laidLooks := .later }
def LineTellsCardSaid : Prop := Claim7.holds Tryd.pinned (.plain (OpenSpec.ofChange lineTellsSpec)) lineTellsCard

/-- THE TIED CARD OF 'fettlelaw5.LineForms'. -/
def lineFormsCard : Claim7 := { stood := { row := lineFormsRow, standIns := [], harness := (true, "f7e1dc6c36cbb00591176a7f0d25a78ebaefc4142e4cb95488d7515175621942"), looks := true }, kinds := [], alts := [], laidByText := true, laidKinds := [.data, .pinned], laidTests := true, laidLooks := .later }
def LineFormsCardSaid : Prop := Claim7.holds Tryd.pinned (.plain (OpenSpec.ofChange lineFormsSpec)) lineFormsCard

/-- THE TIED CARD OF 'fettlelaw5.LineLong'. -/
def lineLongCard : Claim7 := { stood := { row := lineLongRow, standIns := [], harness := (true, "f7e1dc6c36cbb00591176a7f0d25a78ebaefc4142e4cb95488d7515175621942"), looks := true }, kinds := [], alts := [], laidByText := true, laidKinds := [.data, .pinned], laidTests := true, laidLooks := .later }
def LineLongCardSaid : Prop := Claim7.holds Tryd.pinned (.plain (OpenSpec.ofChange lineLongSpec)) lineLongCard

/-- THE TIED CARD OF 'fettlelaw21.OptnBack'. -/
def optnBackCard : Claim7 := { stood := { row := optnBackRow, standIns := [], harness := (true, "f7e1dc6c36cbb00591176a7f0d25a78ebaefc4142e4cb95488d7515175621942"), looks := true }, kinds := [], alts := [], laidByText := true, laidKinds := [.data, .pinned], laidTests := true, laidLooks := .later }
def OptnBackCardSaid : Prop := Claim7.holds Tryd.pinned (.plain (OpenSpec.ofChange optnBackSpec)) optnBackCard

/-- THE TIED CARD OF 'fettlelaw21.OptnTells'. -/
def optnTellsCard : Claim7 := { stood := { row := optnTellsRow, standIns := [], harness := (true, "f7e1dc6c36cbb00591176a7f0d25a78ebaefc4142e4cb95488d7515175621942"), looks := true }, kinds := [], alts := [], laidByText := true, laidKinds := [.data, .pinned], laidTests := true, laidLooks := .later }
def OptnTellsCardSaid : Prop := Claim7.holds Tryd.pinned (.plain (OpenSpec.ofChange optnTellsSpec)) optnTellsCard

/-- THE TIED CARD OF 'fettlelaw21.OptnForms'. -/
def optnFormsCard : Claim7 := { stood := { row := optnFormsRow, standIns := [], harness := (true, "f7e1dc6c36cbb00591176a7f0d25a78ebaefc4142e4cb95488d7515175621942"), looks := true }, kinds := [], alts := [], laidByText := true, laidKinds := [.data, .pinned], laidTests := true, laidLooks := .later }
def OptnFormsCardSaid : Prop := Claim7.holds Tryd.pinned (.plain (OpenSpec.ofChange optnFormsSpec)) optnFormsCard

/-- THE TIED CARD OF 'fettlelaw4.NameForms'. -/
def nameFormsCard : Claim7 := { stood := { row := nameFormsRow, standIns := [], harness := (true, "f7e1dc6c36cbb00591176a7f0d25a78ebaefc4142e4cb95488d7515175621942"), looks := true }, kinds := [], alts := [], laidByText := true, laidKinds := [.data, .data, .data, .data, .sentinel, .sentinel, .pinned], laidTests := true, laidLooks := .later }
def NameFormsCardSaid : Prop := Claim7.holds Tryd.pinned (.plain (OpenSpec.ofChange nameFormsSpec)) nameFormsCard

/-- THE TIED CARD OF 'fettlelaw4.NameBack'. -/
def nameBackCard : Claim7 := { stood := { row := nameBackRow, standIns := [], harness := (true, "f7e1dc6c36cbb00591176a7f0d25a78ebaefc4142e4cb95488d7515175621942"), looks := true }, kinds := [], alts := [], laidByText := true, laidKinds := [.data, .data, .data, .data, .sentinel, .sentinel, .pinned], laidTests := true, laidLooks := .later }
def NameBackCardSaid : Prop := Claim7.holds Tryd.pinned (.plain (OpenSpec.ofChange nameBackSpec)) nameBackCard

/-- THE TIED CARD OF 'fettlelaw4.NameTells'. -/
def nameTellsCard : Claim7 := { stood := { row := nameTellsRow, standIns := [], harness := (true, "f7e1dc6c36cbb00591176a7f0d25a78ebaefc4142e4cb95488d7515175621942"), looks := true }, kinds := [], alts := [], laidByText := true, laidKinds := [.data, .data, .data, .data, .sentinel, .sentinel, .pinned], laidTests := true, laidLooks := .later }
def NameTellsCardSaid : Prop := Claim7.holds Tryd.pinned (.plain (OpenSpec.ofChange nameTellsSpec)) nameTellsCard

/-- THE SECOND FORM's CARD OF 'fettlelaw5.LinePlaces'. -/
def linePlacesUptoCard : Claim7 := { stood := { row := linePlacesUptoRow, standIns := [], harness := (true, "f7e1dc6c36cbb00591176a7f0d25a78ebaefc4142e4cb95488d7515175621942"), looks := true }, kinds := [], alts := [], laidByText := true, laidKinds := [.data, .pinned], laidTests := true, laidLooks := .later }
def LinePlacesUptoCardSaid : Prop := Claim7.holds Tryd.pinned (.plain (OpenSpec.upto linePlacesSpec)) linePlacesUptoCard

/-- THE SECOND FORM's CARD OF 'fettlelaw5.LineJoins'. -/
def lineJoinsUptoCard : Claim7 := { stood := { row := lineJoinsUptoRow, standIns := [], harness := (true, "f7e1dc6c36cbb00591176a7f0d25a78ebaefc4142e4cb95488d7515175621942"), looks := true }, kinds := [], alts := [], laidByText := true, laidKinds := [.data, .pinned], laidTests := true, laidLooks := .later }
def LineJoinsUptoCardSaid : Prop := Claim7.holds Tryd.pinned (.plain (OpenSpec.upto lineJoinsSpec)) lineJoinsUptoCard

/-- THE SECOND FORM's CARD OF 'fettlelaw5.LineTells'. -/
def lineTellsUptoCard : Claim7 := { stood := { row := lineTellsUptoRow, standIns := [], harness := (true, "f7e1dc6c36cbb00591176a7f0d25a78ebaefc4142e4cb95488d7515175621942"), looks := true }, kinds := [], alts := [], laidByText := true, laidKinds := [.data, .pinned], laidTests := true, laidLooks := .later }
def LineTellsUptoCardSaid : Prop := Claim7.holds Tryd.pinned (.plain (OpenSpec.upto lineTellsSpec)) lineTellsUptoCard

/-- THE SECOND FORM's CARD OF 'fettlelaw5.LineForms'. -/
def lineFormsUptoCard : Claim7 := { stood := { row := lineFormsUptoRow, standIns := [], harness := (true, "f7e1dc6c36cbb00591176a7f0d25a78ebaefc4142e4cb95488d7515175621942"), looks := true }, kinds := [], alts := [], laidByText := true, laidKinds := [.data, .pinned], laidTests := true, laidLooks := .later }
def LineFormsUptoCardSaid : Prop := Claim7.holds Tryd.pinned (.plain (OpenSpec.upto lineFormsSpec)) lineFormsUptoCard

/-- THE SECOND FORM's CARD OF 'fettlelaw5.LineLong'. -/
def lineLongUptoCard : Claim7 := { stood := { row := lineLongUptoRow, standIns := [], harness := (true, "f7e1dc6c36cbb00591176a7f0d25a78ebaefc4142e4cb95488d7515175621942"), looks := true }, kinds := [], alts := [], laidByText := true, laidKinds := [.data, .pinned], laidTests := true, laidLooks := .later }
def LineLongUptoCardSaid : Prop := Claim7.holds Tryd.pinned (.plain (OpenSpec.upto lineLongSpec)) lineLongUptoCard

/-- THE SECOND FORM's CARD OF 'fettlelaw21.OptnBack'. -/
def optnBackUptoCard : Claim7 := { stood := { row := optnBackUptoRow, standIns := [], harness := (true, "f7e1dc6c36cbb00591176a7f0d25a78ebaefc4142e4cb95488d7515175621942"), looks := true }, kinds := [], alts := [], laidByText := true, laidKinds := [.data, .pinned], laidTests := true, laidLooks := .later }
def OptnBackUptoCardSaid : Prop := Claim7.holds Tryd.pinned (.plain (OpenSpec.upto optnBackSpec)) optnBackUptoCard

/-- THE SECOND FORM's CARD OF 'fettlelaw21.OptnTells'. -/
def optnTellsUptoCard : Claim7 := { stood := { row := optnTellsUptoRow, standIns := [], harness := (true, "f7e1dc6c36cbb00591176a7f0d25a78ebaefc4142e4cb95488d7515175621942"), looks := true }, kinds := [], alts := [], laidByText := true, laidKinds := [.data, .pinned], laidTests := true, laidLooks := .later }
def OptnTellsUptoCardSaid : Prop := Claim7.holds Tryd.pinned (.plain (OpenSpec.upto optnTellsSpec)) optnTellsUptoCard

/-- THE SECOND FORM's CARD OF 'fettlelaw21.OptnForms'. -/
def optnFormsUptoCard : Claim7 := { stood := { row := optnFormsUptoRow, standIns := [], harness := (true, "f7e1dc6c36cbb00591176a7f0d25a78ebaefc4142e4cb95488d7515175621942"), looks := true }, kinds := [], alts := [], laidByText := true, laidKinds := [.data, .pinned], laidTests := true, laidLooks := .later }
def OptnFormsUptoCardSaid : Prop := Claim7.holds Tryd.pinned (.plain (OpenSpec.upto optnFormsSpec)) optnFormsUptoCard

/-- THE SECOND FORM's CARD OF 'fettlelaw4.NameForms'. -/
def nameFormsUptoCard : Claim7 := { stood := { row := nameFormsUptoRow, standIns := [], harness := (true, "f7e1dc6c36cbb00591176a7f0d25a78ebaefc4142e4cb95488d7515175621942"), looks := true }, kinds := [], alts := [], laidByText := true, laidKinds := [.data, .data, .data, .data, .sentinel, .sentinel, .pinned], laidTests := true, laidLooks := .later }
def NameFormsUptoCardSaid : Prop := Claim7.holds Tryd.pinned (.plain (OpenSpec.upto nameFormsSpec)) nameFormsUptoCard

/-- THE SECOND FORM's CARD OF 'fettlelaw4.NameBack'. -/
def nameBackUptoCard : Claim7 := { stood := { row := nameBackUptoRow, standIns := [], harness := (true, "f7e1dc6c36cbb00591176a7f0d25a78ebaefc4142e4cb95488d7515175621942"), looks := true }, kinds := [], alts := [], laidByText := true, laidKinds := [.data, .data, .data, .data, .sentinel, .sentinel, .pinned], laidTests := true, laidLooks := .later }
def NameBackUptoCardSaid : Prop := Claim7.holds Tryd.pinned (.plain (OpenSpec.upto nameBackSpec)) nameBackUptoCard

/-- THE SECOND FORM's CARD OF 'fettlelaw4.NameTells'. -/
def nameTellsUptoCard : Claim7 := { stood := { row := nameTellsUptoRow, standIns := [], harness := (true, "f7e1dc6c36cbb00591176a7f0d25a78ebaefc4142e4cb95488d7515175621942"), looks := true }, kinds := [], alts := [], laidByText := true, laidKinds := [.data, .data, .data, .data, .sentinel, .sentinel, .pinned], laidTests := true, laidLooks := .later }
def NameTellsUptoCardSaid : Prop := Claim7.holds Tryd.pinned (.plain (OpenSpec.upto nameTellsSpec)) nameTellsUptoCard
end Rows
end Go.Proofs.YtdhdbdngjbbgiaaDoor
