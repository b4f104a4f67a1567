/-
  DERIVED. GIVEN WITH THE SEED: THE CARDS: each row of YtjchjhkhopcalaaGreatDoorRows.lean that lists a variable, with what it lists TIED to the program's text (the seventh form; the later family's looks); each row that meets fmt, with fmt's text TOLD by the authors' own Lean function (tested against real Go, not proved from fmt's source: count such statements apart). THE CARD IS WHAT COUNTS. Prove the row's statement (the work); the ties are given (YtjchjhkhopcalaaGreatDoorTie.lean); close each card by the builder's one call (the guide's Derived/Test/ToyasCard.lean, 'card_holds'). Laid BY PROGRAM, IN A SANDBOX (cutbox-door.mjs). By AI agents, Wed Nov 11 2026. No macro, syntax, notation, axiom, sorry.
-/
import Derived.Test.YtjchjhkhopcalaaGreatDoorRows
import GoSem.ClaimSeven
namespace Go.Proofs.YtjchjhkhopcalaaGreatDoor
namespace Rows

/-- THE TIED CARD OF 'fettlelaw19.SweeList'. -/
def sweeListCard : Claim7 := { stood := { row := sweeListRow, standIns := [], harness := (true, "578901d41e7f04aee3abcdd7b675d9038c1af39f7aa8798b5191192637c503f9"), looks := true }, kinds := [], alts := [], laidByText := true, laidKinds := [.data, .data, .data, .data, .sentinel, .sentinel, .pinned], laidTests := true, laidLooks := .later }
def SweeListCardSaid : Prop := Claim7.holds Tryz.pinned (.plain (OpenSpec.ofChange sweeListSpec)) sweeListCard

/-- THE TIED CARD OF 'fettlelaw19.SweeSweeps'. -/
def sweeSweepsCard : Claim7 := { stood := { row := sweeSweepsRow, standIns := [], harness := (true, "578901d41e7f04aee3abcdd7b675d9038c1af39f7aa8798b5191192637c503f9"), looks := true }, kinds := [], alts := [], laidByText := true, laidKinds := [.data, .data, .data, .data, .sentinel, .sentinel, .pinned], laidTests := true, laidLooks := .later }
def SweeSweepsCardSaid : Prop := Claim7.holds Tryz.pinned (.plain (OpenSpec.ofChange sweeSweepsSpec)) sweeSweepsCard

/-- THE TIED CARD OF 'fettlelaw19.SweeAlone'. -/
def sweeAloneCard : Claim7 := { stood := { row := sweeAloneRow, standIns := [], harness := (true, "578901d41e7f04aee3abcdd7b675d9038c1af39f7aa8798b5191192637c503f9"), looks := true }, kinds := [], alts := [], laidByText := true, laidKinds := [.data, .data, .data, .data, .sentinel, .sentinel, .pinned], laidTests := true, laidLooks := .later }
def SweeAloneCardSaid : Prop := Claim7.holds Tryz.pinned (.plain (OpenSpec.ofChange sweeAloneSpec)) sweeAloneCard

/-- THE TIED CARD OF 'fettlelaw7.ManiForms'. -/
def maniFormsCard : Claim7 := { stood := { row := maniFormsRow, standIns := [], harness := (true, "578901d41e7f04aee3abcdd7b675d9038c1af39f7aa8798b5191192637c503f9"), looks := true }, kinds := [], alts := [], laidByText := true, laidKinds := [.data, .data, .data, .data, .sentinel, .sentinel, .pinned], laidTests := true, laidLooks := .later }
def ManiFormsCardSaid : Prop := Claim7.holds Tryz.pinned (.plain (OpenSpec.ofChange maniFormsSpec)) maniFormsCard

/-- THE TIED CARD OF 'fettlelaw7.ManiMany'. -/
def maniManyCard : Claim7 := { stood := { row := maniManyRow, standIns := [], harness := (true, "578901d41e7f04aee3abcdd7b675d9038c1af39f7aa8798b5191192637c503f9"), looks := true }, kinds := [], alts := [], laidByText := true, laidKinds := [.data, .data, .data, .data, .sentinel, .sentinel, .pinned], laidTests := true, laidLooks := .later }
def ManiManyCardSaid : Prop := Claim7.holds Tryz.pinned (.plain (OpenSpec.ofChange maniManySpec)) maniManyCard

/-- THE TIED CARD OF 'fettlelaw7.ManiLets'. -/
def maniLetsCard : Claim7 := { stood := { row := maniLetsRow, standIns := [], harness := (true, "578901d41e7f04aee3abcdd7b675d9038c1af39f7aa8798b5191192637c503f9"), looks := true }, kinds := [], alts := [], laidByText := true, laidKinds := [.data, .data, .data, .data, .sentinel, .sentinel, .pinned], laidTests := true, laidLooks := .later }
def ManiLetsCardSaid : Prop := Claim7.holds Tryz.pinned (.plain (OpenSpec.ofChange maniLetsSpec)) maniLetsCard

/-- THE TIED CARD OF 'fettlelaw7.ManiTells'. -/
def maniTellsCard : Claim7 := { stood := { row := maniTellsRow, standIns := [], harness := (true, "578901d41e7f04aee3abcdd7b675d9038c1af39f7aa8798b5191192637c503f9"), looks := true }, kinds := [], alts := [], laidByText := true, laidKinds := [.data, .data, .data, .data, .sentinel, .sentinel, .pinned], laidTests := true, laidLooks := .later }
def ManiTellsCardSaid : Prop := Claim7.holds Tryz.pinned (.plain (OpenSpec.ofChange maniTellsSpec)) maniTellsCard

/-- THE TIED CARD OF 'fettlelaw7.ManiBack'. -/
def maniBackCard : Claim7 := { stood := { row := maniBackRow, standIns := [], harness := (true, "578901d41e7f04aee3abcdd7b675d9038c1af39f7aa8798b5191192637c503f9"), looks := true }, kinds := [], alts := [], laidByText := true, laidKinds := [.data, .data, .data, .data, .sentinel, .sentinel, .pinned], laidTests := true, laidLooks := .later }
def ManiBackCardSaid : Prop := Claim7.holds Tryz.pinned (.plain (OpenSpec.ofChange maniBackSpec)) maniBackCard

/-- THE SECOND FORM's CARD OF 'fettlelaw19.SweeList'. -/
def sweeListUptoCard : Claim7 := { stood := { row := sweeListUptoRow, standIns := [], harness := (true, "578901d41e7f04aee3abcdd7b675d9038c1af39f7aa8798b5191192637c503f9"), looks := true }, kinds := [], alts := [], laidByText := true, laidKinds := [.data, .data, .data, .data, .sentinel, .sentinel, .pinned], laidTests := true, laidLooks := .later }
def SweeListUptoCardSaid : Prop := Claim7.holds Tryz.pinned (.plain (OpenSpec.upto sweeListSpec)) sweeListUptoCard

/-- THE SECOND FORM's CARD OF 'fettlelaw19.SweeSweeps'. -/
def sweeSweepsUptoCard : Claim7 := { stood := { row := sweeSweepsUptoRow, standIns := [], harness := (true, "578901d41e7f04aee3abcdd7b675d9038c1af39f7aa8798b5191192637c503f9"), looks := true }, kinds := [], alts := [], laidByText := true, laidKinds := [.data, .data, .data, .data, .sentinel, .sentinel, .pinned], laidTests := true, laidLooks := .later }
def SweeSweepsUptoCardSaid : Prop := Claim7.holds Tryz.pinned (.plain (OpenSpec.upto sweeSweepsSpec)) sweeSweepsUptoCard

/-- THE SECOND FORM's CARD OF 'fettlelaw19.SweeAlone'. -/
def sweeAloneUptoCard : Claim7 := { stood := { row := sweeAloneUptoRow, standIns := [], harness := (true, "578901d41e7f04aee3abcdd7b675d9038c1af39f7aa8798b5191192637c503f9"), looks := true }, kinds := [], alts := [], laidByText := true, laidKinds := [.data, .data, .data, .data, .sentinel, .sentinel, .pinned], laidTests := true, laidLooks := .later }
def SweeAloneUptoCardSaid : Prop := Claim7.holds Tryz.pinned (.plain (OpenSpec.upto sweeAloneSpec)) sweeAloneUptoCard

/-- THE SECOND FORM's CARD OF 'fettlelaw7.ManiForms'. -/
def maniFormsUptoCard : Claim7 := { stood := { row := maniFormsUptoRow, standIns := [], harness := (true, "578901d41e7f04aee3abcdd7b675d9038c1af39f7aa8798b5191192637c503f9"), looks := true }, kinds := [], alts := [], laidByText := true, laidKinds := [.data, .data, .data, .data, .sentinel, .sentinel, .pinned], laidTests := true, laidLooks := .later }
def ManiFormsUptoCardSaid : Prop := Claim7.holds Tryz.pinned (.plain (OpenSpec.upto maniFormsSpec)) maniFormsUptoCard

/-- THE SECOND FORM's CARD OF 'fettlelaw7.ManiMany'. -/
def maniManyUptoCard : Claim7 := { stood := { row := maniManyUptoRow, standIns := [], harness := (true, "578901d41e7f04aee3abcdd7b675d9038c1af39f7aa8798b5191192637c503f9"), looks := true }, kinds := [], alts := [], laidByText := true, laidKinds := [.data, .data, .data, .data, .sentinel, .sentinel, .pinned], laidTests := true, laidLooks := .later }
def ManiManyUptoCardSaid : Prop := Claim7.holds Tryz.pinned (.plain (OpenSpec.upto maniManySpec)) maniManyUptoCard

/-- THE SECOND FORM's CARD OF 'fettlelaw7.ManiLets'. -/
def maniLetsUptoCard : Claim7 := { stood := { row := maniLetsUptoRow, standIns := [], harness := (true, "578901d41e7f04aee3abcdd7b675d9038c1af39f7aa8798b5191192637c503f9"), looks := true }, kinds := [], alts := [], laidByText := true, laidKinds := [.data, .data, .data, .data, .sentinel, .sentinel, .pinned], laidTests := true, laidLooks := .later }
def ManiLetsUptoCardSaid : Prop := Claim7.holds Tryz.pinned (.plain (OpenSpec.upto maniLetsSpec)) maniLetsUptoCard

/-- THE SECOND FORM's CARD OF 'fettlelaw7.ManiTells'. -/
def maniTellsUptoCard : Claim7 := { stood := { row := maniTellsUptoRow, standIns := [], harness := (true, "578901d41e7f04aee3abcdd7b675d9038c1af39f7aa8798b5191192637c503f9"), looks := true }, kinds := [], alts := [], laidByText := true, laidKinds := [.data, .data, .data, .data, .sentinel, .sentinel, .pinned], laidTests := true, laidLooks := .later }
def ManiTellsUptoCardSaid : Prop := Claim7.holds Tryz.pinned (.plain (OpenSpec.upto maniTellsSpec)) maniTellsUptoCard

/-- THE SECOND FORM's CARD OF 'fettlelaw7.ManiBack'. -/
def maniBackUptoCard : Claim7 := { stood := { row := maniBackUptoRow, standIns := [], harness := (true, "578901d41e7f04aee3abcdd7b675d9038c1af39f7aa8798b5191192637c503f9"), looks := true }, kinds := [], alts := [], laidByText := true, laidKinds := [.data, .data, .data, .data, .sentinel, .sentinel, .pinned], laidTests := true, laidLooks := .later }
def ManiBackUptoCardSaid : Prop := Claim7.holds Tryz.pinned (.plain (OpenSpec.upto maniBackSpec)) maniBackUptoCard
end Rows
end Go.Proofs.YtjchjhkhopcalaaGreatDoor
