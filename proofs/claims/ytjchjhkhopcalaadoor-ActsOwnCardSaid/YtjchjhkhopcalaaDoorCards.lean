/-
  DERIVED. GIVEN WITH THE SEED: THE CARDS: each row of YtjchjhkhopcalaaDoorRows.lean that lists a variable, with what it lists TIED to the program's text (the seventh form; the later family's looks); each row that meets fmt, with fmt's text TOLD by the authors' own Lean function (tested against real Go, not proved from fmt's source: count such statements apart). THE CARD IS WHAT COUNTS. Prove the row's statement (the work); the ties are given (YtjchjhkhopcalaaDoorTie.lean); close each card by the builder's one call (the guide's Derived/Test/ToyasCard.lean, 'card_holds'). Laid BY PROGRAM, IN A SANDBOX (cutbox-door.mjs). By AI agents, Wed Nov 11 2026. No macro, syntax, notation, axiom, sorry.
-/
import Derived.Test.YtjchjhkhopcalaaDoorRows
import GoSem.ClaimSeven
namespace Go.Proofs.YtjchjhkhopcalaaDoor
namespace Rows

/-- THE TIED CARD OF 'fettlelaw6.ActsBack'. -/
def actsBackCard : Claim7 := { stood := { row := actsBackRow, standIns := [], harness := (true, "eb0ce46a40c7015cd2026627d9eb1bc047db3121a5668cadc102af722c3494d4"), looks := true }, kinds := [], alts := [], laidByText := true, laidKinds := [.data, .data, .data, .sentinel, .sentinel], laidTests := true, laidLooks := .later }
def ActsBackCardSaid : Prop := Claim7.holds Tryd.pinned (.plain (OpenSpec.ofChange actsBackSpec)) actsBackCard

/-- THE TIED CARD OF 'fettlelaw6.ActsApart'. -/
def actsApartCard : Claim7 := { stood := { row := actsApartRow, standIns := [], harness := (true, "eb0ce46a40c7015cd2026627d9eb1bc047db3121a5668cadc102af722c3494d4"), looks := true }, kinds := [], alts := [], laidByText := true, laidKinds := [.data, .data, .data, .sentinel, .sentinel], laidTests := true, laidLooks := .later }
def ActsApartCardSaid : Prop := Claim7.holds Tryd.pinned (.plain (OpenSpec.ofChange actsApartSpec)) actsApartCard

/-- THE TIED CARD OF 'fettlelaw6.ActsOwn'. -/
def actsOwnCard : Claim7 := { stood := { row := actsOwnRow, standIns := [], harness := (true, "eb0ce46a40c7015cd2026627d9eb1bc047db3121a5668cadc102af722c3494d4"), looks := true }, kinds := [], alts := [], laidByText := true, laidKinds := [.data, .data, .data, .sentinel, .sentinel], laidTests := true, laidLooks := .later }
def ActsOwnCardSaid : Prop := Claim7.holds Tryd.pinned (.plain (OpenSpec.ofChange actsOwnSpec)) actsOwnCard

/-- THE TIED CARD OF 'fettlelaw6.ActsForms'. -/
def actsFormsCard : Claim7 := { stood := { row := actsFormsRow, standIns := [], harness := (true, "eb0ce46a40c7015cd2026627d9eb1bc047db3121a5668cadc102af722c3494d4"), looks := true }, kinds := [], alts := [], laidByText := true, laidKinds := [.data, .data, .data, .sentinel, .sentinel], laidTests := true, laidLooks := .later }
def ActsFormsCardSaid : Prop := Claim7.holds Tryd.pinned (.plain (OpenSpec.ofChange actsFormsSpec)) actsFormsCard

/-- THE TIED CARD OF 'fettlelaw6.ActsGrow'. -/
def actsGrowCard : Claim7 := { stood := { row := actsGrowRow, standIns := [], harness := (true, "eb0ce46a40c7015cd2026627d9eb1bc047db3121a5668cadc102af722c3494d4"), looks := true }, kinds := [], alts := [], laidByText := true, laidKinds := [.data, .data, .data, .sentinel, .sentinel], laidTests := true, laidLooks := .later }
def ActsGrowCardSaid : Prop := Claim7.holds Tryd.pinned (.plain (OpenSpec.ofChange actsGrowSpec)) actsGrowCard

/-- THE SECOND FORM's CARD OF 'fettlelaw6.ActsBack'. -/
def actsBackUptoCard : Claim7 := { stood := { row := actsBackUptoRow, standIns := [], harness := (true, "eb0ce46a40c7015cd2026627d9eb1bc047db3121a5668cadc102af722c3494d4"), looks := true }, kinds := [], alts := [], laidByText := true, laidKinds := [.data, .data, .data, .sentinel, .sentinel], laidTests := true, laidLooks := .later }
def ActsBackUptoCardSaid : Prop := Claim7.holds Tryd.pinned (.plain (OpenSpec.upto actsBackSpec)) actsBackUptoCard

/-- THE SECOND FORM's CARD OF 'fettlelaw6.ActsApart'. -/
def actsApartUptoCard : Claim7 := { stood := { row := actsApartUptoRow, standIns := [], harness := (true, "eb0ce46a40c7015cd2026627d9eb1bc047db3121a5668cadc102af722c3494d4"), looks := true }, kinds := [], alts := [], laidByText := true, laidKinds := [.data, .data, .data, .sentinel, .sentinel], laidTests := true, laidLooks := .later }
def ActsApartUptoCardSaid : Prop := Claim7.holds Tryd.pinned (.plain (OpenSpec.upto actsApartSpec)) actsApartUptoCard

/-- THE SECOND FORM's CARD OF 'fettlelaw6.ActsOwn'. -/
def actsOwnUptoCard : Claim7 := { stood := { row := actsOwnUptoRow, standIns := [], harness := (true, "eb0ce46a40c7015cd2026627d9eb1bc047db3121a5668cadc102af722c3494d4"), looks := true }, kinds := [], alts := [], laidByText := true, laidKinds := [.data, .data, .data, .sentinel, .sentinel], laidTests := true, laidLooks := .later }
def ActsOwnUptoCardSaid : Prop := Claim7.holds Tryd.pinned (.plain (OpenSpec.upto actsOwnSpec)) actsOwnUptoCard

/-- THE SECOND FORM's CARD OF 'fettlelaw6.ActsForms'. -/
def actsFormsUptoCard : Claim7 := { stood := { row := actsFormsUptoRow, standIns := [], harness := (true, "eb0ce46a40c7015cd2026627d9eb1bc047db3121a5668cadc102af722c3494d4"), looks := true }, kinds := [], alts := [], laidByText := true, laidKinds := [.data, .data, .data, .sentinel, .sentinel], laidTests := true, laidLooks := .later }
def ActsFormsUptoCardSaid : Prop := Claim7.holds Tryd.pinned (.plain (OpenSpec.upto actsFormsSpec)) actsFormsUptoCard

/-- THE SECOND FORM's CARD OF 'fettlelaw6.ActsGrow'. -/
def actsGrowUptoCard : Claim7 := { stood := { row := actsGrowUptoRow, standIns := [], harness := (true, "eb0ce46a40c7015cd2026627d9eb1bc047db3121a5668cadc102af722c3494d4"), looks := true }, kinds := [], alts := [], laidByText := true, laidKinds := [.data, .data, .data, .sentinel, .sentinel], laidTests := true, laidLooks := .later }
def ActsGrowUptoCardSaid : Prop := Claim7.holds Tryd.pinned (.plain (OpenSpec.upto actsGrowSpec)) actsGrowUptoCard
end Rows
end Go.Proofs.YtjchjhkhopcalaaDoor
