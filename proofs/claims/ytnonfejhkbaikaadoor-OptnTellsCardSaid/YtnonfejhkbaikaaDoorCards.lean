/-
  DERIVED. GIVEN WITH THE SEED: THE CARDS: each row of YtnonfejhkbaikaaDoorRows.lean that lists a variable, with what it lists TIED to the program's text (the seventh form; the later family's looks); each row that meets fmt, with fmt's text TOLD by the authors' own Lean function (tested against real Go, not proved from fmt's source: count such statements apart). THE CARD IS WHAT COUNTS. Prove the row's statement (the work); the ties are given (YtnonfejhkbaikaaDoorTie.lean); close each card by the builder's one call (the guide's Derived/Test/ToyasCard.lean, 'card_holds'). Laid BY PROGRAM, IN A SANDBOX (cutbox-door.mjs). By AI agents, Wed Nov 11 2026. No macro, syntax, notation, axiom, sorry.
-/
import Derived.Test.YtnonfejhkbaikaaDoorRows
import GoSem.ClaimSeven
namespace Go.Proofs.YtnonfejhkbaikaaDoor
namespace Rows

/-- THE TIED CARD OF 'fettlelaw21.OptnBack'. -/
def optnBackCard : Claim7 := { stood := { row := optnBackRow, standIns := [], harness := (true, "6853d81ea04c95e0ed7b3ee0f5e89c31a662da9cfd0663f262e86b38fba23373"), looks := true }, kinds := [], alts := [], laidByText := true, laidKinds := [.data, .pinned], laidTests := true, laidLooks := .later }
def OptnBackCardSaid : Prop := Claim7.holds Tryd.pinned (.plain (OpenSpec.ofChange optnBackSpec)) optnBackCard

/-- THE TIED CARD OF 'fettlelaw21.OptnTells'. -/
def optnTellsCard : Claim7 := { stood := { row := optnTellsRow, standIns := [], harness := (true, "6853d81ea04c95e0ed7b3ee0f5e89c31a662da9cfd0663f262e86b38fba23373"), looks := true }, kinds := [], alts := [], laidByText := true, laidKinds := [.data, .pinned], laidTests := true, laidLooks := .later }
def OptnTellsCardSaid : Prop := Claim7.holds Tryd.pinned (.plain (OpenSpec.ofChange optnTellsSpec)) optnTellsCard

/-- THE TIED CARD OF 'fettlelaw6.ActsBack'. -/
def actsBackCard : Claim7 := { stood := { row := actsBackRow, standIns := [], harness := (true, "6853d81ea04c95e0ed7b3ee0f5e89c31a662da9cfd0663f262e86b38fba23373"), looks := true }, kinds := [], alts := [], laidByText := true, laidKinds := [.data, .data, .data, .sentinel, .sentinel], laidTests := true, laidLooks := .later }
def ActsBackCardSaid : Prop := Claim7.holds Tryd.pinned (.plain (OpenSpec.ofChange actsBackSpec)) actsBackCard

/-- THE SECOND FORM's CARD OF 'fettlelaw21.OptnBack'. -/
def optnBackUptoCard : Claim7 := { stood := { row := optnBackUptoRow, standIns := [], harness := (true, "6853d81ea04c95e0ed7b3ee0f5e89c31a662da9cfd0663f262e86b38fba23373"), looks := true }, kinds := [], alts := [], laidByText := true, laidKinds := [.data, .pinned], laidTests := true, laidLooks := .later }
def OptnBackUptoCardSaid : Prop := Claim7.holds Tryd.pinned (.plain (OpenSpec.upto optnBackSpec)) optnBackUptoCard

/-- THE SECOND FORM's CARD OF 'fettlelaw21.OptnTells'. -/
def optnTellsUptoCard : Claim7 := { stood := { row := optnTellsUptoRow, standIns := [], harness := (true, "6853d81ea04c95e0ed7b3ee0f5e89c31a662da9cfd0663f262e86b38fba23373"), looks := true }, kinds := [], alts := [], laidByText := true, laidKinds := [.data, .pinned], laidTests := true, laidLooks := .later }
def OptnTellsUptoCardSaid : Prop := Claim7.holds Tryd.pinned (.plain (OpenSpec.upto optnTellsSpec)) optnTellsUptoCard

/-- THE SECOND FORM's CARD OF 'fettlelaw6.ActsBack'. -/
def actsBackUptoCard : Claim7 := { stood := { row := actsBackUptoRow, standIns := [], harness := (true, "6853d81ea04c95e0ed7b3ee0f5e89c31a662da9cfd0663f262e86b38fba23373"), looks := true }, kinds := [], alts := [], laidByText := true, laidKinds := [.data, .data, .data, .sentinel, .sentinel], laidTests := true, laidLooks := .later }
def ActsBackUptoCardSaid : Prop := Claim7.holds Tryd.pinned (.plain (OpenSpec.upto actsBackSpec)) actsBackUptoCard
end Rows
end Go.Proofs.YtnonfejhkbaikaaDoor
