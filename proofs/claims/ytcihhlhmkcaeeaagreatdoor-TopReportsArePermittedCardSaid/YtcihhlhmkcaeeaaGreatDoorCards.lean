/-
  DERIVED. GIVEN WITH THE SEED: THE CARDS: each row of YtcihhlhmkcaeeaaGreatDoorRows.lean that lists a variable, with what it lists TIED to the program's text (the seventh form; the later family's looks); each row that meets fmt, with fmt's text TOLD by the authors' own Lean function (tested against real Go, not proved from fmt's source: count such statements apart). THE CARD IS WHAT COUNTS. Prove the row's statement (the work); the ties are given (YtcihhlhmkcaeeaaGreatDoorTie.lean); close each card by the builder's one call (the guide's Derived/Test/ToyasCard.lean, 'card_holds'). Laid BY PROGRAM, IN A SANDBOX (cutbox-door.mjs). By AI agents, Wed Nov 11 2026. No macro, syntax, notation, axiom, sorry.
-/
import Derived.Test.YtcihhlhmkcaeeaaGreatDoorRows
import GoSem.ClaimSeven
namespace Go.Proofs.YtcihhlhmkcaeeaaGreatDoor
namespace Rows

/-- THE TIED CARD OF 'lanetop.TopReportsArePermitted'. -/
def topReportsArePermittedCard : Claim7 := { stood := { row := topReportsArePermittedRow, standIns := [], harness := (true, "daf2996b3a5b4606d6314256e24f3593e44535556f9fec96f9335a03f9dc05ce"), looks := true }, kinds := [], alts := [], laidByText := true, laidKinds := [.data, .data, .data, .data, .sentinel, .sentinel, .pinned], laidTests := true, laidLooks := .later }
def TopReportsArePermittedCardSaid : Prop := Claim7.holds Tryz.pinned (.plain (OpenSpec.ofChange topReportsArePermittedSpec)) topReportsArePermittedCard

/-- THE SECOND FORM's CARD OF 'lanetop.TopReportsArePermitted'. -/
def topReportsArePermittedUptoCard : Claim7 := { stood := { row := topReportsArePermittedUptoRow, standIns := [], harness := (true, "daf2996b3a5b4606d6314256e24f3593e44535556f9fec96f9335a03f9dc05ce"), looks := true }, kinds := [], alts := [], laidByText := true, laidKinds := [.data, .data, .data, .data, .sentinel, .sentinel, .pinned], laidTests := true, laidLooks := .later }
def TopReportsArePermittedUptoCardSaid : Prop := Claim7.holds Tryz.pinned (.plain (OpenSpec.upto topReportsArePermittedSpec)) topReportsArePermittedUptoCard
end Rows
end Go.Proofs.YtcihhlhmkcaeeaaGreatDoor
