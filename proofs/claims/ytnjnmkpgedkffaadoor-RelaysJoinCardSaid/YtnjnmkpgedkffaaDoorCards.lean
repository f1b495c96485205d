/-
  DERIVED. GIVEN WITH THE SEED: THE CARDS: each row of YtnjnmkpgedkffaaDoorRows.lean that lists a variable, with what it lists TIED to the program's text (the seventh form; the later family's looks); each row that meets fmt, with fmt's text TOLD by the authors' own Lean function (tested against real Go, not proved from fmt's source: count such statements apart). THE CARD IS WHAT COUNTS. Prove the row's statement (the work); the ties are given (YtnjnmkpgedkffaaDoorTie.lean); close each card by the builder's one call (the guide's Derived/Test/ToyasCard.lean, 'card_holds'). Laid BY PROGRAM, IN A SANDBOX (cutbox-door.mjs). By AI agents, Wed Nov 11 2026. No macro, syntax, notation, axiom, sorry.
-/
import Derived.Test.YtnjnmkpgedkffaaDoorRows
import GoSem.ClaimSeven
namespace Go.Proofs.YtnjnmkpgedkffaaDoor
namespace Rows

/-- THE TIED CARD OF 'lanelaw1.HomesChosen'. -/
def homesChosenCard : Claim7 := { stood := { row := homesChosenRow, standIns := [], harness := (true, "14f0fd202366f07df9bace42fbf53886a4086db3d2d121751f69992c29f03a34"), looks := false }, kinds := [], alts := [], laidByText := true, laidKinds := [.data, .pinned], laidTests := true, laidLooks := .later }
def HomesChosenCardSaid : Prop := Claim7.holds Tryd.pinned (.plain (OpenSpec.ofChange homesChosenSpec)) homesChosenCard

/-- THE TIED CARD OF 'lanelaw1.RelaysJoin'. -/
def relaysJoinCard : Claim7 := { stood := { row := relaysJoinRow, standIns := [], harness := (true, "14f0fd202366f07df9bace42fbf53886a4086db3d2d121751f69992c29f03a34"), looks := false }, kinds := [], alts := [], laidByText := true, laidKinds := [.data, .pinned], laidTests := true, laidLooks := .later }
def RelaysJoinCardSaid : Prop := Claim7.holds Tryd.pinned (.plain (OpenSpec.ofChange relaysJoinSpec)) relaysJoinCard

/-- THE TIED CARD OF 'lanelaw1.PathsUsed'. -/
def pathsUsedCard : Claim7 := { stood := { row := pathsUsedRow, standIns := [], harness := (true, "14f0fd202366f07df9bace42fbf53886a4086db3d2d121751f69992c29f03a34"), looks := false }, kinds := [], alts := [], laidByText := true, laidKinds := [.data, .pinned], laidTests := true, laidLooks := .later }
def PathsUsedCardSaid : Prop := Claim7.holds Tryd.pinned (.plain (OpenSpec.ofChange pathsUsedSpec)) pathsUsedCard

/-- THE SECOND FORM's CARD OF 'lanelaw1.HomesChosen'. -/
def homesChosenUptoCard : Claim7 := { stood := { row := homesChosenUptoRow, standIns := [], harness := (true, "14f0fd202366f07df9bace42fbf53886a4086db3d2d121751f69992c29f03a34"), looks := false }, kinds := [], alts := [], laidByText := true, laidKinds := [.data, .pinned], laidTests := true, laidLooks := .later }
def HomesChosenUptoCardSaid : Prop := Claim7.holds Tryd.pinned (.plain (OpenSpec.upto homesChosenSpec)) homesChosenUptoCard

/-- THE SECOND FORM's CARD OF 'lanelaw1.RelaysJoin'. -/
def relaysJoinUptoCard : Claim7 := { stood := { row := relaysJoinUptoRow, standIns := [], harness := (true, "14f0fd202366f07df9bace42fbf53886a4086db3d2d121751f69992c29f03a34"), looks := false }, kinds := [], alts := [], laidByText := true, laidKinds := [.data, .pinned], laidTests := true, laidLooks := .later }
def RelaysJoinUptoCardSaid : Prop := Claim7.holds Tryd.pinned (.plain (OpenSpec.upto relaysJoinSpec)) relaysJoinUptoCard

/-- THE SECOND FORM's CARD OF 'lanelaw1.PathsUsed'. -/
def pathsUsedUptoCard : Claim7 := { stood := { row := pathsUsedUptoRow, standIns := [], harness := (true, "14f0fd202366f07df9bace42fbf53886a4086db3d2d121751f69992c29f03a34"), looks := false }, kinds := [], alts := [], laidByText := true, laidKinds := [.data, .pinned], laidTests := true, laidLooks := .later }
def PathsUsedUptoCardSaid : Prop := Claim7.holds Tryd.pinned (.plain (OpenSpec.upto pathsUsedSpec)) pathsUsedUptoCard
end Rows
end Go.Proofs.YtnjnmkpgedkffaaDoor
