/-
  DERIVED. GIVEN WITH THE SEED: THE CARDS: each row of YtjmlnnanfkiakaaGreatDoorRows.lean that lists a variable, with what it lists TIED to the program's text (the seventh form; the later family's looks); each row that meets fmt, with fmt's text TOLD by the authors' own Lean function (tested against real Go, not proved from fmt's source: count such statements apart). THE CARD IS WHAT COUNTS. Prove the row's statement (the work); the ties are given (YtjmlnnanfkiakaaGreatDoorTie.lean); close each card by the builder's one call (the guide's Derived/Test/ToyasCard.lean, 'card_holds'). Laid BY PROGRAM, IN A SANDBOX (cutbox-door.mjs). By AI agents, Wed Nov 11 2026. No macro, syntax, notation, axiom, sorry.
-/
import Derived.Test.YtjmlnnanfkiakaaGreatDoorRows
import GoSem.ClaimSeven
namespace Go.Proofs.YtjmlnnanfkiakaaGreatDoor
namespace Rows

/-- THE TIED CARD OF 'lanelaw1.StepsFollow'. -/
def stepsFollowCard : Claim7 := { stood := { row := stepsFollowRow, standIns := [], harness := (true, "5128ed6ff2edcd2bde3e6bd636e45a027c5dc1044c0e09b19016220e2ece3a3b"), looks := true }, kinds := [], alts := [], laidByText := true, laidKinds := [.data, .pinned, .pinned], laidTests := true, laidLooks := .later }
def StepsFollowCardSaid : Prop := Claim7.holds Tryz.pinned (.plain (OpenSpec.ofChange stepsFollowSpec)) stepsFollowCard

/-- THE TIED CARD OF 'lanelaw1.StepsCheck'. -/
def stepsCheckCard : Claim7 := { stood := { row := stepsCheckRow, standIns := [], harness := (true, "5128ed6ff2edcd2bde3e6bd636e45a027c5dc1044c0e09b19016220e2ece3a3b"), looks := true }, kinds := [], alts := [], laidByText := true, laidKinds := [.data, .pinned, .pinned], laidTests := true, laidLooks := .later }
def StepsCheckCardSaid : Prop := Claim7.holds Tryz.pinned (.plain (OpenSpec.ofChange stepsCheckSpec)) stepsCheckCard

/-- THE TIED CARD OF 'lanelaw1.StepTexts'. -/
def stepTextsCard : Claim7 := { stood := { row := stepTextsRow, standIns := [], harness := (true, "5128ed6ff2edcd2bde3e6bd636e45a027c5dc1044c0e09b19016220e2ece3a3b"), looks := true }, kinds := [], alts := [], laidByText := true, laidKinds := [.data, .data, .data, .data, .sentinel, .sentinel, .pinned, .pinned], laidTests := true, laidLooks := .later }
def StepTextsCardSaid : Prop := Claim7.holds Tryz.pinned (.plain (OpenSpec.ofChange stepTextsSpec)) stepTextsCard

/-- THE TIED CARD OF 'lanelaw1.MachinesKnown'. -/
def machinesKnownCard : Claim7 := { stood := { row := machinesKnownRow, standIns := [], harness := (true, "5128ed6ff2edcd2bde3e6bd636e45a027c5dc1044c0e09b19016220e2ece3a3b"), looks := true }, kinds := [], alts := [], laidByText := true, laidKinds := [.data, .pinned, .pinned], laidTests := true, laidLooks := .later }
def MachinesKnownCardSaid : Prop := Claim7.holds Tryz.pinned (.plain (OpenSpec.ofChange machinesKnownSpec)) machinesKnownCard

/-- THE TIED CARD OF 'lanelaw1.KeysKnown'. -/
def keysKnownCard : Claim7 := { stood := { row := keysKnownRow, standIns := [], harness := (true, "5128ed6ff2edcd2bde3e6bd636e45a027c5dc1044c0e09b19016220e2ece3a3b"), looks := true }, kinds := [], alts := [], laidByText := true, laidKinds := [.data, .pinned, .pinned], laidTests := true, laidLooks := .later }
def KeysKnownCardSaid : Prop := Claim7.holds Tryz.pinned (.plain (OpenSpec.ofChange keysKnownSpec)) keysKnownCard

/-- THE TIED CARD OF 'lanelaw1.MachinesLive'. -/
def machinesLiveCard : Claim7 := { stood := { row := machinesLiveRow, standIns := [], harness := (true, "5128ed6ff2edcd2bde3e6bd636e45a027c5dc1044c0e09b19016220e2ece3a3b"), looks := true }, kinds := [], alts := [], laidByText := true, laidKinds := [.data, .pinned, .pinned], laidTests := true, laidLooks := .later }
def MachinesLiveCardSaid : Prop := Claim7.holds Tryz.pinned (.plain (OpenSpec.ofChange machinesLiveSpec)) machinesLiveCard

/-- THE TIED CARD OF 'lanelaw1.NodesMade'. -/
def nodesMadeCard : Claim7 := { stood := { row := nodesMadeRow, standIns := [], harness := (true, "5128ed6ff2edcd2bde3e6bd636e45a027c5dc1044c0e09b19016220e2ece3a3b"), looks := true }, kinds := [], alts := [], laidByText := true, laidKinds := [.data, .pinned, .pinned], laidTests := true, laidLooks := .later }
def NodesMadeCardSaid : Prop := Claim7.holds Tryz.pinned (.plain (OpenSpec.ofChange nodesMadeSpec)) nodesMadeCard

/-- THE SECOND FORM's CARD OF 'lanelaw1.StepsFollow'. -/
def stepsFollowUptoCard : Claim7 := { stood := { row := stepsFollowUptoRow, standIns := [], harness := (true, "5128ed6ff2edcd2bde3e6bd636e45a027c5dc1044c0e09b19016220e2ece3a3b"), looks := true }, kinds := [], alts := [], laidByText := true, laidKinds := [.data, .pinned, .pinned], laidTests := true, laidLooks := .later }
def StepsFollowUptoCardSaid : Prop := Claim7.holds Tryz.pinned (.plain (OpenSpec.upto stepsFollowSpec)) stepsFollowUptoCard

/-- THE SECOND FORM's CARD OF 'lanelaw1.StepsCheck'. -/
def stepsCheckUptoCard : Claim7 := { stood := { row := stepsCheckUptoRow, standIns := [], harness := (true, "5128ed6ff2edcd2bde3e6bd636e45a027c5dc1044c0e09b19016220e2ece3a3b"), looks := true }, kinds := [], alts := [], laidByText := true, laidKinds := [.data, .pinned, .pinned], laidTests := true, laidLooks := .later }
def StepsCheckUptoCardSaid : Prop := Claim7.holds Tryz.pinned (.plain (OpenSpec.upto stepsCheckSpec)) stepsCheckUptoCard

/-- THE SECOND FORM's CARD OF 'lanelaw1.StepTexts'. -/
def stepTextsUptoCard : Claim7 := { stood := { row := stepTextsUptoRow, standIns := [], harness := (true, "5128ed6ff2edcd2bde3e6bd636e45a027c5dc1044c0e09b19016220e2ece3a3b"), looks := true }, kinds := [], alts := [], laidByText := true, laidKinds := [.data, .data, .data, .data, .sentinel, .sentinel, .pinned, .pinned], laidTests := true, laidLooks := .later }
def StepTextsUptoCardSaid : Prop := Claim7.holds Tryz.pinned (.plain (OpenSpec.upto stepTextsSpec)) stepTextsUptoCard

/-- THE SECOND FORM's CARD OF 'lanelaw1.MachinesKnown'. -/
def machinesKnownUptoCard : Claim7 := { stood := { row := machinesKnownUptoRow, standIns := [], harness := (true, "5128ed6ff2edcd2bde3e6bd636e45a027c5dc1044c0e09b19016220e2ece3a3b"), looks := true }, kinds := [], alts := [], laidByText := true, laidKinds := [.data, .pinned, .pinned], laidTests := true, laidLooks := .later }
def MachinesKnownUptoCardSaid : Prop := Claim7.holds Tryz.pinned (.plain (OpenSpec.upto machinesKnownSpec)) machinesKnownUptoCard

/-- THE SECOND FORM's CARD OF 'lanelaw1.KeysKnown'. -/
def keysKnownUptoCard : Claim7 := { stood := { row := keysKnownUptoRow, standIns := [], harness := (true, "5128ed6ff2edcd2bde3e6bd636e45a027c5dc1044c0e09b19016220e2ece3a3b"), looks := true }, kinds := [], alts := [], laidByText := true, laidKinds := [.data, .pinned, .pinned], laidTests := true, laidLooks := .later }
def KeysKnownUptoCardSaid : Prop := Claim7.holds Tryz.pinned (.plain (OpenSpec.upto keysKnownSpec)) keysKnownUptoCard

/-- THE SECOND FORM's CARD OF 'lanelaw1.MachinesLive'. -/
def machinesLiveUptoCard : Claim7 := { stood := { row := machinesLiveUptoRow, standIns := [], harness := (true, "5128ed6ff2edcd2bde3e6bd636e45a027c5dc1044c0e09b19016220e2ece3a3b"), looks := true }, kinds := [], alts := [], laidByText := true, laidKinds := [.data, .pinned, .pinned], laidTests := true, laidLooks := .later }
def MachinesLiveUptoCardSaid : Prop := Claim7.holds Tryz.pinned (.plain (OpenSpec.upto machinesLiveSpec)) machinesLiveUptoCard

/-- THE SECOND FORM's CARD OF 'lanelaw1.NodesMade'. -/
def nodesMadeUptoCard : Claim7 := { stood := { row := nodesMadeUptoRow, standIns := [], harness := (true, "5128ed6ff2edcd2bde3e6bd636e45a027c5dc1044c0e09b19016220e2ece3a3b"), looks := true }, kinds := [], alts := [], laidByText := true, laidKinds := [.data, .pinned, .pinned], laidTests := true, laidLooks := .later }
def NodesMadeUptoCardSaid : Prop := Claim7.holds Tryz.pinned (.plain (OpenSpec.upto nodesMadeSpec)) nodesMadeUptoCard
end Rows
end Go.Proofs.YtjmlnnanfkiakaaGreatDoor
