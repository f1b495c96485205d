/-
  DERIVED. GIVEN WITH THE SEED: THE CARDS: each row of YtimglghcggljcaaGreatDoorRows.lean that lists a variable, with what it lists TIED to the program's text (the seventh form; the later family's looks); each row that meets fmt, with fmt's text TOLD by the authors' own Lean function (tested against real Go, not proved from fmt's source: count such statements apart). THE CARD IS WHAT COUNTS. Prove the row's statement (the work); the ties are given (YtimglghcggljcaaGreatDoorTie.lean); close each card by the builder's one call (the guide's Derived/Test/ToyasCard.lean, 'card_holds'). Laid BY PROGRAM, IN A SANDBOX (cutbox-door.mjs). By AI agents, Wed Nov 11 2026. No macro, syntax, notation, axiom, sorry.
-/
import Derived.Test.YtimglghcggljcaaGreatDoorRows
import GoSem.ClaimSeven
namespace Go.Proofs.YtimglghcggljcaaGreatDoor
namespace Rows

/-- THE TIED CARD OF 'lanelaw1.MessagesWritten'. -/
def messagesWrittenCard : Claim7 := { stood := { row := messagesWrittenRow, standIns := [], harness := (true, "bb2ffe86ffedfc862b0c8f6172a0f28308ccc2057cde8e1b7aaa4cd15d3b9dc8"), looks := true }, kinds := [], alts := [], laidByText := true, laidKinds := [.data, .pinned], laidTests := true, laidLooks := .later }
def MessagesWrittenCardSaid : Prop := Claim7.holds Tryz.pinned (.plain (OpenSpec.ofChange messagesWrittenSpec)) messagesWrittenCard

/-- THE TIED CARD OF 'lanelaw1.MessagesRead'. -/
def messagesReadCard : Claim7 := { stood := { row := messagesReadRow, standIns := [], harness := (true, "bb2ffe86ffedfc862b0c8f6172a0f28308ccc2057cde8e1b7aaa4cd15d3b9dc8"), looks := true }, kinds := [], alts := [], laidByText := true, laidKinds := [.data, .pinned], laidTests := true, laidLooks := .later }
def MessagesReadCardSaid : Prop := Claim7.holds Tryz.pinned (.plain (OpenSpec.ofChange messagesReadSpec)) messagesReadCard

/-- THE TIED CARD OF 'lanelaw1.AddressesNamed'. -/
def addressesNamedCard : Claim7 := { stood := { row := addressesNamedRow, standIns := [], harness := (true, "bb2ffe86ffedfc862b0c8f6172a0f28308ccc2057cde8e1b7aaa4cd15d3b9dc8"), looks := true }, kinds := [], alts := [], laidByText := true, laidKinds := [.data, .data, .data, .data, .sentinel, .sentinel, .pinned], laidTests := true, laidLooks := .later }
def AddressesNamedCardSaid : Prop := Claim7.holds Tryz.pinned (.plain (OpenSpec.ofChange addressesNamedSpec)) addressesNamedCard

/-- THE TIED CARD OF 'lanelaw1.CachesKeep'. -/
def cachesKeepCard : Claim7 := { stood := { row := cachesKeepRow, standIns := [], harness := (true, "bb2ffe86ffedfc862b0c8f6172a0f28308ccc2057cde8e1b7aaa4cd15d3b9dc8"), looks := true }, kinds := [], alts := [], laidByText := true, laidKinds := [.data, .pinned], laidTests := true, laidLooks := .later }
def CachesKeepCardSaid : Prop := Claim7.holds Tryz.pinned (.plain (OpenSpec.ofChange cachesKeepSpec)) cachesKeepCard

/-- THE SECOND FORM's CARD OF 'lanelaw1.MessagesWritten'. -/
def messagesWrittenUptoCard : Claim7 := { stood := { row := messagesWrittenUptoRow, standIns := [], harness := (true, "bb2ffe86ffedfc862b0c8f6172a0f28308ccc2057cde8e1b7aaa4cd15d3b9dc8"), looks := true }, kinds := [], alts := [], laidByText := true, laidKinds := [.data, .pinned], laidTests := true, laidLooks := .later }
def MessagesWrittenUptoCardSaid : Prop := Claim7.holds Tryz.pinned (.plain (OpenSpec.upto messagesWrittenSpec)) messagesWrittenUptoCard

/-- THE SECOND FORM's CARD OF 'lanelaw1.MessagesRead'. -/
def messagesReadUptoCard : Claim7 := { stood := { row := messagesReadUptoRow, standIns := [], harness := (true, "bb2ffe86ffedfc862b0c8f6172a0f28308ccc2057cde8e1b7aaa4cd15d3b9dc8"), looks := true }, kinds := [], alts := [], laidByText := true, laidKinds := [.data, .pinned], laidTests := true, laidLooks := .later }
def MessagesReadUptoCardSaid : Prop := Claim7.holds Tryz.pinned (.plain (OpenSpec.upto messagesReadSpec)) messagesReadUptoCard

/-- THE SECOND FORM's CARD OF 'lanelaw1.AddressesNamed'. -/
def addressesNamedUptoCard : Claim7 := { stood := { row := addressesNamedUptoRow, standIns := [], harness := (true, "bb2ffe86ffedfc862b0c8f6172a0f28308ccc2057cde8e1b7aaa4cd15d3b9dc8"), looks := true }, kinds := [], alts := [], laidByText := true, laidKinds := [.data, .data, .data, .data, .sentinel, .sentinel, .pinned], laidTests := true, laidLooks := .later }
def AddressesNamedUptoCardSaid : Prop := Claim7.holds Tryz.pinned (.plain (OpenSpec.upto addressesNamedSpec)) addressesNamedUptoCard

/-- THE SECOND FORM's CARD OF 'lanelaw1.CachesKeep'. -/
def cachesKeepUptoCard : Claim7 := { stood := { row := cachesKeepUptoRow, standIns := [], harness := (true, "bb2ffe86ffedfc862b0c8f6172a0f28308ccc2057cde8e1b7aaa4cd15d3b9dc8"), looks := true }, kinds := [], alts := [], laidByText := true, laidKinds := [.data, .pinned], laidTests := true, laidLooks := .later }
def CachesKeepUptoCardSaid : Prop := Claim7.holds Tryz.pinned (.plain (OpenSpec.upto cachesKeepSpec)) cachesKeepUptoCard
end Rows
end Go.Proofs.YtimglghcggljcaaGreatDoor
