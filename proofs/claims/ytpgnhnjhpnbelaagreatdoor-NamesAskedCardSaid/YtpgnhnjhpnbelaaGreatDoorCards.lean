/-
  DERIVED. GIVEN WITH THE SEED: THE CARDS: each row of YtpgnhnjhpnbelaaGreatDoorRows.lean that lists a variable, with what it lists TIED to the program's text (the seventh form; the later family's looks); each row that meets fmt, with fmt's text TOLD by the authors' own Lean function (tested against real Go, not proved from fmt's source: count such statements apart). THE CARD IS WHAT COUNTS. Prove the row's statement (the work); the ties are given (YtpgnhnjhpnbelaaGreatDoorTie.lean); close each card by the builder's one call (the guide's Derived/Test/ToyasCard.lean, 'card_holds'). Laid BY PROGRAM, IN A SANDBOX (cutbox-door.mjs). By AI agents, Wed Nov 11 2026. No macro, syntax, notation, axiom, sorry.
-/
import Derived.Test.YtpgnhnjhpnbelaaGreatDoorRows
import GoSem.ClaimSeven
namespace Go.Proofs.YtpgnhnjhpnbelaaGreatDoor
namespace Rows

/-- THE TIED CARD OF 'lanelaw1.MessagesWritten'. -/
def messagesWrittenCard : Claim7 := { stood := { row := messagesWrittenRow, standIns := [], harness := (true, "f9b0cf11d10f47c79128b9c5b5e10e8da871b47b143f5b106a133bd16cf784bf"), looks := true }, kinds := [], alts := [], laidByText := true, laidKinds := [.data, .pinned], laidTests := true, laidLooks := .later }
def MessagesWrittenCardSaid : Prop := Claim7.holds Tryz.pinned (.plain (OpenSpec.ofChange messagesWrittenSpec)) messagesWrittenCard

/-- THE TIED CARD OF 'lanelaw1.MessagesRead'. -/
def messagesReadCard : Claim7 := { stood := { row := messagesReadRow, standIns := [], harness := (true, "f9b0cf11d10f47c79128b9c5b5e10e8da871b47b143f5b106a133bd16cf784bf"), looks := true }, kinds := [], alts := [], laidByText := true, laidKinds := [.data, .pinned], laidTests := true, laidLooks := .later }
def MessagesReadCardSaid : Prop := Claim7.holds Tryz.pinned (.plain (OpenSpec.ofChange messagesReadSpec)) messagesReadCard

/-- THE TIED CARD OF 'lanelaw1.ZonesFound'. -/
def zonesFoundCard : Claim7 := { stood := { row := zonesFoundRow, standIns := [], harness := (true, "f9b0cf11d10f47c79128b9c5b5e10e8da871b47b143f5b106a133bd16cf784bf"), looks := true }, kinds := [], alts := [], laidByText := true, laidKinds := [.data, .pinned], laidTests := true, laidLooks := .later }
def ZonesFoundCardSaid : Prop := Claim7.holds Tryz.pinned (.plain (OpenSpec.ofChange zonesFoundSpec)) zonesFoundCard

/-- THE TIED CARD OF 'lanelaw1.AddressesNamed'. -/
def addressesNamedCard : Claim7 := { stood := { row := addressesNamedRow, standIns := [], harness := (true, "f9b0cf11d10f47c79128b9c5b5e10e8da871b47b143f5b106a133bd16cf784bf"), looks := true }, kinds := [], alts := [], laidByText := true, laidKinds := [.data, .data, .data, .data, .sentinel, .sentinel, .pinned], laidTests := true, laidLooks := .later }
def AddressesNamedCardSaid : Prop := Claim7.holds Tryz.pinned (.plain (OpenSpec.ofChange addressesNamedSpec)) addressesNamedCard

/-- THE TIED CARD OF 'lanelaw1.CachesKeep'. -/
def cachesKeepCard : Claim7 := { stood := { row := cachesKeepRow, standIns := [], harness := (true, "f9b0cf11d10f47c79128b9c5b5e10e8da871b47b143f5b106a133bd16cf784bf"), looks := true }, kinds := [], alts := [], laidByText := true, laidKinds := [.data, .pinned], laidTests := true, laidLooks := .later }
def CachesKeepCardSaid : Prop := Claim7.holds Tryz.pinned (.plain (OpenSpec.ofChange cachesKeepSpec)) cachesKeepCard

/-- THE TIED CARD OF 'lanelaw1.NamesAsked'. -/
def namesAskedCard : Claim7 := { stood := { row := namesAskedRow, standIns := [], harness := (true, "f9b0cf11d10f47c79128b9c5b5e10e8da871b47b143f5b106a133bd16cf784bf"), looks := true }, kinds := [], alts := [], laidByText := true, laidKinds := [.data, .pinned], laidTests := true, laidLooks := .later }
def NamesAskedCardSaid : Prop := Claim7.holds Tryz.pinned (.plain (OpenSpec.ofChange namesAskedSpec)) namesAskedCard

/-- THE TIED CARD OF 'lanelaw1.NodesCalled'. -/
def nodesCalledCard : Claim7 := { stood := { row := nodesCalledRow, standIns := [], harness := (true, "f9b0cf11d10f47c79128b9c5b5e10e8da871b47b143f5b106a133bd16cf784bf"), looks := true }, kinds := [], alts := [], laidByText := true, laidKinds := [.data, .data, .data, .data, .pinned], laidTests := true, laidLooks := .later }
def NodesCalledCardSaid : Prop := Claim7.holds Tryz.pinned (.plain (OpenSpec.ofChange nodesCalledSpec)) nodesCalledCard

/-- THE TIED CARD OF 'lanelaw1.ZonesMade'. -/
def zonesMadeCard : Claim7 := { stood := { row := zonesMadeRow, standIns := [], harness := (true, "f9b0cf11d10f47c79128b9c5b5e10e8da871b47b143f5b106a133bd16cf784bf"), looks := true }, kinds := [], alts := [], laidByText := true, laidKinds := [.data, .data, .data, .data, .pinned], laidTests := true, laidLooks := .later }
def ZonesMadeCardSaid : Prop := Claim7.holds Tryz.pinned (.plain (OpenSpec.ofChange zonesMadeSpec)) zonesMadeCard

/-- THE TIED CARD OF 'lanelaw1.ZoneTexts'. -/
def zoneTextsCard : Claim7 := { stood := { row := zoneTextsRow, standIns := [], harness := (true, "f9b0cf11d10f47c79128b9c5b5e10e8da871b47b143f5b106a133bd16cf784bf"), looks := true }, kinds := [], alts := [], laidByText := true, laidKinds := [.data, .data, .data, .data, .sentinel, .sentinel, .pinned], laidTests := true, laidLooks := .later }
def ZoneTextsCardSaid : Prop := Claim7.holds Tryz.pinned (.plain (OpenSpec.ofChange zoneTextsSpec)) zoneTextsCard

/-- THE SECOND FORM's CARD OF 'lanelaw1.MessagesWritten'. -/
def messagesWrittenUptoCard : Claim7 := { stood := { row := messagesWrittenUptoRow, standIns := [], harness := (true, "f9b0cf11d10f47c79128b9c5b5e10e8da871b47b143f5b106a133bd16cf784bf"), looks := true }, kinds := [], alts := [], laidByText := true, laidKinds := [.data, .pinned], laidTests := true, laidLooks := .later }
def MessagesWrittenUptoCardSaid : Prop := Claim7.holds Tryz.pinned (.plain (OpenSpec.upto messagesWrittenSpec)) messagesWrittenUptoCard

/-- THE SECOND FORM's CARD OF 'lanelaw1.MessagesRead'. -/
def messagesReadUptoCard : Claim7 := { stood := { row := messagesReadUptoRow, standIns := [], harness := (true, "f9b0cf11d10f47c79128b9c5b5e10e8da871b47b143f5b106a133bd16cf784bf"), looks := true }, kinds := [], alts := [], laidByText := true, laidKinds := [.data, .pinned], laidTests := true, laidLooks := .later }
def MessagesReadUptoCardSaid : Prop := Claim7.holds Tryz.pinned (.plain (OpenSpec.upto messagesReadSpec)) messagesReadUptoCard

/-- THE SECOND FORM's CARD OF 'lanelaw1.ZonesFound'. -/
def zonesFoundUptoCard : Claim7 := { stood := { row := zonesFoundUptoRow, standIns := [], harness := (true, "f9b0cf11d10f47c79128b9c5b5e10e8da871b47b143f5b106a133bd16cf784bf"), looks := true }, kinds := [], alts := [], laidByText := true, laidKinds := [.data, .pinned], laidTests := true, laidLooks := .later }
def ZonesFoundUptoCardSaid : Prop := Claim7.holds Tryz.pinned (.plain (OpenSpec.upto zonesFoundSpec)) zonesFoundUptoCard

/-- THE SECOND FORM's CARD OF 'lanelaw1.AddressesNamed'. -/
def addressesNamedUptoCard : Claim7 := { stood := { row := addressesNamedUptoRow, standIns := [], harness := (true, "f9b0cf11d10f47c79128b9c5b5e10e8da871b47b143f5b106a133bd16cf784bf"), looks := true }, kinds := [], alts := [], laidByText := true, laidKinds := [.data, .data, .data, .data, .sentinel, .sentinel, .pinned], laidTests := true, laidLooks := .later }
def AddressesNamedUptoCardSaid : Prop := Claim7.holds Tryz.pinned (.plain (OpenSpec.upto addressesNamedSpec)) addressesNamedUptoCard

/-- THE SECOND FORM's CARD OF 'lanelaw1.CachesKeep'. -/
def cachesKeepUptoCard : Claim7 := { stood := { row := cachesKeepUptoRow, standIns := [], harness := (true, "f9b0cf11d10f47c79128b9c5b5e10e8da871b47b143f5b106a133bd16cf784bf"), looks := true }, kinds := [], alts := [], laidByText := true, laidKinds := [.data, .pinned], laidTests := true, laidLooks := .later }
def CachesKeepUptoCardSaid : Prop := Claim7.holds Tryz.pinned (.plain (OpenSpec.upto cachesKeepSpec)) cachesKeepUptoCard

/-- THE SECOND FORM's CARD OF 'lanelaw1.NamesAsked'. -/
def namesAskedUptoCard : Claim7 := { stood := { row := namesAskedUptoRow, standIns := [], harness := (true, "f9b0cf11d10f47c79128b9c5b5e10e8da871b47b143f5b106a133bd16cf784bf"), looks := true }, kinds := [], alts := [], laidByText := true, laidKinds := [.data, .pinned], laidTests := true, laidLooks := .later }
def NamesAskedUptoCardSaid : Prop := Claim7.holds Tryz.pinned (.plain (OpenSpec.upto namesAskedSpec)) namesAskedUptoCard

/-- THE SECOND FORM's CARD OF 'lanelaw1.NodesCalled'. -/
def nodesCalledUptoCard : Claim7 := { stood := { row := nodesCalledUptoRow, standIns := [], harness := (true, "f9b0cf11d10f47c79128b9c5b5e10e8da871b47b143f5b106a133bd16cf784bf"), looks := true }, kinds := [], alts := [], laidByText := true, laidKinds := [.data, .data, .data, .data, .pinned], laidTests := true, laidLooks := .later }
def NodesCalledUptoCardSaid : Prop := Claim7.holds Tryz.pinned (.plain (OpenSpec.upto nodesCalledSpec)) nodesCalledUptoCard

/-- THE SECOND FORM's CARD OF 'lanelaw1.ZonesMade'. -/
def zonesMadeUptoCard : Claim7 := { stood := { row := zonesMadeUptoRow, standIns := [], harness := (true, "f9b0cf11d10f47c79128b9c5b5e10e8da871b47b143f5b106a133bd16cf784bf"), looks := true }, kinds := [], alts := [], laidByText := true, laidKinds := [.data, .data, .data, .data, .pinned], laidTests := true, laidLooks := .later }
def ZonesMadeUptoCardSaid : Prop := Claim7.holds Tryz.pinned (.plain (OpenSpec.upto zonesMadeSpec)) zonesMadeUptoCard

/-- THE SECOND FORM's CARD OF 'lanelaw1.ZoneTexts'. -/
def zoneTextsUptoCard : Claim7 := { stood := { row := zoneTextsUptoRow, standIns := [], harness := (true, "f9b0cf11d10f47c79128b9c5b5e10e8da871b47b143f5b106a133bd16cf784bf"), looks := true }, kinds := [], alts := [], laidByText := true, laidKinds := [.data, .data, .data, .data, .sentinel, .sentinel, .pinned], laidTests := true, laidLooks := .later }
def ZoneTextsUptoCardSaid : Prop := Claim7.holds Tryz.pinned (.plain (OpenSpec.upto zoneTextsSpec)) zoneTextsUptoCard
end Rows
end Go.Proofs.YtpgnhnjhpnbelaaGreatDoor
