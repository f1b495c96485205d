/-
  DERIVED. GIVEN WITH THE SEED: THE CARDS: each row of YtdihjljlggagiaaGreatDoorRows.lean that lists a variable, with what it lists TIED to the program's text (the seventh form; the later family's looks); each row that meets fmt, with fmt's text TOLD by the authors' own Lean function (tested against real Go, not proved from fmt's source: count such statements apart). THE CARD IS WHAT COUNTS. Prove the row's statement (the work); the ties are given (YtdihjljlggagiaaGreatDoorTie.lean); close each card by the builder's one call (the guide's Derived/Test/ToyasCard.lean, 'card_holds'). Laid BY PROGRAM, IN A SANDBOX (cutbox-door.mjs). By AI agents, Wed Nov 11 2026. No macro, syntax, notation, axiom, sorry.
-/
import Derived.Test.YtdihjljlggagiaaGreatDoorRows
import GoSem.ClaimSeven
namespace Go.Proofs.YtdihjljlggagiaaGreatDoor
namespace Rows

/-- THE TIED CARD OF 'lanelaw1.MessagesRead'. -/
def messagesReadCard : Claim7 := { stood := { row := messagesReadRow, standIns := [], harness := (true, "6be500f20a4137ff0fb748b1c7b4210e0deca785aa5311729ee91a9c001e23f3"), looks := true }, kinds := [], alts := [], laidByText := true, laidKinds := [.data, .pinned], laidTests := true, laidLooks := .later }
def MessagesReadCardSaid : Prop := Claim7.holds Tryz.pinned (.plain (OpenSpec.ofChange messagesReadSpec)) messagesReadCard

/-- THE TIED CARD OF 'lanelaw1.CachesKeep'. -/
def cachesKeepCard : Claim7 := { stood := { row := cachesKeepRow, standIns := [], harness := (true, "6be500f20a4137ff0fb748b1c7b4210e0deca785aa5311729ee91a9c001e23f3"), looks := true }, kinds := [], alts := [], laidByText := true, laidKinds := [.data, .pinned], laidTests := true, laidLooks := .later }
def CachesKeepCardSaid : Prop := Claim7.holds Tryz.pinned (.plain (OpenSpec.ofChange cachesKeepSpec)) cachesKeepCard

/-- THE TIED CARD OF 'lanelaw1.ZoneTexts'. -/
def zoneTextsCard : Claim7 := { stood := { row := zoneTextsRow, standIns := [], harness := (true, "6be500f20a4137ff0fb748b1c7b4210e0deca785aa5311729ee91a9c001e23f3"), looks := true }, kinds := [], alts := [], laidByText := true, laidKinds := [.data, .data, .data, .data, .sentinel, .sentinel, .pinned], laidTests := true, laidLooks := .later }
def ZoneTextsCardSaid : Prop := Claim7.holds Tryz.pinned (.plain (OpenSpec.ofChange zoneTextsSpec)) zoneTextsCard

/-- THE SECOND FORM's CARD OF 'lanelaw1.MessagesRead'. -/
def messagesReadUptoCard : Claim7 := { stood := { row := messagesReadUptoRow, standIns := [], harness := (true, "6be500f20a4137ff0fb748b1c7b4210e0deca785aa5311729ee91a9c001e23f3"), looks := true }, kinds := [], alts := [], laidByText := true, laidKinds := [.data, .pinned], laidTests := true, laidLooks := .later }
def MessagesReadUptoCardSaid : Prop := Claim7.holds Tryz.pinned (.plain (OpenSpec.upto messagesReadSpec)) messagesReadUptoCard

/-- THE SECOND FORM's CARD OF 'lanelaw1.CachesKeep'. -/
def cachesKeepUptoCard : Claim7 := { stood := { row := cachesKeepUptoRow, standIns := [], harness := (true, "6be500f20a4137ff0fb748b1c7b4210e0deca785aa5311729ee91a9c001e23f3"), looks := true }, kinds := [], alts := [], laidByText := true, laidKinds := [.data, .pinned], laidTests := true, laidLooks := .later }
def CachesKeepUptoCardSaid : Prop := Claim7.holds Tryz.pinned (.plain (OpenSpec.upto cachesKeepSpec)) cachesKeepUptoCard

/-- THE SECOND FORM's CARD OF 'lanelaw1.ZoneTexts'. -/
def zoneTextsUptoCard : Claim7 := { stood := { row := zoneTextsUptoRow, standIns := [], harness := (true, "6be500f20a4137ff0fb748b1c7b4210e0deca785aa5311729ee91a9c001e23f3"), looks := true }, kinds := [], alts := [], laidByText := true, laidKinds := [.data, .data, .data, .data, .sentinel, .sentinel, .pinned], laidTests := true, laidLooks := .later }
def ZoneTextsUptoCardSaid : Prop := Claim7.holds Tryz.pinned (.plain (OpenSpec.upto zoneTextsSpec)) zoneTextsUptoCard
end Rows
end Go.Proofs.YtdihjljlggagiaaGreatDoor
