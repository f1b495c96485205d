/-
  DERIVED. GIVEN WITH THE SEED: THE CARDS: each row of YtffmljbfffojlaaGreatDoorRows.lean that lists a variable, with what it lists TIED to the program's text (the seventh form; the later family's looks); each row that meets fmt, with fmt's text TOLD by the authors' own Lean function (tested against real Go, not proved from fmt's source: count such statements apart). THE CARD IS WHAT COUNTS. Prove the row's statement (the work); the ties are given (YtffmljbfffojlaaGreatDoorTie.lean); close each card by the builder's one call (the guide's Derived/Test/ToyasCard.lean, 'card_holds'). Laid BY PROGRAM, IN A SANDBOX (cutbox-door.mjs). By AI agents, Wed Nov 11 2026. No macro, syntax, notation, axiom, sorry.
-/
import Derived.Test.YtffmljbfffojlaaGreatDoorRows
import GoSem.ClaimSeven
namespace Go.Proofs.YtffmljbfffojlaaGreatDoor
namespace Rows

/-- THE TIED CARD OF 'lanelaw1.AddressesNamed'. -/
def addressesNamedCard : Claim7 := { stood := { row := addressesNamedRow, standIns := [], harness := (true, "224167f5486498d46fff132d08239b4fe920ee0e1e14e1f46550277d288eb133"), looks := true }, kinds := [], alts := [], laidByText := true, laidKinds := [.data, .data, .data, .data, .sentinel, .sentinel, .pinned], laidTests := true, laidLooks := .later }
def AddressesNamedCardSaid : Prop := Claim7.holds Tryz.pinned (.plain (OpenSpec.ofChange addressesNamedSpec)) addressesNamedCard

/-- THE TIED CARD OF 'lanelaw1.ZonesMade'. -/
def zonesMadeCard : Claim7 := { stood := { row := zonesMadeRow, standIns := [], harness := (true, "224167f5486498d46fff132d08239b4fe920ee0e1e14e1f46550277d288eb133"), looks := true }, kinds := [], alts := [], laidByText := true, laidKinds := [.data, .data, .data, .data, .pinned], laidTests := true, laidLooks := .later }
def ZonesMadeCardSaid : Prop := Claim7.holds Tryz.pinned (.plain (OpenSpec.ofChange zonesMadeSpec)) zonesMadeCard

/-- THE SECOND FORM's CARD OF 'lanelaw1.AddressesNamed'. -/
def addressesNamedUptoCard : Claim7 := { stood := { row := addressesNamedUptoRow, standIns := [], harness := (true, "224167f5486498d46fff132d08239b4fe920ee0e1e14e1f46550277d288eb133"), looks := true }, kinds := [], alts := [], laidByText := true, laidKinds := [.data, .data, .data, .data, .sentinel, .sentinel, .pinned], laidTests := true, laidLooks := .later }
def AddressesNamedUptoCardSaid : Prop := Claim7.holds Tryz.pinned (.plain (OpenSpec.upto addressesNamedSpec)) addressesNamedUptoCard

/-- THE SECOND FORM's CARD OF 'lanelaw1.ZonesMade'. -/
def zonesMadeUptoCard : Claim7 := { stood := { row := zonesMadeUptoRow, standIns := [], harness := (true, "224167f5486498d46fff132d08239b4fe920ee0e1e14e1f46550277d288eb133"), looks := true }, kinds := [], alts := [], laidByText := true, laidKinds := [.data, .data, .data, .data, .pinned], laidTests := true, laidLooks := .later }
def ZonesMadeUptoCardSaid : Prop := Claim7.holds Tryz.pinned (.plain (OpenSpec.upto zonesMadeSpec)) zonesMadeUptoCard
end Rows
end Go.Proofs.YtffmljbfffojlaaGreatDoor
