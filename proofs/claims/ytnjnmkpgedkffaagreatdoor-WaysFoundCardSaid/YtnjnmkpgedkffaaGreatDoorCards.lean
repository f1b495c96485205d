/-
  DERIVED. GIVEN WITH THE SEED: THE CARDS: each row of YtnjnmkpgedkffaaGreatDoorRows.lean that lists a variable, with what it lists TIED to the program's text (the seventh form; the later family's looks); each row that meets fmt, with fmt's text TOLD by the authors' own Lean function (tested against real Go, not proved from fmt's source: count such statements apart). THE CARD IS WHAT COUNTS. Prove the row's statement (the work); the ties are given (YtnjnmkpgedkffaaGreatDoorTie.lean); close each card by the builder's one call (the guide's Derived/Test/ToyasCard.lean, 'card_holds'). Laid BY PROGRAM, IN A SANDBOX (cutbox-door.mjs). By AI agents, Wed Nov 11 2026. No macro, syntax, notation, axiom, sorry.
-/
import Derived.Test.YtnjnmkpgedkffaaGreatDoorRows
import GoSem.ClaimSeven
namespace Go.Proofs.YtnjnmkpgedkffaaGreatDoor
namespace Rows

/-- THE TIED CARD OF 'lanelaw1.WaysFound'. -/
def waysFoundCard : Claim7 := { stood := { row := waysFoundRow, standIns := [], harness := (true, "2f30551b3966fcc14132a775411c86dbf86aae2d699a83f994e50d7ec293f57c"), looks := true }, kinds := [], alts := [], laidByText := true, laidKinds := [.data, .pinned], laidTests := true, laidLooks := .later }
def WaysFoundCardSaid : Prop := Claim7.holds Tryz.pinned (.plain (OpenSpec.ofChange waysFoundSpec)) waysFoundCard

/-- THE TIED CARD OF 'lanelaw1.RoutersLead'. -/
def routersLeadCard : Claim7 := { stood := { row := routersLeadRow, standIns := [], harness := (true, "2f30551b3966fcc14132a775411c86dbf86aae2d699a83f994e50d7ec293f57c"), looks := true }, kinds := [], alts := [], laidByText := true, laidKinds := [.data, .pinned], laidTests := true, laidLooks := .later }
def RoutersLeadCardSaid : Prop := Claim7.holds Tryz.pinned (.plain (OpenSpec.ofChange routersLeadSpec)) routersLeadCard

/-- THE TIED CARD OF 'lanelaw1.RouterTexts'. -/
def routerTextsCard : Claim7 := { stood := { row := routerTextsRow, standIns := [], harness := (true, "2f30551b3966fcc14132a775411c86dbf86aae2d699a83f994e50d7ec293f57c"), looks := true }, kinds := [], alts := [], laidByText := true, laidKinds := [.data, .data, .data, .data, .sentinel, .sentinel, .pinned], laidTests := true, laidLooks := .later }
def RouterTextsCardSaid : Prop := Claim7.holds Tryz.pinned (.plain (OpenSpec.ofChange routerTextsSpec)) routerTextsCard

/-- THE SECOND FORM's CARD OF 'lanelaw1.WaysFound'. -/
def waysFoundUptoCard : Claim7 := { stood := { row := waysFoundUptoRow, standIns := [], harness := (true, "2f30551b3966fcc14132a775411c86dbf86aae2d699a83f994e50d7ec293f57c"), looks := true }, kinds := [], alts := [], laidByText := true, laidKinds := [.data, .pinned], laidTests := true, laidLooks := .later }
def WaysFoundUptoCardSaid : Prop := Claim7.holds Tryz.pinned (.plain (OpenSpec.upto waysFoundSpec)) waysFoundUptoCard

/-- THE SECOND FORM's CARD OF 'lanelaw1.RoutersLead'. -/
def routersLeadUptoCard : Claim7 := { stood := { row := routersLeadUptoRow, standIns := [], harness := (true, "2f30551b3966fcc14132a775411c86dbf86aae2d699a83f994e50d7ec293f57c"), looks := true }, kinds := [], alts := [], laidByText := true, laidKinds := [.data, .pinned], laidTests := true, laidLooks := .later }
def RoutersLeadUptoCardSaid : Prop := Claim7.holds Tryz.pinned (.plain (OpenSpec.upto routersLeadSpec)) routersLeadUptoCard

/-- THE SECOND FORM's CARD OF 'lanelaw1.RouterTexts'. -/
def routerTextsUptoCard : Claim7 := { stood := { row := routerTextsUptoRow, standIns := [], harness := (true, "2f30551b3966fcc14132a775411c86dbf86aae2d699a83f994e50d7ec293f57c"), looks := true }, kinds := [], alts := [], laidByText := true, laidKinds := [.data, .data, .data, .data, .sentinel, .sentinel, .pinned], laidTests := true, laidLooks := .later }
def RouterTextsUptoCardSaid : Prop := Claim7.holds Tryz.pinned (.plain (OpenSpec.upto routerTextsSpec)) routerTextsUptoCard
end Rows
end Go.Proofs.YtnjnmkpgedkffaaGreatDoor
