/-
  DERIVED. GIVEN WITH THE SEED: THE CARDS: each row of YtfnjahjbpaoepaaGreatDoorRows.lean that lists a variable, with what it lists TIED to the program's text (the seventh form; the later family's looks); each row that meets fmt, with fmt's text TOLD by the authors' own Lean function (tested against real Go, not proved from fmt's source: count such statements apart). THE CARD IS WHAT COUNTS. Prove the row's statement (the work); the ties are given (YtfnjahjbpaoepaaGreatDoorTie.lean); close each card by the builder's one call (the guide's Derived/Test/ToyasCard.lean, 'card_holds'). Laid BY PROGRAM, IN A SANDBOX (cutbox-door.mjs). By AI agents, Wed Nov 11 2026. No macro, syntax, notation, axiom, sorry.
-/
import Derived.Test.YtfnjahjbpaoepaaGreatDoorRows
import GoSem.ClaimSeven
namespace Go.Proofs.YtfnjahjbpaoepaaGreatDoor
namespace Rows

/-- THE TIED CARD OF 'lanelaw1.RouterTexts'. -/
def routerTextsCard : Claim7 := { stood := { row := routerTextsRow, standIns := [], harness := (true, "71884a4c60a7d0caf078fd1b1e0393b07bd5ad0d05e76cc15be939e228202a5c"), looks := true }, kinds := [], alts := [], laidByText := true, laidKinds := [.data, .data, .data, .data, .sentinel, .sentinel, .pinned], laidTests := true, laidLooks := .later }
def RouterTextsCardSaid : Prop := Claim7.holds Tryz.pinned (.plain (OpenSpec.ofChange routerTextsSpec)) routerTextsCard

/-- THE TIED CARD OF 'lanelaw1.ZoneTexts'. -/
def zoneTextsCard : Claim7 := { stood := { row := zoneTextsRow, standIns := [], harness := (true, "71884a4c60a7d0caf078fd1b1e0393b07bd5ad0d05e76cc15be939e228202a5c"), looks := true }, kinds := [], alts := [], laidByText := true, laidKinds := [.data, .data, .data, .data, .sentinel, .sentinel, .pinned], laidTests := true, laidLooks := .later }
def ZoneTextsCardSaid : Prop := Claim7.holds Tryz.pinned (.plain (OpenSpec.ofChange zoneTextsSpec)) zoneTextsCard

/-- THE TIED CARD OF 'lanelaw1.StepTexts'. -/
def stepTextsCard : Claim7 := { stood := { row := stepTextsRow, standIns := [], harness := (true, "71884a4c60a7d0caf078fd1b1e0393b07bd5ad0d05e76cc15be939e228202a5c"), looks := true }, kinds := [], alts := [], laidByText := true, laidKinds := [.data, .data, .data, .data, .sentinel, .sentinel, .pinned, .pinned], laidTests := true, laidLooks := .later }
def StepTextsCardSaid : Prop := Claim7.holds Tryz.pinned (.plain (OpenSpec.ofChange stepTextsSpec)) stepTextsCard

/-- THE TIED CARD OF 'lanelaw1.CachesKeep'. -/
def cachesKeepCard : Claim7 := { stood := { row := cachesKeepRow, standIns := [], harness := (true, "71884a4c60a7d0caf078fd1b1e0393b07bd5ad0d05e76cc15be939e228202a5c"), looks := true }, kinds := [], alts := [], laidByText := true, laidKinds := [.data, .pinned], laidTests := true, laidLooks := .later }
def CachesKeepCardSaid : Prop := Claim7.holds Tryz.pinned (.plain (OpenSpec.ofChange cachesKeepSpec)) cachesKeepCard

/-- THE SECOND FORM's CARD OF 'lanelaw1.RouterTexts'. -/
def routerTextsUptoCard : Claim7 := { stood := { row := routerTextsUptoRow, standIns := [], harness := (true, "71884a4c60a7d0caf078fd1b1e0393b07bd5ad0d05e76cc15be939e228202a5c"), looks := true }, kinds := [], alts := [], laidByText := true, laidKinds := [.data, .data, .data, .data, .sentinel, .sentinel, .pinned], laidTests := true, laidLooks := .later }
def RouterTextsUptoCardSaid : Prop := Claim7.holds Tryz.pinned (.plain (OpenSpec.upto routerTextsSpec)) routerTextsUptoCard

/-- THE SECOND FORM's CARD OF 'lanelaw1.ZoneTexts'. -/
def zoneTextsUptoCard : Claim7 := { stood := { row := zoneTextsUptoRow, standIns := [], harness := (true, "71884a4c60a7d0caf078fd1b1e0393b07bd5ad0d05e76cc15be939e228202a5c"), looks := true }, kinds := [], alts := [], laidByText := true, laidKinds := [.data, .data, .data, .data, .sentinel, .sentinel, .pinned], laidTests := true, laidLooks := .later }
def ZoneTextsUptoCardSaid : Prop := Claim7.holds Tryz.pinned (.plain (OpenSpec.upto zoneTextsSpec)) zoneTextsUptoCard

/-- THE SECOND FORM's CARD OF 'lanelaw1.StepTexts'. -/
def stepTextsUptoCard : Claim7 := { stood := { row := stepTextsUptoRow, standIns := [], harness := (true, "71884a4c60a7d0caf078fd1b1e0393b07bd5ad0d05e76cc15be939e228202a5c"), looks := true }, kinds := [], alts := [], laidByText := true, laidKinds := [.data, .data, .data, .data, .sentinel, .sentinel, .pinned, .pinned], laidTests := true, laidLooks := .later }
def StepTextsUptoCardSaid : Prop := Claim7.holds Tryz.pinned (.plain (OpenSpec.upto stepTextsSpec)) stepTextsUptoCard

/-- THE SECOND FORM's CARD OF 'lanelaw1.CachesKeep'. -/
def cachesKeepUptoCard : Claim7 := { stood := { row := cachesKeepUptoRow, standIns := [], harness := (true, "71884a4c60a7d0caf078fd1b1e0393b07bd5ad0d05e76cc15be939e228202a5c"), looks := true }, kinds := [], alts := [], laidByText := true, laidKinds := [.data, .pinned], laidTests := true, laidLooks := .later }
def CachesKeepUptoCardSaid : Prop := Claim7.holds Tryz.pinned (.plain (OpenSpec.upto cachesKeepSpec)) cachesKeepUptoCard
end Rows
end Go.Proofs.YtfnjahjbpaoepaaGreatDoor
