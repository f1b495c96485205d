/-
  DERIVED. GIVEN WITH THE SEED: THE CARDS: each row of YtmecneoeklldeaaGreatDoorRows.lean that lists a variable, with what it lists TIED to the program's text (the seventh form; the later family's looks); each row that meets fmt, with fmt's text TOLD by the authors' own Lean function (tested against real Go, not proved from fmt's source: count such statements apart). THE CARD IS WHAT COUNTS. Prove the row's statement (the work); the ties are given (YtmecneoeklldeaaGreatDoorTie.lean); close each card by the builder's one call (the guide's Derived/Test/ToyasCard.lean, 'card_holds'). Laid BY PROGRAM, IN A SANDBOX (cutbox-door.mjs). By AI agents, Wed Nov 11 2026. No macro, syntax, notation, axiom, sorry.
-/
import Derived.Test.YtmecneoeklldeaaGreatDoorRows
import GoSem.ClaimSeven
namespace Go.Proofs.YtmecneoeklldeaaGreatDoor
namespace Rows

/-- THE TIED CARD OF 'lanelaw1.ClaimTexts'. -/
def claimTextsCard : Claim7 := { stood := { row := claimTextsRow, standIns := [], harness := (true, "43c91c44f3c1f6778ed230d3d75cfb915b7e7ad5114a8d041b8c31262e1862ff"), looks := true }, kinds := [], alts := [], laidByText := true, laidKinds := [.data, .data, .data, .data, .sentinel, .sentinel, .pinned], laidTests := true, laidLooks := .later }
def ClaimTextsCardSaid : Prop := Claim7.holds Tryz.pinned (.plain (OpenSpec.ofChange claimTextsSpec)) claimTextsCard

/-- THE TIED CARD OF 'lanelaw1.CondsChecked'. -/
def condsCheckedCard : Claim7 := { stood := { row := condsCheckedRow, standIns := [], harness := (true, "43c91c44f3c1f6778ed230d3d75cfb915b7e7ad5114a8d041b8c31262e1862ff"), looks := true }, kinds := [], alts := [], laidByText := true, laidKinds := [.data, .data, .data, .data, .sentinel, .sentinel, .pinned], laidTests := true, laidLooks := .later }
def CondsCheckedCardSaid : Prop := Claim7.holds Tryz.pinned (.plain (OpenSpec.ofChange condsCheckedSpec)) condsCheckedCard

/-- THE SECOND FORM's CARD OF 'lanelaw1.ClaimTexts'. -/
def claimTextsUptoCard : Claim7 := { stood := { row := claimTextsUptoRow, standIns := [], harness := (true, "43c91c44f3c1f6778ed230d3d75cfb915b7e7ad5114a8d041b8c31262e1862ff"), looks := true }, kinds := [], alts := [], laidByText := true, laidKinds := [.data, .data, .data, .data, .sentinel, .sentinel, .pinned], laidTests := true, laidLooks := .later }
def ClaimTextsUptoCardSaid : Prop := Claim7.holds Tryz.pinned (.plain (OpenSpec.upto claimTextsSpec)) claimTextsUptoCard

/-- THE SECOND FORM's CARD OF 'lanelaw1.CondsChecked'. -/
def condsCheckedUptoCard : Claim7 := { stood := { row := condsCheckedUptoRow, standIns := [], harness := (true, "43c91c44f3c1f6778ed230d3d75cfb915b7e7ad5114a8d041b8c31262e1862ff"), looks := true }, kinds := [], alts := [], laidByText := true, laidKinds := [.data, .data, .data, .data, .sentinel, .sentinel, .pinned], laidTests := true, laidLooks := .later }
def CondsCheckedUptoCardSaid : Prop := Claim7.holds Tryz.pinned (.plain (OpenSpec.upto condsCheckedSpec)) condsCheckedUptoCard
end Rows
end Go.Proofs.YtmecneoeklldeaaGreatDoor
