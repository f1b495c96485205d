/-
  DERIVED. GIVEN WITH THE SEED: THE CARDS: each row of YthhdojhbohfmnaaGreatDoorRows.lean that lists a variable, with what it lists TIED to the program's text (the seventh form; the later family's looks); each row that meets fmt, with fmt's text TOLD by the authors' own Lean function (tested against real Go, not proved from fmt's source: count such statements apart). THE CARD IS WHAT COUNTS. Prove the row's statement (the work); the ties are given (YthhdojhbohfmnaaGreatDoorTie.lean); close each card by the builder's one call (the guide's Derived/Test/ToyasCard.lean, 'card_holds'). Laid BY PROGRAM, IN A SANDBOX (cutbox-door.mjs). By AI agents, Wed Nov 11 2026. No macro, syntax, notation, axiom, sorry.
-/
import Derived.Test.YthhdojhbohfmnaaGreatDoorRows
import GoSem.ClaimSeven
namespace Go.Proofs.YthhdojhbohfmnaaGreatDoor
namespace Rows

/-- THE TIED CARD OF 'lanelaw1.CondsRead'. -/
def condsReadCard : Claim7 := { stood := { row := condsReadRow, standIns := [], harness := (true, "de678a26b9135a3129df9bec53e70936469b2b9803a9a590d1da07abe11f5955"), looks := true }, kinds := [], alts := [], laidByText := true, laidKinds := [.data, .data, .data, .data, .sentinel, .sentinel, .pinned], laidTests := true, laidLooks := .later }
def CondsReadCardSaid : Prop := Claim7.holds Tryz.pinned (.plain (OpenSpec.ofChange condsReadSpec)) condsReadCard

/-- THE TIED CARD OF 'lanelaw1.CondsJudged'. -/
def condsJudgedCard : Claim7 := { stood := { row := condsJudgedRow, standIns := [], harness := (true, "de678a26b9135a3129df9bec53e70936469b2b9803a9a590d1da07abe11f5955"), looks := true }, kinds := [], alts := [], laidByText := true, laidKinds := [.data, .data, .data, .data, .sentinel, .sentinel, .pinned], laidTests := true, laidLooks := .later }
def CondsJudgedCardSaid : Prop := Claim7.holds Tryz.pinned (.plain (OpenSpec.ofChange condsJudgedSpec)) condsJudgedCard

/-- THE TIED CARD OF 'lanelaw1.PosturesHold'. -/
def posturesHoldCard : Claim7 := { stood := { row := posturesHoldRow, standIns := [], harness := (true, "de678a26b9135a3129df9bec53e70936469b2b9803a9a590d1da07abe11f5955"), looks := true }, kinds := [], alts := [], laidByText := true, laidKinds := [.data, .data, .data, .data, .sentinel, .sentinel, .pinned], laidTests := true, laidLooks := .later }
def PosturesHoldCardSaid : Prop := Claim7.holds Tryz.pinned (.plain (OpenSpec.ofChange posturesHoldSpec)) posturesHoldCard

/-- THE TIED CARD OF 'lanelaw1.ClaimsKnown'. -/
def claimsKnownCard : Claim7 := { stood := { row := claimsKnownRow, standIns := [], harness := (true, "de678a26b9135a3129df9bec53e70936469b2b9803a9a590d1da07abe11f5955"), looks := true }, kinds := [], alts := [], laidByText := true, laidKinds := [.data, .data, .data, .data, .sentinel, .sentinel, .pinned], laidTests := true, laidLooks := .later }
def ClaimsKnownCardSaid : Prop := Claim7.holds Tryz.pinned (.plain (OpenSpec.ofChange claimsKnownSpec)) claimsKnownCard

/-- THE TIED CARD OF 'lanelaw1.AccessGiven'. -/
def accessGivenCard : Claim7 := { stood := { row := accessGivenRow, standIns := [], harness := (true, "de678a26b9135a3129df9bec53e70936469b2b9803a9a590d1da07abe11f5955"), looks := true }, kinds := [], alts := [], laidByText := true, laidKinds := [.data, .data, .data, .data, .sentinel, .sentinel, .pinned], laidTests := true, laidLooks := .later }
def AccessGivenCardSaid : Prop := Claim7.holds Tryz.pinned (.plain (OpenSpec.ofChange accessGivenSpec)) accessGivenCard

/-- THE SECOND FORM's CARD OF 'lanelaw1.CondsRead'. -/
def condsReadUptoCard : Claim7 := { stood := { row := condsReadUptoRow, standIns := [], harness := (true, "de678a26b9135a3129df9bec53e70936469b2b9803a9a590d1da07abe11f5955"), looks := true }, kinds := [], alts := [], laidByText := true, laidKinds := [.data, .data, .data, .data, .sentinel, .sentinel, .pinned], laidTests := true, laidLooks := .later }
def CondsReadUptoCardSaid : Prop := Claim7.holds Tryz.pinned (.plain (OpenSpec.upto condsReadSpec)) condsReadUptoCard

/-- THE SECOND FORM's CARD OF 'lanelaw1.CondsJudged'. -/
def condsJudgedUptoCard : Claim7 := { stood := { row := condsJudgedUptoRow, standIns := [], harness := (true, "de678a26b9135a3129df9bec53e70936469b2b9803a9a590d1da07abe11f5955"), looks := true }, kinds := [], alts := [], laidByText := true, laidKinds := [.data, .data, .data, .data, .sentinel, .sentinel, .pinned], laidTests := true, laidLooks := .later }
def CondsJudgedUptoCardSaid : Prop := Claim7.holds Tryz.pinned (.plain (OpenSpec.upto condsJudgedSpec)) condsJudgedUptoCard

/-- THE SECOND FORM's CARD OF 'lanelaw1.PosturesHold'. -/
def posturesHoldUptoCard : Claim7 := { stood := { row := posturesHoldUptoRow, standIns := [], harness := (true, "de678a26b9135a3129df9bec53e70936469b2b9803a9a590d1da07abe11f5955"), looks := true }, kinds := [], alts := [], laidByText := true, laidKinds := [.data, .data, .data, .data, .sentinel, .sentinel, .pinned], laidTests := true, laidLooks := .later }
def PosturesHoldUptoCardSaid : Prop := Claim7.holds Tryz.pinned (.plain (OpenSpec.upto posturesHoldSpec)) posturesHoldUptoCard

/-- THE SECOND FORM's CARD OF 'lanelaw1.ClaimsKnown'. -/
def claimsKnownUptoCard : Claim7 := { stood := { row := claimsKnownUptoRow, standIns := [], harness := (true, "de678a26b9135a3129df9bec53e70936469b2b9803a9a590d1da07abe11f5955"), looks := true }, kinds := [], alts := [], laidByText := true, laidKinds := [.data, .data, .data, .data, .sentinel, .sentinel, .pinned], laidTests := true, laidLooks := .later }
def ClaimsKnownUptoCardSaid : Prop := Claim7.holds Tryz.pinned (.plain (OpenSpec.upto claimsKnownSpec)) claimsKnownUptoCard

/-- THE SECOND FORM's CARD OF 'lanelaw1.AccessGiven'. -/
def accessGivenUptoCard : Claim7 := { stood := { row := accessGivenUptoRow, standIns := [], harness := (true, "de678a26b9135a3129df9bec53e70936469b2b9803a9a590d1da07abe11f5955"), looks := true }, kinds := [], alts := [], laidByText := true, laidKinds := [.data, .data, .data, .data, .sentinel, .sentinel, .pinned], laidTests := true, laidLooks := .later }
def AccessGivenUptoCardSaid : Prop := Claim7.holds Tryz.pinned (.plain (OpenSpec.upto accessGivenSpec)) accessGivenUptoCard
end Rows
end Go.Proofs.YthhdojhbohfmnaaGreatDoor
