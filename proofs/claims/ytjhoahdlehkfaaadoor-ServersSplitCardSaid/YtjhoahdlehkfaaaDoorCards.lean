/-
  DERIVED. GIVEN WITH THE SEED: THE CARDS: each row of YtjhoahdlehkfaaaDoorRows.lean that lists a variable, with what it lists TIED to the program's text (the seventh form; the later family's looks); each row that meets fmt, with fmt's text TOLD by the authors' own Lean function (tested against real Go, not proved from fmt's source: count such statements apart). THE CARD IS WHAT COUNTS. Prove the row's statement (the work); the ties are given (YtjhoahdlehkfaaaDoorTie.lean); close each card by the builder's one call (the guide's Derived/Test/ToyasCard.lean, 'card_holds'). Laid BY PROGRAM, IN A SANDBOX (cutbox-door.mjs). By AI agents, Wed Nov 11 2026. No macro, syntax, notation, axiom, sorry.
-/
import Derived.Test.YtjhoahdlehkfaaaDoorRows
import GoSem.ClaimSeven
namespace Go.Proofs.YtjhoahdlehkfaaaDoor
namespace Rows

/-- THE TIED CARD OF 'lanelaw1.DomainsCompare'. -/
def domainsCompareCard : Claim7 := { stood := { row := domainsCompareRow, standIns := [], harness := (true, "29b8a4ff39e1a3013277d1358faaef5a0fc88909b72eb935d75d6f47749748b4"), looks := false }, kinds := [], alts := [], laidByText := true, laidKinds := [.data, .pinned], laidTests := true, laidLooks := .later }
def DomainsCompareCardSaid : Prop := Claim7.holds Tryd.pinned (.plain (OpenSpec.ofChange domainsCompareSpec)) domainsCompareCard

/-- THE TIED CARD OF 'lanelaw1.ServersSplit'. -/
def serversSplitCard : Claim7 := { stood := { row := serversSplitRow, standIns := [], harness := (true, "29b8a4ff39e1a3013277d1358faaef5a0fc88909b72eb935d75d6f47749748b4"), looks := false }, kinds := [], alts := [], laidByText := true, laidKinds := [.data, .pinned], laidTests := true, laidLooks := .later }
def ServersSplitCardSaid : Prop := Claim7.holds Tryd.pinned (.plain (OpenSpec.ofChange serversSplitSpec)) serversSplitCard

/-- THE SECOND FORM's CARD OF 'lanelaw1.DomainsCompare'. -/
def domainsCompareUptoCard : Claim7 := { stood := { row := domainsCompareUptoRow, standIns := [], harness := (true, "29b8a4ff39e1a3013277d1358faaef5a0fc88909b72eb935d75d6f47749748b4"), looks := false }, kinds := [], alts := [], laidByText := true, laidKinds := [.data, .pinned], laidTests := true, laidLooks := .later }
def DomainsCompareUptoCardSaid : Prop := Claim7.holds Tryd.pinned (.plain (OpenSpec.upto domainsCompareSpec)) domainsCompareUptoCard

/-- THE SECOND FORM's CARD OF 'lanelaw1.ServersSplit'. -/
def serversSplitUptoCard : Claim7 := { stood := { row := serversSplitUptoRow, standIns := [], harness := (true, "29b8a4ff39e1a3013277d1358faaef5a0fc88909b72eb935d75d6f47749748b4"), looks := false }, kinds := [], alts := [], laidByText := true, laidKinds := [.data, .pinned], laidTests := true, laidLooks := .later }
def ServersSplitUptoCardSaid : Prop := Claim7.holds Tryd.pinned (.plain (OpenSpec.upto serversSplitSpec)) serversSplitUptoCard
end Rows
end Go.Proofs.YtjhoahdlehkfaaaDoor
