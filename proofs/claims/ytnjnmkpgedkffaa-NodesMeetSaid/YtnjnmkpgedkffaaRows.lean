/-
  No cell of these rows narrows 'for every input' (looked for: loops, veiled, ifaces, maps, wideKeys, modest, calm, conditions, laid).
  DERIVED. THE GIVEN ROWS OF THIS SEAT. 2 by the template 'for every input the law returns true; each argument reads behind the call as it read before'; 0 by the template 'total and deterministic' (their statements: YtnjnmkpgedkffaaTotals.lean).
  GIVEN WITH THE SEED: the statements are not yours to turn. If you find one false, say at which input.
  Laid BY PROGRAM, IN A SANDBOX (cutbox-rows.mjs): the forced cells as the released guide's own fill.sh prints them over the translation 7874a9eaf55a783e… (all of the seat's roots in one cut). By AI agents, Wed Nov 11 2026. No macro, syntax, notation, axiom, sorry.
-/
import Derived.Test.YtnjnmkpgedkffaaChecked
import GoSem.Claim
import GoSem.ClaimJoined
import GoSem.ClaimMapViews
import Derived.JoinedTies
import Derived.KernelRfl
namespace Go.Proofs.Ytnjnmkpgedkffaa
/- THE CELL 'sum', in the pinned program and in every row, IS THE sha256 OF THE DUMP (.gsa) THAT YtnjnmkpgedkffaaProg.lean LOADS. Nothing in Lean hashes anything: it is a label: what it is worth is what the hold of that sum in a sandbox is worth. -/
noncomputable def Try.pinned : Pinned := { name := "ytnjnmkpgedkffaa", sum := "7874a9eaf55a783ec3a3a019dd872625aa79246c5c0c56e46853319e96aac300", checked := Try.checked }
namespace Rows
def none {H : Type} : Left H := { results := [], args := [] }

/-- 'lanelaw1.TranslatorsWork': WHATEVER THE INPUT: true; the input reads as it did. -/
def translatorsWorkSpec : ChangeSpec := { name := "translatorsWork", fn := fun _ => fun
  | [d] => { results := [.lit (.bool true)], args := [d] }
  | _ => none }
def translatorsWorkRow : OpenClaim := { program := "ytnjnmkpgedkffaa", sum := "7874a9eaf55a783ec3a3a019dd872625aa79246c5c0c56e46853319e96aac300", func := "holloway/lanelaw1.TranslatorsWork", spec := "translatorsWork", inPlace := ["internal/bytealg.abigen_runtime_cmpstring"], unfollowed := true, recurses := true, apart := false }
def TranslatorsWorkSaid : Prop := translatorsWorkRow.holds Try.pinned (OpenSpec.ofChange translatorsWorkSpec)

/-- ITS FALSE NEIGHBOUR: 'it returns false'. Refute it at one input. -/
def translatorsWorkWrong : ChangeSpec := { name := "translatorsWork", fn := fun _ => fun
  | [d] => { results := [.lit (.bool false)], args := [d] }
  | _ => none }
def TranslatorsWorkWrongFalsely : Prop := translatorsWorkRow.holds Try.pinned (OpenSpec.ofChange translatorsWorkWrong)

/-- 'lanelaw1.NodesMeet': WHATEVER THE INPUT: true; the input reads as it did. -/
def nodesMeetSpec : ChangeSpec := { name := "nodesMeet", fn := fun _ => fun
  | [d] => { results := [.lit (.bool true)], args := [d] }
  | _ => none }
def nodesMeetRow : OpenClaim := { program := "ytnjnmkpgedkffaa", sum := "7874a9eaf55a783ec3a3a019dd872625aa79246c5c0c56e46853319e96aac300", func := "holloway/lanelaw1.NodesMeet", spec := "nodesMeet", inPlace := ["internal/bytealg.abigen_runtime_cmpstring"], unfollowed := true, recurses := true, apart := false }
def NodesMeetSaid : Prop := nodesMeetRow.holds Try.pinned (OpenSpec.ofChange nodesMeetSpec)

/-- ITS FALSE NEIGHBOUR: 'it returns false'. Refute it at one input. -/
def nodesMeetWrong : ChangeSpec := { name := "nodesMeet", fn := fun _ => fun
  | [d] => { results := [.lit (.bool false)], args := [d] }
  | _ => none }
def NodesMeetWrongFalsely : Prop := nodesMeetRow.holds Try.pinned (OpenSpec.ofChange nodesMeetWrong)

/- THE SECOND FORM. 'bulk': how many values and letters a reading holds, each counted each time it is reached (what is shared counts as often as it is met; a slice's spare places count too). A statement '..UptoSaid' is the law's where the arguments, and the package variables that the reading takes, are together of bulk at most 1048576: NARROWER than '..Said'. Prove '..Said' where nothing that the law and all that it calls make is longer than what came in: it says more and counts as full. Else prove '..UptoSaid'. A law counts once. -/
mutual
def uptoBulk {H : Type} : DataW H → Nat
  | .lit (.string bytes) => bytes.length + 1
  | .lit _ => 1
  | .nil => 1
  | .ptr d => uptoBulk d + 1
  | .slice elems spare => uptoBulkAll elems + uptoBulkAll spare + 1
  | .agg parts => uptoBulkAll parts + 1
  | .iface _ d => uptoBulk d + 1
  | .map entries => uptoBulkEntries entries + 1
  | .held _ => 1
def uptoBulkAll {H : Type} : List (DataW H) → Nat
  | [] => 0
  | d :: r => uptoBulk d + uptoBulkAll r
def uptoBulkEntries {H : Type} : List (Lit × DataW H) → Nat
  | [] => 0
  | x :: r => uptoBulkEntry x + uptoBulkEntries r
def uptoBulkEntry {H : Type} : Lit × DataW H → Nat
  | (.string bytes, d) => bytes.length + uptoBulk d + 1
  | (_, d) => uptoBulk d + 1
 end
def uptoSmall : (H : Type) → List (DataW H) → Bool := fun _ ds => decide (uptoBulkAll ds ≤ 1048576)
def OpenSpec.upto (s : _root_.Go.ChangeSpec) : _root_.Go.OpenSpec := { _root_.Go.OpenSpec.ofChange s with cond := some uptoSmall }

/-- 'lanelaw1.TranslatorsWork', WHERE WHAT IT READS IS OF BULK AT MOST 1048576: true; the input reads as it did. -/
def translatorsWorkUptoRow : OpenClaim := { program := "ytnjnmkpgedkffaa", sum := "7874a9eaf55a783ec3a3a019dd872625aa79246c5c0c56e46853319e96aac300", func := "holloway/lanelaw1.TranslatorsWork", spec := "translatorsWork", inPlace := ["internal/bytealg.abigen_runtime_cmpstring"], unfollowed := true, recurses := true, apart := false, narrowed := true }
def TranslatorsWorkUptoSaid : Prop := translatorsWorkUptoRow.holds Try.pinned (OpenSpec.upto translatorsWorkSpec)

/-- 'lanelaw1.NodesMeet', WHERE WHAT IT READS IS OF BULK AT MOST 1048576: true; the input reads as it did. -/
def nodesMeetUptoRow : OpenClaim := { program := "ytnjnmkpgedkffaa", sum := "7874a9eaf55a783ec3a3a019dd872625aa79246c5c0c56e46853319e96aac300", func := "holloway/lanelaw1.NodesMeet", spec := "nodesMeet", inPlace := ["internal/bytealg.abigen_runtime_cmpstring"], unfollowed := true, recurses := true, apart := false, narrowed := true }
def NodesMeetUptoSaid : Prop := nodesMeetUptoRow.holds Try.pinned (OpenSpec.upto nodesMeetSpec)

end Rows
end Go.Proofs.Ytnjnmkpgedkffaa
