import Derived.WalkKit
import Derived.Shelf.Unicode.DecodeSlow
import Derived.Lib.ItoaNum
import Derived.Lib.TrailingZeros
namespace Go.Gk
def TabN(g:Nat)(k:IntKind)(zs:List Int)(w:World):Prop:=∃ t e,w.heap[g]?=some (.cells (zs.map fun z=>Value.int k z).toArray t e)
def TabB(g:Nat)(tab:List Nat)(w:World):Prop:=∀ j,j<tab.length→w.cell? ⟨g,j,none⟩=some (.int .u8 (tab.getD j 0))
def ErrV(g:Nat)(w:World):Prop:=∃ (t:TypeId) (x:Value),w.cell? ⟨g,0,none⟩=some (.iface t x)
def TabX(w:World):Prop:=Lib.Utf8Tabs 2 3 w∧(∃ m:Int,w.cell? ⟨0,0,none⟩=some (.int .i64 m))∧TabN 1 .u64 Lib.pow10Tab w∧TabB 5 Lib.deBruijn64tab w∧ErrV 6 w∧ErrV 7 w
end Go.Gk
