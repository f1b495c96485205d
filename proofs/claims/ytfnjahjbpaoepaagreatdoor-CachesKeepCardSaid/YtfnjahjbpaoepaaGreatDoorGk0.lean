/-
  THE GHOST LOGIC, PART 0: what is known of the world throughout: the tables of unicode/utf8.
-/
import Derived.WalkKit
import Derived.Shelf.Unicode.DecodeSlow
namespace Go.Gk
def TabX (w : World) : Prop := Lib.Utf8Tabs 1 2 w ∧ ∃ m : Int, w.cell? ⟨0, 0, none⟩ = some (.int .i64 m)
end Go.Gk
