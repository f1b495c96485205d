/-
  More of what the draws give.
-/
import Derived.Test.YtfnjahjbpaoepaaGreatDoorTDraw
set_option linter.unusedVariables false
set_option linter.unusedSimpArgs false
set_option linter.unusedSectionVars false
set_option maxRecDepth 100000
namespace Go.Gk
theorem some_ok (l : List Int) (a : Int) (xs : List Str) (hl : l.length ≤ 9223372036854775807) (h0 : 0 ≤ a) (h1 : a < 4611686018427387904) (hn : 1 ≤ xs.length) (hn2 : xs.length ≤ 1000) :
    ∃ x, x ∈ xs ∧ m_lanemake_Stream_Some ⟨l, a⟩ xs = some (x, ⟨l, a + 1⟩) := by
  obtain ⟨r, r0, r1, h⟩ := next_ok l a xs.length hl h0 h1 (by omega) (by omega)
  obtain ⟨x, hx, e⟩ := getZ_in xs r0 r1
  exact ⟨x, hx, by unfold m_lanemake_Stream_Some; rw [h]; simp only [bi_some, e]⟩
theorem cat_ok {a b : Str} (h : a.length + b.length ≤ 9223372036854775807) : catZ a b = some (a ++ b) := by unfold catZ; rw [Nat.ble_eq_true_of_le h]; rfl
end Go.Gk
