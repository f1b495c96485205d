/-
  The library computes its models: more of package strings.
-/
import Derived.Test.YtfnjahjbpaoepaaGreatDoorStr
import Derived.Test.YtfnjahjbpaoepaaGreatDoorLays2
import Derived.Shelf.Unicode.ValidAny
set_option linter.unusedVariables false
set_option linter.unusedSimpArgs false
set_option maxRecDepth 100000
namespace Go.Proofs.YtfnjahjbpaoepaaGreatDoor
open Go.Gk Go.Shelf
theorem c_utf8_ValidString {s : Str} {r : Bool} (h : m_utf8_ValidString s = some r) : Pure Tryz.prog 251 [S s] (B r) := by
  obtain ⟨h1, h⟩ := gd_ok h
  cases h
  exact Pure.of_belowX rfl rfl fun w hT => Any.utf8_ValidString YtfnjahjbpaoepaaGreatDoor.l196 ⟨s.toArray⟩ w (by have := Nat.le_of_ble_eq_true h1; simpa using this) hT.1
theorem c_strings_Contains {s p : Str} {r : Bool} (h : m_strings_Contains s p = some r) : Pure Tryz.prog 189 [S s, S p] (B r) := by
  obtain ⟨h1, h⟩ := gd_ok h
  cases h
  refine Pure.of_belowX rfl rfl fun w hT => ?_
  obtain ⟨m, hm⟩ := hT.2
  exact (Tryz.strings_Contains ⟨s.toArray⟩ ⟨p.toArray⟩ m w (by have := nblt.1 h1; simpa using this) hm).mono fun e w' ⟨he, hw⟩ => ⟨he, by subst hw; exact RowKit.Below.refl _ _⟩
end Go.Proofs.YtfnjahjbpaoepaaGreatDoor
