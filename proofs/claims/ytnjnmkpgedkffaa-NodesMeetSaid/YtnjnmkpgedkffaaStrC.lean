/-
  The library computes its models: comparisons of strings.
-/
import Derived.Test.YtnjnmkpgedkffaaGt
import Derived.Test.YtnjnmkpgedkffaaMStr3
import Derived.Test.YtnjnmkpgedkffaaLays
set_option linter.unusedVariables false
set_option maxRecDepth 100000
namespace Go.Proofs.Ytnjnmkpgedkffaa
open Go.Gk Go.Shelf
theorem c_strings_Compare {a b : Str} {r : Int} (h : m_strings_Compare a b = some r) : Pure Try.prog 80 [S a, S b] (I r) := by
  cases h
  exact Pure.of_same rfl rfl fun w => Try.strings_Compare ⟨a.toArray⟩ ⟨b.toArray⟩ w
end Go.Proofs.Ytnjnmkpgedkffaa
