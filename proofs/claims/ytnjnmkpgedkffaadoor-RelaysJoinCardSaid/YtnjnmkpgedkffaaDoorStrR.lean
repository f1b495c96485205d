/-
  The library computes its models: comparisons, trims, sorts of integers.
-/
import Derived.Test.YtnjnmkpgedkffaaDoorGt
import Derived.Test.YtnjnmkpgedkffaaDoorMStr3
import Derived.Test.YtnjnmkpgedkffaaDoorLays
import Derived.Shelf.Strings.SlTrimAscii
import Derived.Shelf.Sort.Plain
set_option linter.unusedVariables false
set_option linter.unusedSimpArgs false
set_option maxRecDepth 100000
namespace Go.Proofs.YtnjnmkpgedkffaaDoor
open Go.Gk Go.Shelf
theorem c_trim (s cs : List UInt8) (hs : s.length ≤ 1099511627776) (hc : cs.length < 4294967281) (ha : ∀ b ∈ cs, b.toNat < 128) : Pure Tryd.prog 83 [S s, S cs] (S (Lib.trimS s cs)) :=
  Pure.of_below rfl rfl fun w => Any.strings_Trim_laid Tryd.lays160 (by kernel_rfl) ⟨s.toArray⟩ ⟨cs.toArray⟩ w (by simp; omega) (by simpa using hc) (fun j b hb => ha b (List.mem_of_getElem? hb))
theorem c_strings_Trim {s cs r : Str} (h : m_strings_Trim s cs = some r) : Pure Tryd.prog 83 [S s, S cs] (S r) := by
  obtain ⟨h1, h⟩ := gd_ok h
  simp only [Bool.and_eq_true] at h1
  cases h; exact c_trim s cs (Nat.le_of_ble_eq_true h1.1) (nblt.1 h1.2.1) fun b hb => nblt.1 (List.all_eq_true.1 h1.2.2 b hb)
theorem c_strings_Compare {a b : Str} {r : Int} (h : m_strings_Compare a b = some r) : Pure Tryd.prog 49 [S a, S b] (I r) := by
  cases h
  exact Pure.of_same rfl rfl fun w => Tryd.strings_Compare ⟨a.toArray⟩ ⟨b.toArray⟩ w
end Go.Proofs.YtnjnmkpgedkffaaDoor
