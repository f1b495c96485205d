/-
  The library computes its models: comparisons, trims, sorts of integers.
-/
import Derived.Test.YtnjnmkpgedkffaaGreatDoorGt
import Derived.Test.YtnjnmkpgedkffaaGreatDoorMStr3
import Derived.Test.YtnjnmkpgedkffaaGreatDoorLays
import Derived.Test.YtnjnmkpgedkffaaGreatDoorLays2
import Derived.Shelf.Strings.SlTrimAscii
import Derived.Shelf.Sort.Plain
set_option linter.unusedVariables false
set_option linter.unusedSimpArgs false
set_option maxRecDepth 100000
namespace Go.Proofs.YtnjnmkpgedkffaaGreatDoor
open Go.Gk Go.Shelf
theorem c_trim (s cs : List UInt8) (hs : s.length ≤ 1099511627776) (hc : cs.length < 4294967281) (ha : ∀ b ∈ cs, b.toNat < 128) : Pure Tryz.prog 149 [S s, S cs] (S (Lib.trimS s cs)) :=
  Pure.of_below rfl rfl fun w => Any.strings_Trim_laid YtnjnmkpgedkffaaGreatDoor.l160 (by kernel_rfl) ⟨s.toArray⟩ ⟨cs.toArray⟩ w (by simp; omega) (by simpa using hc) (fun j b hb => ha b (List.mem_of_getElem? hb))
theorem c_strings_Trim {s cs r : Str} (h : m_strings_Trim s cs = some r) : Pure Tryz.prog 149 [S s, S cs] (S r) := by
  obtain ⟨h1, h⟩ := gd_ok h
  simp only [Bool.and_eq_true] at h1
  cases h; exact c_trim s cs (Nat.le_of_ble_eq_true h1.1) (nblt.1 h1.2.1) fun b hb => nblt.1 (List.all_eq_true.1 h1.2.2 b hb)
theorem c_strings_Compare {a b : Str} {r : Int} (h : m_strings_Compare a b = some r) : Pure Tryz.prog 73 [S a, S b] (I r) := by
  cases h
  exact Pure.of_same rfl rfl fun w => Tryz.strings_Compare ⟨a.toArray⟩ ⟨b.toArray⟩ w
theorem c_slices_SortI {l r : List Int} (h : m_slices_SortI l = some r) : EC Tryz.prog 131 [.sl 0 l.length] [.row 3 1 l.length (l.flatMap (eN .i64))] fun g hp' => g = .tup [] ∧ hp' = [.row 3 1 r.length (r.flatMap (eN .i64))] := by
  obtain ⟨h1, h⟩ := gd_ok h
  cases h
  have hlen : (l.mergeSort fun x y => decide (x ≤ y)).length = l.length := List.length_mergeSort l
  have e : ∀ l : List Int, l.flatMap (eN .i64) = (l.toArray.toList.map fun x => D.v (Value.int .i64 x)) := fun l => by
    induction l with
    | nil => rfl
    | cons x l ih => simp only [List.flatMap_cons, ih]; rfl
  rw [hlen, e, e]
  exact EC.of_putRowG (α := Int) (enc := Value.int .i64) (d := l.toArray) (d' := (l.mergeSort fun x y => decide (x ≤ y)).toArray) (fun _ => rfl) (by simp) (by simp [hlen]) (fun h0 w => by
      obtain rfl : l = [] := by simpa using h0
      exact Tryz.slices_Sort_int_none none 0 w) fun w b c hb hH => by
    simpa using Tryz.slices_Sort_int b 0 c l w hH hb (by have := Nat.le_of_ble_eq_true h1; omega)
end Go.Proofs.YtnjnmkpgedkffaaGreatDoor
