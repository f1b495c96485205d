/-
  package strings, as the contracts of the library give it, in the ghost logic's form.
-/
import Derived.Test.YtjhoahdlehkfaaaDoorGt
import Derived.Test.YtjhoahdlehkfaaaDoorLays
import Derived.Test.YtjhoahdlehkfaaaDoorGh16
import Derived.Shelf.Strings.SlTrimAscii
set_option linter.unusedVariables false
set_option linter.unusedSimpArgs false
set_option maxRecDepth 100000
namespace Go.Proofs.YtjhoahdlehkfaaaDoor
open Go.Gh Go.Shelf

theorem c_repeat (s : List UInt8) (n : Nat) (h1 : n ≤ 9223372036854775807) (h2 : s.length * n ≤ 140737488355328) : Pure Tryd.prog 27 [S s, I n] (S (Lib.repeatL s n)) :=
  Pure.of_below rfl rfl fun w => Tryd.strings_Repeat ⟨s.toArray⟩ n w h1 (by simpa using h2)
theorem c_split1 (s : List UInt8) (c : UInt8) (hs : s.length < 4294967281) : EC Tryd.prog 56 [S s, S [c], I 0, I (-1)] [] fun g hp' => g = .sl 0 (Lib.split s [c]).length ∧ hp' = [.row 9 1 (Lib.split s [c]).length (((Lib.split s [c]).map fun x => Value.string ⟨x.toArray⟩).map D.v)] := by
  have e0 : (Lib.splitB ⟨#[c]⟩ 0 (Lib.count s [c]) ⟨s.toArray⟩).map Value.string = (Lib.split s [c]).map fun x => Value.string ⟨x.toArray⟩ := by
    unfold Lib.split
    rw [show Lib.splitK [c] 0 (Lib.count s [c]) s = Lib.splitK (⟨#[c]⟩ : ByteArray).data.toList 0 (Lib.count s [c]) (⟨s.toArray⟩ : ByteArray).data.toList from rfl, ← Lib.splitB_data, List.map_map]
    rfl
  have e1 : (Lib.splitB ⟨#[c]⟩ 0 (Lib.count s [c]) ⟨s.toArray⟩).length = (Lib.split s [c]).length := by
    have := congrArg List.length e0
    simpa using this
  have hN : (Lib.split s [c]).length = Lib.count s [c] + 1 := by rw [← e1]; exact Lib.splitB_all ⟨#[c]⟩ (Nat.le_refl _) 0 _ _ rfl
  have hle : Lib.count s [c] ≤ s.length := Lib.countB_le ⟨#[c]⟩ (Nat.le_refl _) s.length ⟨s.toArray⟩ (by simp)
  refine EC.of_alloc (gs := [S s, S [c], I 0, I (-1)]) (n := (Lib.split s [c]).length) (sz := 1) (vs := [.string ⟨s.toArray⟩, .string ⟨#[c]⟩, .int .i64 0, .int .i64 (-1)]) (xs := (Lib.split s [c]).map fun x => Value.string ⟨x.toArray⟩) rfl (fun v hv => ?_) (by simp) (by simp only [maxLen]; omega) fun w => ?_
  · obtain ⟨x, _, rfl⟩ := List.mem_map.1 hv
    rfl
  · have c1 := Any.strings_genSplit_core Tryd.lays221 (by kernel_rfl) ⟨s.toArray⟩ ⟨#[c]⟩ 0 (-1) (Lib.count s [c] + 1) w (by simpa using hs) (Nat.le_refl _) (Nat.zero_le _)
      (fun x cc hx => (Tryd.strings_Index_one x c _).mono fun e w' ⟨h1, h2⟩ => ⟨by rw [h1, ← Lib.index_one], h2⟩)
      ((Tryd.strings_Count_one ⟨s.toArray⟩ c w).mono fun e w' ⟨h1, h2⟩ => ⟨by rw [h1]; show _ = Ending.returned (Value.int .i64 ((Lib.count s [c] : Nat) : Int)); rw [Lib.count_one]; rfl, h2⟩)
      (by decide) (by decide) (by
        rw [if_pos (by decide)]
        show _ = min (((Lib.count s [c] : Nat) : Int) + 1) (((⟨s.toArray⟩ : ByteArray).size : Int) + 1)
        have : (⟨s.toArray⟩ : ByteArray).size = s.length := by simp
        rw [this]
        omega)
    rw [Nat.add_sub_cancel, e1, hN] at c1
    have e2 : Lib.cellsOf (Lib.splitB ⟨#[c]⟩ 0 (Lib.count s [c]) ⟨s.toArray⟩) (Lib.count s [c] + 1) = ((Lib.split s [c]).map fun x => Value.string ⟨x.toArray⟩).toArray := by
      rw [← hN, ← e1, Lib.cellsOf_full, e0]
    rw [e2] at c1
    rw [hN]
    exact c1
theorem c_trim (s cs : List UInt8) (hs : s.length ≤ 1099511627776) (hc : cs.length < 4294967281) (ha : ∀ b ∈ cs, b.toNat < 128) : Pure Tryd.prog 61 [S s, S cs] (S (Lib.trimS s cs)) :=
  Pure.of_below rfl rfl fun w => Any.strings_Trim_laid Tryd.lays160 (by kernel_rfl) ⟨s.toArray⟩ ⟨cs.toArray⟩ w (by simp; omega) (by simpa using hc) (fun j b hb => ha b (List.mem_of_getElem? hb))
theorem c_hasPrefix (s p : List UInt8) : Pure Tryd.prog 51 [S s, S p] (B (Lib.hasPrefix s p)) := Pure.of_same rfl rfl fun w => Tryd.strings_HasPrefix ⟨s.toArray⟩ ⟨p.toArray⟩ w
theorem c_hasSuffix (s p : List UInt8) (hs : s.length ≤ 1099511627776) : Pure Tryd.prog 36 [S s, S p] (B (Lib.hasSuffix s p)) := Pure.of_same rfl rfl fun w => Tryd.strings_HasSuffix ⟨s.toArray⟩ ⟨p.toArray⟩ w (by simp; omega)
theorem c_trimPrefix (s p : List UInt8) : Pure Tryd.prog 60 [S s, S p] (S (Lib.trimPrefix s p)) := Pure.of_same rfl rfl fun w => Tryd.strings_TrimPrefix ⟨s.toArray⟩ ⟨p.toArray⟩ w
theorem c_cutPrefix (s p : List UInt8) : Pure Tryd.prog 58 [S s, S p] (.tup [S (Lib.trimPrefix s p), B (Lib.hasPrefix s p)]) :=
  Pure.of_same2 rfl (fun w O M => .tup rfl fun j g v hg hv => by
    match j with
    | 0 => cases hg; cases hv; exact .d (.v _ rfl)
    | 1 => cases hg; cases hv; exact .d (.v _ rfl)
    | j + 2 => cases hg) fun w => Tryd.strings_CutPrefix ⟨s.toArray⟩ ⟨p.toArray⟩ w
end Go.Proofs.YtjhoahdlehkfaaaDoor
