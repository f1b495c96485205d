/-
  The library computes its models: package strings.
-/
import Derived.Shelf.Strings.SplitCore
import Derived.Lib.SplitLaws
import Derived.Test.YtfnjahjbpaoepaaGreatDoorGt
import Derived.Test.YtfnjahjbpaoepaaGreatDoorMStr
import Derived.Test.YtfnjahjbpaoepaaGreatDoorLays
import Derived.Shelf.Strings.SlTrimAscii
set_option linter.unusedVariables false
set_option linter.unusedSimpArgs false
set_option maxRecDepth 100000
namespace Go.Proofs.YtfnjahjbpaoepaaGreatDoor
open Go.Gk Go.Shelf
theorem c_split1 (s : List UInt8) (c : UInt8) (hs : s.length < 4294967281) : EC Tryz.prog 237 [S s, S [c], I 0, I (-1)] [] fun g hp' => g = .sl 0 (Lib.split s [c]).length ∧ hp' = [.row 9 1 (Lib.split s [c]).length (((Lib.split s [c]).map fun x => Value.string ⟨x.toArray⟩).map D.v)] := by
  have e0 : (Lib.splitB ⟨#[c]⟩ 0 (Lib.count s [c]) ⟨s.toArray⟩).map Value.string = (Lib.split s [c]).map fun x => Value.string ⟨x.toArray⟩ := by
    unfold Lib.split
    rw [show Lib.splitK [c] 0 (Lib.count s [c]) s = Lib.splitK (⟨#[c]⟩ : ByteArray).data.toList 0 (Lib.count s [c]) (⟨s.toArray⟩ : ByteArray).data.toList from rfl, ← Lib.splitB_data, List.map_map]
    rfl
  have e1 : (Lib.splitB ⟨#[c]⟩ 0 (Lib.count s [c]) ⟨s.toArray⟩).length = (Lib.split s [c]).length := by
    have := congrArg List.length e0
    simpa using this
  have hN : (Lib.split s [c]).length = Lib.count s [c] + 1 := by rw [← e1]; exact Lib.splitB_all ⟨#[c]⟩ (Nat.le_refl _) 0 _ _ rfl
  have hle : Lib.count s [c] ≤ s.length := Lib.countB_le ⟨#[c]⟩ (Nat.le_refl _) s.length ⟨s.toArray⟩ (by simp)
  refine EC.of_alloc (gs := [S s, S [c], I 0, I (-1)]) (n := (Lib.split s [c]).length) (sz := 1) (vs := [.string ⟨s.toArray⟩, .string ⟨#[c]⟩, .int .i64 0, .int .i64 (-1)]) (xs := (Lib.split s [c]).map fun x => Value.string ⟨x.toArray⟩) rfl (fun v hv => ?_) (by simp) (by simp only [maxLen]; omega) fun w => ?_
  · obtain ⟨x, _, rfl⟩ := List.mem_map.1 hv
    rfl
  · have c1 := Any.strings_genSplit_core Tryz.lays221 (by kernel_rfl) ⟨s.toArray⟩ ⟨#[c]⟩ 0 (-1) (Lib.count s [c] + 1) w (by simpa using hs) (Nat.le_refl _) (Nat.zero_le _)
      (fun x cc hx => (Tryz.strings_Index_one x c _).mono fun e w' ⟨h1, h2⟩ => ⟨by rw [h1, ← Lib.index_one], h2⟩)
      ((Tryz.strings_Count_one ⟨s.toArray⟩ c w).mono fun e w' ⟨h1, h2⟩ => ⟨by rw [h1]; show _ = Ending.returned (Value.int .i64 ((Lib.count s [c] : Nat) : Int)); rw [Lib.count_one]; rfl, h2⟩)
      (by decide) (by decide) (by
        rw [if_pos (by decide)]
        show _ = min (((Lib.count s [c] : Nat) : Int) + 1) (((⟨s.toArray⟩ : ByteArray).size : Int) + 1)
        have : (⟨s.toArray⟩ : ByteArray).size = s.length := by simp
        rw [this]
        omega)
    rw [Nat.add_sub_cancel, e1, hN] at c1
    have e2 : Lib.cellsOf (Lib.splitB ⟨#[c]⟩ 0 (Lib.count s [c]) ⟨s.toArray⟩) (Lib.count s [c] + 1) = ((Lib.split s [c]).map fun x => Value.string ⟨x.toArray⟩).toArray := by
      rw [← hN, ← e1, Lib.cellsOf_full, e0]
    rw [e2] at c1
    rw [hN]
    exact c1
theorem c_trim (s cs : List UInt8) (hs : s.length ≤ 1099511627776) (hc : cs.length < 4294967281) (ha : ∀ b ∈ cs, b.toNat < 128) : Pure Tryz.prog 193 [S s, S cs] (S (Lib.trimS s cs)) :=
  Pure.of_below rfl rfl fun w => Any.strings_Trim_laid Tryz.lays160 (by kernel_rfl) ⟨s.toArray⟩ ⟨cs.toArray⟩ w (by simp; omega) (by simpa using hc) (fun j b hb => ha b (List.mem_of_getElem? hb))
theorem c_hasPrefix (s p : List UInt8) : Pure Tryz.prog 199 [S s, S p] (B (Lib.hasPrefix s p)) := Pure.of_same rfl rfl fun w => Tryz.strings_HasPrefix ⟨s.toArray⟩ ⟨p.toArray⟩ w
theorem c_hasSuffix (s p : List UInt8) (hs : s.length ≤ 1099511627776) : Pure Tryz.prog 181 [S s, S p] (B (Lib.hasSuffix s p)) := Pure.of_same rfl rfl fun w => Tryz.strings_HasSuffix ⟨s.toArray⟩ ⟨p.toArray⟩ w (by simp; omega)
theorem c_trimPrefix (s p : List UInt8) : Pure Tryz.prog 169 [S s, S p] (S (Lib.trimPrefix s p)) := Pure.of_same rfl rfl fun w => Tryz.strings_TrimPrefix ⟨s.toArray⟩ ⟨p.toArray⟩ w
theorem c_cutPrefix (s p : List UInt8) : Pure Tryz.prog 264 [S s, S p] (.tup [S (Lib.trimPrefix s p), B (Lib.hasPrefix s p)]) :=
  Pure.of_same2 rfl (fun w O M => .tup rfl fun j g v hg hv => by
    match j with
    | 0 => cases hg; cases hv; exact .d (.v _ rfl)
    | 1 => cases hg; cases hv; exact .d (.v _ rfl)
    | j + 2 => cases hg) fun w => Tryz.strings_CutPrefix ⟨s.toArray⟩ ⟨p.toArray⟩ w
theorem c_strings_HasPrefix {s p : Str} {r : Bool} (h : m_strings_HasPrefix s p = some r) : Pure Tryz.prog 199 [S s, S p] (B r) := by
  cases h; exact c_hasPrefix s p
theorem c_strings_TrimPrefix {s p r : Str} (h : m_strings_TrimPrefix s p = some r) : Pure Tryz.prog 169 [S s, S p] (S r) := by
  cases h; exact c_trimPrefix s p
theorem c_strings_CutPrefix {s p : Str} {r : Str × Bool} (h : m_strings_CutPrefix s p = some r) : Pure Tryz.prog 264 [S s, S p] (.tup [S r.1, B r.2]) := by
  cases h; exact c_cutPrefix s p
theorem c_strings_HasSuffix {s p : Str} {r : Bool} (h : m_strings_HasSuffix s p = some r) : Pure Tryz.prog 181 [S s, S p] (B r) := by
  obtain ⟨h1, h⟩ := gd_ok h
  cases h; exact c_hasSuffix s p (Nat.le_of_ble_eq_true h1)
theorem c_strings_Trim {s cs r : Str} (h : m_strings_Trim s cs = some r) : Pure Tryz.prog 193 [S s, S cs] (S r) := by
  obtain ⟨h1, h⟩ := gd_ok h
  simp only [Bool.and_eq_true] at h1
  cases h; exact c_trim s cs (Nat.le_of_ble_eq_true h1.1) (nblt.1 h1.2.1) fun b hb => nblt.1 (List.all_eq_true.1 h1.2.2 b hb)
theorem flat_eS (l : List Str) : (l.map fun x => Value.string ⟨x.toArray⟩).map D.v = l.flatMap eS := by
  induction l with
  | nil => rfl
  | cons x l ih => simp only [List.map_cons, List.flatMap_cons, ih]; rfl
theorem c_strings_Split {s sep : Str} {r : List Str} (h : m_strings_Split s sep = some r) : EC Tryz.prog 162 [S s, S sep] [] fun g hp' => g = .sl 0 r.length ∧ hp' = [.row 9 1 r.length (r.flatMap eS)] := by
  unfold m_strings_Split at h
  split at h
  · rename_i c
    obtain ⟨h1, h⟩ := gd_ok h
    cases h
    refine ec_enter (Fr.of 0 _) Tryz.func162 rfl (Fr.of_ok _) (Nat.le_of_ble_eq_true rfl) fun _ => ?_
    refine go_in ?_
    refine go hΓ 9 rfl ?_
    have hc := c_split1 s c (nblt.1 h1)
    rw [flat_eS] at hc
    refine eo_callF [] (.sl 0 (Lib.split s [c]).length) [.row 9 1 (Lib.split s [c]).length ((Lib.split s [c]).flatMap eS)] (callable Tryz.func237 rfl rfl) hc rfl (Nat.le_of_ble_eq_true rfl) rfl rfl rfl rfl rfl rfl rfl rfl rfl rfl ?_
    refine go_ops hΓ 4 rfl ?_
    exact fin_objs hΓ [] (.inr rfl) rfl rfl rfl rfl (.inl rfl)
  · cases h
end Go.Proofs.YtfnjahjbpaoepaaGreatDoor
