/-
  The plain laws of conditions: the conditions that are drawn, and their texts.
-/
import Derived.Test.YthhdojhbohfmnaaGreatDoorCParse
set_option linter.unusedVariables false
set_option linter.unusedSimpArgs false
set_option linter.unusedSectionVars false
set_option maxRecDepth 100000
namespace Go.Gk
theorem repl (s : Str) (hs : s ∈ ([[108, 105, 110, 117, 120], [109, 97, 99], [120, 34, 121, 92, 122]] : List Str)) : ∃ t u, m_strings_ReplaceAll s [92] [92, 92] = some t ∧ m_strings_ReplaceAll t [34] [92, 34] = some u ∧ u.length ≤ 10 := by
  simp only [List.mem_cons, List.not_mem_nil, or_false] at hs
  rcases hs with rfl | rfl | rfl
  · exact ⟨[108, 105, 110, 117, 120], [108, 105, 110, 117, 120], by rfl, by rfl, by decide⟩
  · exact ⟨[109, 97, 99], [109, 97, 99], by rfl, by rfl, by decide⟩
  · exact ⟨[120, 34, 121, 92, 92, 122], [120, 92, 34, 121, 92, 92, 122], by rfl, by rfl, by decide⟩
theorem itC : m_strconv_Itoa 0 = some [48] ∧ m_strconv_Itoa 1 = some [49] ∧ m_strconv_Itoa 2 = some [50] ∧ m_strconv_Itoa 5 = some [53] ∧ m_strconv_Itoa 12 = some [49, 50] ∧ m_strconv_Itoa (-3) = some [45, 51] := by
  refine ⟨?_, ?_, ?_, ?_, ?_, ?_⟩ <;> (rw [itoa_m (by decide) (by decide)]; simp [Lib.itoa, Lib.decDigits])
/-- The values that are drawn. -/
inductive RV : T_api_Attr → Prop
  | num (n : Int) (h : n ∈ [0, 5, -3]) : RV ⟨1, n, [], (0, 0, 0, 0)⟩
  | bool (n : Int) (h : 0 ≤ n ∧ n < 2) : RV ⟨3, n, [], (0, 0, 0, 0)⟩
  | ver (n : Int) (h : n ∈ [2, 5, 12]) : RV ⟨4, 0, [], (1, n, 0, 0)⟩
  | words (w : Str) (h : w ∈ ([[108, 105, 110, 117, 120], [109, 97, 99], [120, 34, 121, 92, 122]] : List Str)) : RV ⟨2, 0, w, (0, 0, 0, 0)⟩
theorem attr_text (k : Nat) (hk : 10 < k) {v : T_api_Attr} (h : RV v) : Ok (m_laneref1_AttrText k v) fun t => t.length ≤ 20 := by
  obtain ⟨i0, i1, i2, i5, i12, im3⟩ := itC
  obtain ⟨k, rfl⟩ : ∃ m, k = m + 6 := ⟨k - 6, by omega⟩
  cases h with
  | num n h =>
    simp only [List.mem_cons, List.not_mem_nil, or_false] at h
    rcases h with rfl | rfl | rfl
    · exact ⟨_, by unfold m_laneref1_AttrText; simp only [i0]; rfl, by decide⟩
    · exact ⟨_, by unfold m_laneref1_AttrText; simp only [i5]; rfl, by decide⟩
    · exact ⟨_, by unfold m_laneref1_AttrText; simp only [im3]; rfl, by decide⟩
  | bool n h =>
    obtain rfl | rfl : n = 0 ∨ n = 1 := by omega
    · exact ⟨_, rfl, by decide⟩
    · exact ⟨_, rfl, by decide⟩
  | ver n h =>
    have key : ∀ (n : Int) (t : Str), m_strconv_Itoa n = some t → t.length ≤ 5 → Ok (m_laneref1_AttrText (k + 6) ⟨4, 0, [], (1, n, 0, 0)⟩) fun t => t.length ≤ 20 := fun n t ht hl => by
      have hj : (Lib.join [[49], t, [48], [48]] [46]).length = 6 + t.length := by rw [Lib.join_length]; simp [Lib.lens]; omega
      refine ⟨118 :: Lib.join [[49], t, [48], [48]] [46], ?_, by simp only [List.length_cons, hj]; omega⟩
      unfold m_laneref1_AttrText
      rw [show ((4 : Int) == 1) = false from rfl, show ((4 : Int) == 3) = false from rfl, show ((4 : Int) == 4) = true from rfl]
      simp only [cond_false, cond_true]
      rw [loopM_go ([[49]], 1) (by rw [show getZ ([1, n, 0, 0] : List Int) 0 = some 1 from rfl, bi_some, i1]; rfl)]
      rw [loopM_go ([[49], t], 2) (by rw [show getZ ([1, n, 0, 0] : List Int) 1 = some n from rfl, bi_some, ht]; rfl)]
      rw [loopM_go ([[49], t, [48]], 3) (by rw [show getZ ([1, n, 0, 0] : List Int) 2 = some 0 from rfl, bi_some, i0]; rfl)]
      rw [loopM_go ([[49], t, [48], [48]], 4) (by rw [show getZ ([1, n, 0, 0] : List Int) 3 = some 0 from rfl, bi_some, i0]; rfl)]
      rw [loopM_out [[49], t, [48], [48]] rfl, bi_some]
      unfold m_strings_Join
      rw [Nat.ble_eq_true_of_le (show ([[49], t, [48], [48]] : List Str).length ≤ 4294967296 by simp), Nat.ble_eq_true_of_le (show (Lib.join [[49], t, [48], [48]] [46]).length ≤ 1099511627776 by omega)]
      simp only [gd, Bool.and_self, cond_true, bi_some]
      rw [cat_ok (by simp only [List.length_singleton]; omega)]
      rfl
    simp only [List.mem_cons, List.not_mem_nil, or_false] at h
    rcases h with rfl | rfl | rfl
    · exact key _ _ i2 (by decide)
    · exact key _ _ i5 (by decide)
    · exact key _ _ i12 (by decide)
  | words w h =>
    obtain ⟨t, u, h1, h2, h3⟩ := repl w h
    refine ⟨34 :: u ++ [34], ?_, by simp; omega⟩
    unfold m_laneref1_AttrText
    rw [show ((2 : Int) == 1) = false from rfl, show ((2 : Int) == 3) = false from rfl, show ((2 : Int) == 4) = false from rfl]
    simp only [cond_false]
    rw [h1, bi_some, h2, bi_some, cat_ok (by simp; omega), bi_some, cat_ok (by simp; omega)]
    rfl
end Go.Gk
