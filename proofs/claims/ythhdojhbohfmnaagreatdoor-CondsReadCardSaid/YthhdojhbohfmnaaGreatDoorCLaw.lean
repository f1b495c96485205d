/-
  The plain law: conditions are read the same.
-/
import Derived.Test.YthhdojhbohfmnaaGreatDoorCDraw
set_option linter.unusedVariables false
set_option linter.unusedSimpArgs false
set_option linter.unusedSectionVars false
set_option maxRecDepth 100000
namespace Go.Gk
theorem condString_ok {l : List Int} (hl : l.length ≤ 9223372036854775807) (k : Nat) (hk : 100 < k) : Ok (m_lanemake_Stream_CondString k (⟨l, 0⟩ : T_lanemake_Stream)) fun _ => True := by
  have hs : At l 0 0 (⟨l, 0⟩ : T_lanemake_Stream) := ⟨rfl, by simp, by simp⟩
  unfold m_lanemake_Stream_CondString
  refine ok_bi (flip_o hs 3 hl (by omega) (by omega) (by decide) (by decide)) fun y1 y1s => ?_
  refine ok_bif (fun _ => ?_) (fun _ => ?_)
  · exact ok_bi (some_o y1s _ hl (by omega) (by omega) (by decide) (by decide)) fun y4 _ => ok_some trivial
  · refine ok_bi (pick_o y1s _ hl (by omega) (by omega) (by decide) (by decide)) fun y7 ⟨y7m, y7s⟩ => ?_
    have h7 : ∃ m : Nat, m ≤ 2 ∧ y7.1 = (m : Int) := by
      simp only [List.mem_cons, List.not_mem_nil, or_false] at y7m
      rcases y7m with h | h
      · exact ⟨1, by omega, h⟩
      · exact ⟨2, by omega, h⟩
    obtain ⟨m, hm, h7⟩ := h7
    rw [h7]
    have hbd : BD m ≤ 1000 := by
      have : ∀ m ≤ 2, BD m ≤ 1000 := by decide
      exact this m hm
    have hbw : BW m ≤ 1000 := by
      have : ∀ m ≤ 2, BW m ≤ 1000 := by decide
      exact this m hm
    refine ok_bi (right_ok hl m k 2 y7.2 (by omega) (by omega) (by omega) (by omega) (y7s.up (by omega) (by omega))) fun y9 ⟨c, c1, c2, c3, c4, c5⟩ => ?_
    rw [c1]
    refine ok_bi (condText_ok (m + 1) k c c2 c3 (by omega) (by omega)) fun t ht => ?_
    refine ok_bi (pick_o c5 _ hl (by omega) (by omega) (by decide) (by decide)) fun y13 ⟨y13m, y13s⟩ => ?_
    have h13 : 0 ≤ y13.1 ∧ y13.1 ≤ 2 := by
      simp only [List.mem_cons, List.not_mem_nil, or_false] at y13m
      omega
    refine ok_bi (P := fun _ => True) ?_ fun q _ => ok_some trivial
    refine ok_gd (decide_eq_true (by omega)) ?_
    refine ok_mono (ok_rangeG (fun i (r : T_lanemake_Stream × Str) => r.2.length ≤ 1000 + 100 * i ∧ At l 0 (2000 + 3 * (i : Nat)) r.1) ⟨by simp only; omega, y13s.up (by omega) (by omega)⟩ ?_) fun _ _ => trivial
    intro i r hi ⟨e1, e2⟩
    obtain ⟨f1, f2, f3⟩ := e2
    obtain ⟨r', a', g1, g2, g3, g4⟩ := changedD l r.1.v_at r.2 [32, 38, 124, 33, 40, 41, 61, 60, 62, 34, 92, 118, 49, 46, 45, 97] hl (by omega) (by omega) (by omega) (by decide)
    rw [← f1] at g4
    refine ok_eq g4 (ok_some ⟨by simp only; omega, f1, by simp only; omega, by simp only; omega⟩)
theorem postured_ok (k : Nat) (hk : 80000 < k) : m_lanelaw1_postured k = some true := by
  obtain ⟨k, rfl⟩ : ∃ m, k = m + 20 := ⟨k - 20, by omega⟩
  rfl
theorem CondsRead_true (l : List Int) (hl : l.length ≤ 9223372036854775807) : m_lanelaw1_CondsRead 200000 l = some true := by
  obtain ⟨⟨t, s⟩, h1, _⟩ := condString_ok hl 200000 (by decide)
  obtain ⟨c1, c2, i, e, h2, h3, h4⟩ := parse_eq 200000 (by decide) t
  have h5 := postured_ok 200000 (by decide)
  unfold m_lanelaw1_CondsRead
  rw [h1, bi_some]
  simp only
  rw [h2, bi_some, h3, bi_some]
  simp only [BEq.rfl, Bool.and_self, cond_true]
  rw [h4, h5]
  rfl
end Go.Gk
