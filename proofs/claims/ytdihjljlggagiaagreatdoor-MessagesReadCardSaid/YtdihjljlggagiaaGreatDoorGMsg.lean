/-
  Messages read off bytes, two ways.
-/
import Derived.Test.YtdihjljlggagiaaGreatDoorGLev
set_option linter.unusedVariables false
set_option linter.unusedSimpArgs false
set_option maxRecDepth 100000
namespace Go.Gk
/-- Both are where they were, or both have stopped. -/
def StP (b : List Int) (x : T_name_decoder) (y : T_laneref1_bytesReader) : Prop :=
  (∃ a : Nat, a ≤ b.length ∧ x = ⟨b, (a : Int), false⟩ ∧ y = ⟨b, (a : Int), false⟩) ∨ ∃ u v, x = ⟨b, u, true⟩ ∧ y = ⟨b, v, true⟩
theorem numV_nn (l : List Int) : 0 ≤ numV l ∧ numV l < 18446744073709551616 := by
  rcases List.eq_nil_or_concat l with rfl | ⟨l', x, rfl⟩
  · decide
  · rw [List.concat_eq_append, numV_snoc]
    exact bits_nn _ _
section
variable {b : List Int} (hb : b.length ≤ 4096) (hB : Byt b)
include hb hB
theorem num_two {x : T_name_decoder} {y : T_laneref1_bytesReader} (h : StP b x y) (n : Nat) (h1 : 1 ≤ n) (h2 : n ≤ 8) :
    ∃ v x' y', m_name_decoder_number x (n : Int) = some (v, x') ∧ m_laneref1_bytesReader_take y (n : Int) = some (v, y') ∧ StP b x' y' ∧ 0 ≤ v ∧ v < 18446744073709551616 ∧ (n = 1 → v < 256) := by
  rcases h with ⟨a, ha, rfl, rfl⟩ | ⟨u, v, rfl, rfl⟩
  · rcases rtake_ok b a n hb ha (by omega) with ⟨he, e⟩ | ⟨he, z, e⟩
    · refine ⟨_, _, _, pnum_of (ptake_ok b a n hb (by omega) he), e, .inl ⟨a + n, he, rfl, rfl⟩, (numV_nn _).1, (numV_nn _).2, fun hn => ?_⟩
      subst hn
      obtain ⟨c, hc, hg⟩ := byt_at hB (show a < b.length by omega)
      rw [seg_one hg, numV_one hc]
      omega
    · have e2 := pnum_of (ptake_end b a n hb ha (by omega) he)
      rw [numV_zeros] at e2
      exact ⟨_, _, _, e2, e, .inr ⟨_, _, rfl, rfl⟩, by decide, by decide, fun _ => by decide⟩
  · have e2 := pnum_of (ptake_bad b u n (by omega))
    rw [numV_zeros] at e2
    exact ⟨_, _, _, e2, rtake_bad b v n h1 (by omega), .inr ⟨_, _, rfl, rfl⟩, by decide, by decide, fun _ => by decide⟩
theorem text_two {x : T_name_decoder} {y : T_laneref1_bytesReader} (h : StP b x y) (n : Nat) (h2 : n ≤ 300) :
    ∃ l s x' y', m_name_decoder_take x (n : Int) = some (l, x') ∧ strB l = some (st l) ∧ (st l).length ≤ 300 ∧ m_laneref1_bytesReader_text y (n : Int) = some (s, y') ∧ StP b x' y' ∧ (x'.bad = false → st l = s) := by
  rcases h with ⟨a, ha, rfl, rfl⟩ | ⟨u, v, rfl, rfl⟩
  · by_cases he : a + n ≤ b.length
    · exact ⟨_, _, _, _, ptake_ok b a n hb h2 he, strB_byt _ (byt_seg hB _ _), by rw [st_len, List.length_drop, List.length_take]; omega, rtext_ok hb hB h2 he, .inl ⟨a + n, he, rfl, rfl⟩, fun _ => rfl⟩
    · exact ⟨_, _, _, _, ptake_end b a n hb ha h2 he, strB_byt _ (byt_zeros _), by rw [st_len, List.length_replicate]; omega, rtext_end hb ha h2 he, .inr ⟨_, _, rfl, rfl⟩, fun h => by cases h⟩
  · refine ⟨_, _, _, _, ptake_bad b u n h2, strB_byt _ (byt_zeros _), by rw [st_len, List.length_replicate]; omega, rfl, .inr ⟨_, _, rfl, rfl⟩, fun h => by cases h⟩
theorem name_two {x : T_name_decoder} {y : T_laneref1_bytesReader} (h : StP b x y) :
    ∃ s s' x' y', m_name_decoder_name 20000000 x = some (s, x') ∧ m_laneref1_bytesReader_name 20000000 y = some (s', y') ∧ StP b x' y' ∧ (x'.bad = false → s = s') := by
  rw [show (20000000 : Nat) = 19999999 + 1 from rfl, rname_def]
  rcases h with ⟨a, ha, rfl, rfl⟩ | ⟨u, v, rfl, rfl⟩
  · have hm : mz a a ≤ 17400000 := by
      unfold mz
      have : a * 4200 ≤ 4096 * 4200 := Nat.mul_le_mul_right _ (by omega)
      omega
    rw [pname_def]
    rcases lev hb hB (mz a a) a a (Nat.le_refl _) ha ha with ⟨ls, e, g1, g2, g3, g4, g5, g6, g7⟩ | ⟨g6, g7⟩
    · obtain ⟨xa, bh', f1, f2, f3⟩ := g7 (19999999 + 1) [] (-1) (by omega) (by simp; omega)
      have e6 := g6 19999999 19999999 [] (by omega) (by omega) (by simp) (by simp [dots])
      simp only [f1, e6, bi_some, List.nil_append]
      have hq : (bif decide (bh' ≥ 0) then some bh' else some xa) = some (e : Int) := by
        rcases f2 (by decide) with ⟨h1, h2⟩ | h1
        · rw [decide_eq_false (show ¬ bh' ≥ 0 by omega), h2]; rfl
        · rw [h1, decide_eq_true (show (e : Int) ≥ 0 by omega)]; rfl
      rw [hq, bi_some, join_any ls (by omega) (by omega), bi_some]
      exact ⟨_, _, _, _, rfl, rfl, .inl ⟨e, g2, rfl, rfl⟩, fun _ => rfl⟩
    · obtain ⟨xa, l2, bh', f1, f2, f3⟩ := g7 (19999999 + 1) [] (-1) (by omega) (by simp; omega)
      simp only [f1, bi_some]
      have hq : ∃ q, (bif decide (bh' ≥ 0) then some bh' else some xa) = some q := by cases decide (bh' ≥ 0) <;> exact ⟨_, rfl⟩
      obtain ⟨q, hq⟩ := hq
      have d0 : (dots ([] : List Str)).length = 0 := rfl
      rw [hq, bi_some, join_any l2 (by simp at f2; omega) (by omega), bi_some]
      rcases g6 19999999 19999999 [] (by omega) (by omega) (by simp) (by simp [dots]) with ⟨z, l3, e6⟩ | ⟨s, z, _, e6⟩
      · rw [e6]
        exact ⟨_, _, _, _, rfl, rfl, .inr ⟨_, _, rfl, rfl⟩, fun h => by cases h⟩
      · rw [e6]
        exact ⟨_, _, _, _, rfl, rfl, .inr ⟨_, _, rfl, rfl⟩, fun h => by cases h⟩
  · rw [pname_def, loop_out (pf_bad b u [] _ _), show (19999999 : Nat) = 19999998 + 1 from rfl, loop_out (rf_bad _ _ b v [])]
    exact ⟨_, _, _, _, rfl, rfl, .inr ⟨_, _, rfl, rfl⟩, fun h => by cases h⟩
theorem question_two {x : T_name_decoder} {y : T_laneref1_bytesReader} (h : StP b x y) :
    ∃ s s' v x1 y1 x' y', m_name_decoder_name 20000000 x = some (s, x1) ∧ m_name_decoder_number x1 1 = some (v, x') ∧ m_laneref1_bytesReader_name 20000000 y = some (s', y1) ∧ m_laneref1_bytesReader_take y1 1 = some (v, y') ∧ StP b x' y' ∧ (x'.bad = false → s = s') := by
  obtain ⟨s, s', x1, y1, e1, e2, h1, h2⟩ := name_two hb hB h
  obtain ⟨v, x', y', e3, e4, h3, _⟩ := num_two hb hB h1 1 (by decide) (by decide)
  refine ⟨s, s', v, x1, y1, x', y', e1, e3, e2, e4, h3, fun hx => h2 ?_⟩
  rcases h1 with ⟨a, _, rfl, _⟩ | ⟨u, w, rfl, rfl⟩
  · rfl
  · have e5 := pnum_of (ptake_bad b u 1 (by decide))
    have e6 : some (numV (List.replicate 1 0), (⟨b, u, true⟩ : T_name_decoder)) = some (v, x') := e5.symm.trans e3
    rw [← (Prod.mk.inj (Option.some.inj e6)).2] at hx
    cases hx
end
end Go.Gk
