/-
  The plain laws of conditions: whatever the text, the two readers answer the same.
-/
import Derived.Test.YthhdojhbohfmnaaGreatDoorCList
set_option linter.unusedVariables false
set_option linter.unusedSimpArgs false
set_option linter.unusedSectionVars false
set_option maxRecDepth 100000
namespace Go.Gk
theorem fail_dead {s : Str} {a : Nat} {p : T_posture_parser} {r : T_laneref1_condReader} (h : Alive s a p r) : Two (m_posture_parser_fail p) (m_laneref1_condReader_wrong r) fun x y => Dead s a x.2 y.2 := by
  obtain ⟨ha1, ha2⟩ := h.at_
  obtain ⟨e1, e2, e3, e4, e5, _⟩ := h
  unfold m_posture_parser_fail m_laneref1_condReader_wrong
  rw [e3, e4]
  refine ⟨_, _, rfl, rfl, e1, e2, rfl, ?_, ?_, ha1⟩
  · show (0 : Int) ≤ p.tok.v_at
    rw [ha1]; omega
  · show r.v_next.v_at = p.tok.v_at
    rw [ha1, ha2]
theorem Alive.over {s : Str} {a : Nat} {p : T_posture_parser} {r : T_laneref1_condReader} (h : Alive s a p r) : ((!((r.v_next.kind : Str) == [])) || decide ((r.v_next.v_at : Int) < (s.length : Int))) = !((p.tok.kind : Str) == kEnd) := by
  obtain ⟨ha1, ha2⟩ := h.at_
  obtain ⟨_, _, _, _, _, n, _, ⟨_, _, h⟩, _⟩ := h
  rw [ha2]
  rcases h with ⟨h1, h2, h3⟩ | ⟨h1, h2, h3⟩ | ⟨m, _, _, _, _, ⟨h1, h2⟩ | ⟨h1, h2, _⟩ | ⟨h1, h2, _⟩⟩
  · rw [h1, h2, decide_eq_false (show ¬ (a : Int) < (s.length : Int) by omega)]; decide
  · rw [h1, h2, decide_eq_true (show (a : Int) < (s.length : Int) by omega)]; decide
  · obtain ⟨q1, _, _, _, q5, _⟩ := sg_no _ h1
    have q1' : (p.tok.kind == kEnd) = false := by rw [Bool.eq_false_iff]; intro hh; rw [eq_of_beq hh] at q1; simp at q1
    have q5' : (p.tok.kind == []) = false := by rw [Bool.eq_false_iff]; intro hh; rw [eq_of_beq hh] at q5; simp at q5
    rw [h2, q1', q5']; rfl
  · rw [h1, h2]; rw [show (([110] : Str) == []) = false from rfl, show (kName == kEnd) = false from by decide]; rfl
  · rcases h2 with h2 | h2
    · rw [h1, h2, show (([118] : Str) == []) = false from rfl, show (kVal == kEnd) = false from by decide]; rfl
    · rw [h1, h2, show (([102] : Str) == []) = false from rfl, show (kVal == kEnd) = false from by decide]; rfl
theorem same_z (k : Nat) (hk : 10 < k) : m_laneref1_SameCond k (⟨0, [], [], (⟨0, 0, [], (0, 0, 0, 0)⟩ : T_api_Attr), (KD.mk 0 [])⟩ : T_api_Cond) (⟨0, [], [], (⟨0, 0, [], (0, 0, 0, 0)⟩ : T_api_Attr), (KD.mk 0 [])⟩ : T_api_Cond) = some true := by
  rw [← zC_t]
  exact same_ok 1 k zC (by decide) (by omega)
theorem parse_eq (k : Nat) (hk : 80000 < k) (text : Str) : ∃ (c1 c2 : T_api_Cond) (i e : Int), m_posture_Parse k text = some (c1, i, e) ∧ m_laneref1_CondParse k text = some (c2, i, e) ∧ m_laneref1_SameCond k c1 c2 = some true := by
  unfold m_posture_Parse m_laneref1_CondParse
  by_cases hl : text.length ≤ 5000
  · rw [decide_eq_false (show ¬ (text.length : Int) > 5000 by omega)]
    simp only [cond_false]
    obtain ⟨p1, r1, e1, e2, a, h0, A1⟩ := next_two text k 0 (by omega) (by omega) (by omega) (⟨text, (⟨[], 0, 0, [], (⟨0, 0, [], (0, 0, 0, 0)⟩ : T_api_Attr)⟩ : T_posture_token), false, 0⟩ : T_posture_parser) (⟨text, 0, (⟨[], 0, [], (⟨0, 0, [], (0, 0, 0, 0)⟩ : T_api_Attr)⟩ : T_laneref1_token), -1⟩ : T_laneref1_condReader) rfl rfl rfl rfl rfl rfl
    rw [e1, e2, bi_some, bi_some]
    obtain ⟨x, y, e3, e4, C1, C2, a', g1, g2, g3, g4, g5, g6, g7⟩ := cond_two hl k a p1 r1 (by omega) A1
    rw [e3, e4, bi_some, bi_some]
    have dead : ∀ (p : T_posture_parser) (r : T_laneref1_condReader) (c c' : T_api_Cond), Dead text a' p r → ∃ (c1 c2 : T_api_Cond) (i e : Int),
        (bif p.bad then (some ((⟨0, [], [], (⟨0, 0, [], (0, 0, 0, 0)⟩ : T_api_Attr), (KD.mk 0 [])⟩ : T_api_Cond), p.v_at, (9 : Int))) else (bi (m_posture_CheckCond k c) fun y15 => bif (y15 : Int) != 0 then (some ((⟨0, [], [], (⟨0, 0, [], (0, 0, 0, 0)⟩ : T_api_Attr), (KD.mk 0 [])⟩ : T_api_Cond), 0, y15)) else (some (c, 0, 0)))) = some (c1, i, e) ∧
        (bif decide ((r.fault : Int) ≥ 0) then (some ((⟨0, [], [], (⟨0, 0, [], (0, 0, 0, 0)⟩ : T_api_Attr), (KD.mk 0 [])⟩ : T_api_Cond), r.fault, (9 : Int))) else (bi (m_laneref1_CondFault k c') fun y15 => bif (y15 : Int) != 0 then (some ((⟨0, [], [], (⟨0, 0, [], (0, 0, 0, 0)⟩ : T_api_Attr), (KD.mk 0 [])⟩ : T_api_Cond), 0, y15)) else (some (c', 0, 0)))) = some (c2, i, e) ∧
        m_laneref1_SameCond k c1 c2 = some true := by
      intro p r c c' ⟨d1, d2, d3, d4, d5, d6⟩
      rw [d3, decide_eq_true (show (r.fault : Int) ≥ 0 by omega)]
      simp only [cond_true]
      exact ⟨_, _, _, _, rfl, by rw [d5], same_z k (by omega)⟩
    rcases g7 with ⟨q1, q2, q3, q4, q5⟩ | hd
    · have hb := q1.2.2.1
      have hf := q1.2.2.2.1
      rw [hb, hf, q1.over]
      show ∃ (c1 c2 : T_api_Cond) (i e : Int), bi (bif (!false && !((x.2.tok.kind : Str) == kEnd)) then _ else _) _ = _ ∧ bi (bif (true && !((x.2.tok.kind : Str) == kEnd)) then _ else _) _ = _ ∧ _
      cases hT : ((x.2.tok.kind : Str) == kEnd) with
      | false =>
        simp only [Bool.not_false, Bool.true_and, cond_true]
        obtain ⟨x', y', f1, f2, f3⟩ := fail_dead q1
        rw [f1, f2]
        simp only [bi_some]
        exact dead _ _ _ _ f3
      | true =>
        simp only [Bool.not_true, Bool.and_false, cond_false, bi_some]
        rw [hb, hf, decide_eq_false (show ¬ (-1 : Int) ≥ 0 by decide), g1, g2, ← q2]
        simp only [cond_false]
        obtain ⟨e, h1, h2⟩ := check_eq k C1 q5 (by omega)
        rw [h1, h2, bi_some]
        by_cases h0 : e = 0
        · subst h0
          exact ⟨_, _, _, _, rfl, rfl, same_ok C1.dp k C1 (Nat.le_refl _) (by omega)⟩
        · rw [show ((e : Int) != 0) = true by simpa using h0]
          exact ⟨_, _, _, _, rfl, rfl, same_z k (by omega)⟩
    · have hd' := hd
      obtain ⟨d1, d2, d3, d4, d5, d6⟩ := hd'
      rw [d3, decide_eq_false (show ¬ (y.2.fault : Int) < 0 by omega)]
      simp only [Bool.not_true, Bool.false_and, cond_false, bi_some]
      have hq := dead x.2 y.2 x.1 y.1 hd
      rw [d3] at hq ⊢
      exact hq
  · rw [decide_eq_true (show (text.length : Int) > 5000 by omega)]
    exact ⟨_, _, _, _, rfl, rfl, same_z k (by omega)⟩
end Go.Gk
