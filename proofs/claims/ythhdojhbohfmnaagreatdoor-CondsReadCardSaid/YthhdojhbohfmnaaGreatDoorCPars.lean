/-
  The plain laws of conditions: the two readers come to the same condition, or to the same place where it is wrong.
-/
import Derived.Test.YthhdojhbohfmnaaGreatDoorCTok
set_option linter.unusedVariables false
set_option linter.unusedSimpArgs false
set_option linter.unusedSectionVars false
set_option maxRecDepth 100000
namespace Go.Gk
def CC.W (c : CC) : Nat := max 1 c.kids.length
def zC : CC := .mk 0 [] [] zA []
theorem zC_t : zC.t = (⟨0, [], [], (⟨0, 0, [], (0, 0, 0, 0)⟩ : T_api_Attr), (KD.mk 0 [])⟩ : T_api_Cond) := by simp only [zC, CC.t, CC.ts]; exact (by rfl)
/-- It is wrong, at the same place in both. -/
def Dead (s : Str) (a : Nat) (p : T_posture_parser) (r : T_laneref1_condReader) : Prop :=
  p.s = s ∧ r.s = s ∧ p.bad = true ∧ 0 ≤ p.v_at ∧ r.fault = p.v_at ∧ p.tok.v_at = (a : Int)
def PRes (s : Str) (a : Nat) (x : T_api_Cond × T_posture_parser) (y : T_api_Cond × T_laneref1_condReader) : Prop :=
  ∃ (C1 C2 : CC) (a' : Nat), x.1 = C1.t ∧ y.1 = C2.t ∧ a ≤ a' ∧ a' ≤ s.length ∧ C1.W ≤ a' - a + 1 ∧ C2.W ≤ a' - a + 1 ∧
    ((Alive s a' x.2 y.2 ∧ C1 = C2 ∧ a < a' ∧ C1.dp ≤ a' - a ∧ C1.Gd) ∨ Dead s a' x.2 y.2)
theorem Alive.at_ {s : Str} {a : Nat} {p : T_posture_parser} {r : T_laneref1_condReader} (h : Alive s a p r) : p.tok.v_at = (a : Int) ∧ r.v_next.v_at = (a : Int) := by
  obtain ⟨_, _, _, _, _, n, _, h, _⟩ := h
  exact ⟨h.1, h.2.1⟩
theorem sg_no : ∀ g ∈ SG, (kEnd == g) = false ∧ (kBad == g) = false ∧ (kName == g) = false ∧ (kVal == g) = false ∧ (([] : Str) == g) = false ∧ (([110] : Str) == g) = false ∧ (([118] : Str) == g) = false ∧ (([102] : Str) == g) = false ∧
    (g == kName) = false ∧ (g == kVal) = false ∧ (g == ([110] : Str)) = false ∧ (g == ([118] : Str)) = false ∧ (g == ([102] : Str)) = false ∧ g ≠ kEnd ∧ g ≠ kBad := by decide
section
variable {s : Str} {a : Nat} {p : T_posture_parser} {r : T_laneref1_condReader}
theorem Alive.sign (h : Alive s a p r) {g : Str} (hg : g ∈ SG) : (r.v_next.kind == g) = (p.tok.kind == g) := by
  obtain ⟨_, _, _, _, _, n, _, ⟨_, _, h⟩, _⟩ := h
  obtain ⟨q1, q2, q3, q4, q5, q6, q7, q8, _⟩ := sg_no g hg
  rcases h with ⟨h1, h2, _⟩ | ⟨h1, h2, _⟩ | ⟨m, _, _, _, _, ⟨h1, h2⟩ | ⟨h1, h2, _⟩ | ⟨h1, h2, _⟩⟩
  · rw [h1, h2, q1, q5]
  · rw [h1, h2, q2, q5]
  · rw [h2]
  · rw [h1, h2, q3, q6]
  · rcases h2 with h2 | h2
    · rw [h1, h2, q4, q7]
    · rw [h1, h2, q4, q8]
theorem Alive.name (h : Alive s a p r) : (r.v_next.kind == [110]) = (p.tok.kind == kName) ∧ ((p.tok.kind == kName) = true → r.v_next.name = p.tok.name ∧ p.tok.name.length ≤ 50000) := by
  obtain ⟨_, _, _, _, _, n, _, ⟨_, _, h⟩, _⟩ := h
  rcases h with ⟨h1, h2, _⟩ | ⟨h1, h2, _⟩ | ⟨m, _, _, _, _, ⟨h1, h2⟩ | ⟨h1, h2, h3, h4⟩ | ⟨h1, h2, _⟩⟩
  · rw [h1, h2]; exact ⟨by decide, fun h => absurd h (by decide)⟩
  · rw [h1, h2]; exact ⟨by decide, fun h => absurd h (by decide)⟩
  · obtain ⟨_, _, _, _, _, _, _, _, q9, _, q11, _⟩ := sg_no _ h1
    rw [h2, q9, q11]
    exact ⟨rfl, fun h => by cases h⟩
  · rw [h1, h2]; exact ⟨by decide, fun _ => ⟨h3, h4⟩⟩
  · rcases h2 with h2 | h2 <;> (rw [h1, h2]; exact ⟨by decide, fun h => absurd h (by decide)⟩)
theorem Alive.val (h : Alive s a p r) : ((!(r.v_next.kind == [118])) && (!(r.v_next.kind == [102]))) = !(p.tok.kind == kVal) ∧ ((p.tok.kind == kVal) = true → r.v_next.value = p.tok.value ∧ p.tok.value.Words.length ≤ 50000) := by
  obtain ⟨_, _, _, _, _, n, _, ⟨_, _, h⟩, _⟩ := h
  rcases h with ⟨h1, h2, _⟩ | ⟨h1, h2, _⟩ | ⟨m, _, _, _, _, ⟨h1, h2⟩ | ⟨h1, h2, _⟩ | ⟨h1, h2, h3, h4⟩⟩
  · rw [h1, h2]; exact ⟨by decide, fun h => absurd h (by decide)⟩
  · rw [h1, h2]; exact ⟨by decide, fun h => absurd h (by decide)⟩
  · obtain ⟨_, _, _, _, _, _, _, _, _, q10, _, q12, q13, _⟩ := sg_no _ h1
    rw [h2, q10, q12, q13]
    exact ⟨rfl, fun h => by cases h⟩
  · rw [h1, h2]; exact ⟨by decide, fun h => absurd h (by decide)⟩
  · rcases h2 with h2 | h2 <;> (rw [h1, h2]; exact ⟨by decide, fun _ => ⟨h3, h4⟩⟩)
theorem ops_no : opsB kEnd = false ∧ opsB kBad = false ∧ opsB kName = false ∧ opsB kVal = false ∧ opsB [] = false ∧ opsB [110] = false ∧ opsB [118] = false ∧ opsB [102] = false := by decide
theorem ops_sg : ∀ g : Str, opsB g = true → g ∈ SG := by
  intro g h
  unfold opsB at h
  simp at h
  rcases h with rfl | rfl | rfl | rfl | rfl | rfl <;> decide
theorem Alive.ops (h : Alive s a p r) : opsB r.v_next.kind = opsB p.tok.kind ∧ (opsB p.tok.kind = true → r.v_next.kind = p.tok.kind) := by
  obtain ⟨_, _, _, _, _, n, _, ⟨_, _, h⟩, _⟩ := h
  obtain ⟨q1, q2, q3, q4, q5, q6, q7, q8⟩ := ops_no
  rcases h with ⟨h1, h2, _⟩ | ⟨h1, h2, _⟩ | ⟨m, _, _, _, _, ⟨h1, h2⟩ | ⟨h1, h2, _⟩ | ⟨h1, h2, _⟩⟩
  · rw [h1, h2, q1, q5]; exact ⟨rfl, fun h => by cases h⟩
  · rw [h1, h2, q2, q5]; exact ⟨rfl, fun h => by cases h⟩
  · rw [h2]; exact ⟨rfl, fun _ => rfl⟩
  · rw [h1, h2, q3, q6]; exact ⟨rfl, fun h => by cases h⟩
  · rcases h2 with h2 | h2
    · rw [h1, h2, q4, q7]; exact ⟨rfl, fun h => by cases h⟩
    · rw [h1, h2, q4, q8]; exact ⟨rfl, fun h => by cases h⟩
/-- A token is taken. -/
theorem take_two {k : Nat} (hs : s.length ≤ 5000) (hk : s.length + 300 < k) (h : Alive s a p r) (h1 : p.tok.kind ≠ kEnd) (h2 : p.tok.kind ≠ kBad) :
    Two (m_posture_parser_next k p) (m_laneref1_condReader_scan k r) fun p' r' => ∃ a', a < a' ∧ a' ≤ s.length ∧ Alive s a' p' r' := by
  obtain ⟨e1, e2, e3, e4, e5, n, e6, ⟨e7, e8, h⟩, e9⟩ := h
  rcases h with ⟨g1, _⟩ | ⟨g1, _⟩ | ⟨m, m1, m2, m3, m4, _⟩
  · exact absurd g1 h1
  · exact absurd g1 h2
  · refine two_mono (next_two s k (a + m) (by omega) hk m2 p r e1 e2 e3 e4 m4 (by rw [e9, m3]; omega)) ?_
    rintro p' r' ⟨a', ha, hA⟩
    exact ⟨a', by omega, hA.2.2.2.2.1, hA⟩
theorem take_sign {k : Nat} (hs : s.length ≤ 5000) (hk : s.length + 300 < k) (h : Alive s a p r) {g : Str} (hg : g ∈ SG) (hp : (p.tok.kind == g) = true) :
    Two (m_posture_parser_next k p) (m_laneref1_condReader_scan k r) fun p' r' => ∃ a', a < a' ∧ a' ≤ s.length ∧ Alive s a' p' r' := by
  obtain ⟨_, _, _, _, _, _, _, _, _, _, _, _, _, q14, q15⟩ := sg_no g hg
  have := eq_of_beq hp
  exact take_two hs hk h (by rw [this]; exact q14) (by rw [this]; exact q15)
theorem fail_two (h : Alive s a p r) : Two (m_posture_parser_fail p) (m_laneref1_condReader_wrong r) (PRes s a) := by
  obtain ⟨ha1, ha2⟩ := h.at_
  obtain ⟨e1, e2, e3, e4, e5, _⟩ := h
  unfold m_posture_parser_fail m_laneref1_condReader_wrong
  rw [e3, e4]
  refine ⟨_, _, rfl, rfl, zC, zC, a, zC_t.symm, zC_t.symm, Nat.le_refl _, e5, by simp [CC.W, zC, CC.kids], by simp [CC.W, zC, CC.kids], .inr ⟨e1, e2, rfl, ?_, ?_, ha1⟩⟩
  · show (0 : Int) ≤ p.tok.v_at
    rw [ha1]; omega
  · show r.v_next.v_at = p.tok.v_at
    rw [ha1, ha2]
end
/-- A comparison. -/
theorem comp_two {s : Str} {a : Nat} {p : T_posture_parser} {r : T_laneref1_condReader} {k : Nat} (hs : s.length ≤ 5000) (hk : s.length + 300 < k) (h : Alive s a p r) (hn : (p.tok.kind == kName) = true) :
    Two (m_posture_parser_comparison k p) (bi (m_laneref1_condReader_scan k r) fun y20 => bi m_laneref1_Ops fun y22 => bi (m_slices_Contains_string_string y22 y20.v_next.kind) fun y24 => bif !y24 then (some ((⟨1, r.v_next.name, [61, 61], (⟨3, 1, [], (0, 0, 0, 0)⟩ : T_api_Attr), (KD.mk 0 [])⟩ : T_api_Cond), y20)) else (bi (m_laneref1_condReader_scan k y20) fun y28 => bif ((!((y28.v_next.kind : Str) == [118])) && (!((y28.v_next.kind : Str) == [102]))) then (bi (m_laneref1_condReader_wrong y28) fun y31 => some (y31.1, y31.2)) else (bi (m_laneref1_condReader_scan k y28) fun y34 => some ((⟨1, r.v_next.name, y20.v_next.kind, y28.v_next.value, (KD.mk 0 [])⟩ : T_api_Cond), y34)))) (PRes s a) := by
  have hkn := eq_of_beq hn
  obtain ⟨hnm, hlen⟩ := h.name.2 hn
  have leaf : ∀ (o : Str) (v : T_api_Attr), (⟨1, p.tok.name, o, v, (KD.mk 0 [])⟩ : T_api_Cond) = (CC.mk 1 p.tok.name o v []).t := fun o v => by simp [CC.t, CC.ts]; rfl
  unfold m_posture_parser_comparison
  refine two_bi (take_two hs hk h (by rw [hkn]; decide) (by rw [hkn]; decide)) fun p1 r1 ⟨a1, h1, l1, A1⟩ => ?_
  rw [isOp_ok, bi_some, show m_laneref1_Ops = some [[61, 61], [33, 61], [60], [60, 61], [62], [62, 61]] from rfl, bi_some, containsS, bi_some, show ([[61, 61], [33, 61], [60], [60, 61], [62], [62, 61]].any fun x => (r1.v_next.kind : Str) == x) = opsB r1.v_next.kind from rfl, A1.ops.1, hnm]
  cases ho : opsB p1.tok.kind with
  | false => exact ⟨_, _, rfl, rfl, .mk 1 p.tok.name [61, 61] ⟨3, 1, [], (0, 0, 0, 0)⟩ [], .mk 1 p.tok.name [61, 61] ⟨3, 1, [], (0, 0, 0, 0)⟩ [], a1, leaf _ _, leaf _ _, by omega, l1, by simp [CC.W, CC.kids], by simp [CC.W, CC.kids], .inl ⟨A1, rfl, h1, by simp [CC.dp, CC.dps]; omega, .mk hlen (by simp) (by simp)⟩⟩
  | true =>
    simp only [Bool.not_true, cond_false]
    refine two_bi (take_sign hs hk A1 (ops_sg _ ho) (by simp)) fun p2 r2 ⟨a2, h2, l2, A2⟩ => ?_
    rw [A2.val.1]
    show Two (bif !((p2.tok.kind : Str) == kVal) then _ else _) _ _
    cases hv : (p2.tok.kind == kVal) with
    | false =>
      simp only [Bool.not_false, cond_true]
      refine two_bi (fail_two A2) fun x y hr => ⟨_, _, rfl, rfl, ?_⟩
      obtain ⟨C1, C2, a', g1, g2, g3, g4, g5, g6, g7⟩ := hr
      exact ⟨C1, C2, a', g1, g2, by omega, g4, by omega, by omega, g7.imp (fun ⟨q1, q2, q3, q4, q5⟩ => ⟨q1, q2, by omega, by omega, q5⟩) id⟩
    | true =>
      simp only [Bool.not_true, cond_false]
      obtain ⟨v1, v2⟩ := A2.val.2 hv
      have hkv := eq_of_beq hv
      refine two_bi (take_two hs hk A2 (by rw [hkv]; decide) (by rw [hkv]; decide)) fun p3 r3 ⟨a3, h3, l3, A3⟩ => ?_
      rw [v1, A1.ops.2 ho]
      exact ⟨_, _, rfl, rfl, .mk 1 p.tok.name p1.tok.kind p2.tok.value [], .mk 1 p.tok.name p1.tok.kind p2.tok.value [], a3, leaf _ _, leaf _ _, by omega, l3, by simp [CC.W, CC.kids], by simp [CC.W, CC.kids], .inl ⟨A3, rfl, by omega, by simp [CC.dp, CC.dps]; omega, .mk hlen v2 (by simp)⟩⟩
end Go.Gk
