/-
  Names read off bytes: one round, two ways.
-/
import Derived.Test.YtdihjljlggagiaaGreatDoorGName
set_option linter.unusedVariables false
set_option linter.unusedSimpArgs false
set_option maxRecDepth 100000
namespace Go.Gk
section
variable {b : List Int} {a : Nat}
theorem rtake1 (hb : b.length ≤ 4096) {c : Nat} (hc : c < 256) (h : b[a]? = some (c : Int)) : m_laneref1_bytesReader_take ⟨b, (a : Int), false⟩ 1 = some ((c : Int), ⟨b, ((a + 1 : Nat) : Int), false⟩) := by
  have ha := (List.getElem?_eq_some_iff.1 h).1
  rcases rtake_ok b a 1 hb (by omega) (by decide) with ⟨_, e⟩ | ⟨h2, _⟩
  · rw [seg_one h, numV_one hc] at e
    exact e
  · omega
theorem rtake1_end (hb : b.length ≤ 4096) (h : a = b.length) : ∃ x, m_laneref1_bytesReader_take ⟨b, (a : Int), false⟩ 1 = some (0, ⟨b, x, true⟩) := by
  rcases rtake_ok b a 1 hb (by omega) (by decide) with ⟨h2, _⟩ | ⟨_, x, e⟩
  · omega
  · exact ⟨x, e⟩
theorem rtext_ok (hb : b.length ≤ 4096) (hB : Byt b) {n : Nat} (hn : n ≤ 300) (h : a + n ≤ b.length) : m_laneref1_bytesReader_text ⟨b, (a : Int), false⟩ (n : Int) = some (st ((b.take (a + n)).drop a), ⟨b, ((a + n : Nat) : Int), false⟩) := by
  unfold m_laneref1_bytesReader_text
  simp only [cond_false, bi_some]
  rw [show wi ((a : Int) + (n : Int)) = ((a + n : Nat) : Int) by rw [wi_id (by omega) (by omega)]; omega, decide_eq_false (show ¬ ((a + n : Nat) : Int) > (b.length : Int) by omega), cond_false, subZ_cast (by omega) (by omega), bi_some, strB_byt _ (byt_seg hB _ _)]
  rfl
theorem rtext_end (hb : b.length ≤ 4096) (ha : a ≤ b.length) {n : Nat} (hn : n ≤ 300) (h : ¬ a + n ≤ b.length) : m_laneref1_bytesReader_text ⟨b, (a : Int), false⟩ (n : Int) = some ([], ⟨b, (a : Int), true⟩) := by
  unfold m_laneref1_bytesReader_text
  simp only [cond_false, bi_some]
  rw [show wi ((a : Int) + (n : Int)) = ((a + n : Nat) : Int) by rw [wi_id (by omega) (by omega)]; omega, decide_eq_true (show ((a + n : Nat) : Int) > (b.length : Int) by omega), cond_true]
variable {begin : Int} {nm : T_laneref1_bytesReader → Option (Str × T_laneref1_bytesReader)} {l : List Str}
theorem wib {c : Nat} (h : c < 100000000) : wi (c : Int) = (c : Int) := wi_id (by omega) (by omega)
theorem rf_end (hb : b.length ≤ 4096) (h : a = b.length) : ∃ x, RF begin nm (⟨b, (a : Int), false⟩, l) = some (.go (⟨b, x, true⟩, l)) := by
  obtain ⟨x, e⟩ := rtake1_end hb h
  refine ⟨x, ?_⟩
  unfold RF
  simp only [Bool.not_false, cond_true]
  rw [e]
  rfl
theorem rf_zero (hb : b.length ≤ 4096) (h : b[a]? = some ((0 : Nat) : Int)) (hl : l.length ≤ 5000) (hd : (dots l).length ≤ 100000) : RF begin nm (⟨b, (a : Int), false⟩, l) = some (.out (.inr (Lib.join l [46], ⟨b, ((a + 1 : Nat) : Int), false⟩))) := by
  unfold RF
  simp only [Bool.not_false, cond_true]
  rw [rtake1 hb (by decide) h]
  simp only [bi_some, cond_false, wib (c := 0) (by decide)]
  rw [show (((0 : Nat) : Int) == 0) = true from rfl, cond_true, join_any l (by omega) (by omega)]
  rfl
theorem rf_lab (hb : b.length ≤ 4096) (hB : Byt b) {c : Nat} (h : b[a]? = some (c : Int)) (h1 : 1 ≤ c) (h2 : c ≤ 63) (he : a + 1 + c ≤ b.length) (hl : l.length ≤ 5000) :
    RF begin nm (⟨b, (a : Int), false⟩, l) = some (.go (⟨b, ((a + 1 + c : Nat) : Int), false⟩, l ++ [st ((b.take (a + 1 + c)).drop (a + 1))])) := by
  unfold RF
  simp only [Bool.not_false, cond_true]
  rw [rtake1 hb (by omega) h]
  simp only [bi_some, cond_false, wib (c := c) (by omega)]
  rw [beq_eq_false_iff_ne.2 (show (c : Int) ≠ 0 by omega), decide_eq_true (show (c : Int) < 64 by omega)]
  simp only [cond_false, cond_true]
  rw [rtext_ok hb hB (by omega) he, bi_some, apd_some (by simp; omega)]
  rfl
theorem rf_labend (hb : b.length ≤ 4096) {c : Nat} (h : b[a]? = some (c : Int)) (h1 : 1 ≤ c) (h2 : c ≤ 63) (he : ¬ a + 1 + c ≤ b.length) (hl : l.length ≤ 5000) :
    ∃ x l2, RF begin nm (⟨b, (a : Int), false⟩, l) = some (.go (⟨b, x, true⟩, l2)) := by
  have ha := (List.getElem?_eq_some_iff.1 h).1
  refine ⟨((a + 1 : Nat) : Int), l ++ [[]], ?_⟩
  unfold RF
  simp only [Bool.not_false, cond_true]
  rw [rtake1 hb (by omega) h]
  simp only [bi_some, cond_false, wib (c := c) (by omega)]
  rw [beq_eq_false_iff_ne.2 (show (c : Int) ≠ 0 by omega), decide_eq_true (show (c : Int) < 64 by omega)]
  simp only [cond_false, cond_true]
  rw [rtext_end hb (by omega) (by omega) he, bi_some, apd_some (by simp; omega)]
  rfl
theorem rf_mid (hb : b.length ≤ 4096) {c : Nat} (h : b[a]? = some (c : Int)) (h1 : 64 ≤ c) (h2 : c < 192) : ∃ x, RF begin nm (⟨b, (a : Int), false⟩, l) = some (.go (⟨b, x, true⟩, l)) := by
  refine ⟨((a + 1 : Nat) : Int), ?_⟩
  unfold RF
  simp only [Bool.not_false, cond_true]
  rw [rtake1 hb (by omega) h]
  simp only [bi_some, cond_false, wib (c := c) (by omega)]
  rw [beq_eq_false_iff_ne.2 (show (c : Int) ≠ 0 by omega), decide_eq_false (show ¬ (c : Int) < 64 by omega), decide_eq_true (show (c : Int) < 192 by omega)]
  rfl
theorem to_ok {c d : Nat} (hc : c < 256) (h1 : 192 ≤ c) (hd : d < 256) : wi ((wi ((wi ((wi (c : Int)) - 192)) * 256)) + (wi (d : Int))) = (((c - 192) * 256 + d : Nat) : Int) := by
  rw [wib (c := c) (by omega), wib (c := d) (by omega), show wi ((c : Int) - 192) = ((c - 192 : Nat) : Int) by rw [wi_id (by omega) (by omega)]; omega, show wi (((c - 192 : Nat) : Int) * 256) = (((c - 192) * 256 : Nat) : Int) by rw [wi_id (by omega) (by omega)]; omega, wi_id (by omega) (by omega)]
  omega
theorem rf_refend (hb : b.length ≤ 4096) {c : Nat} (hc : c < 256) (h : b[a]? = some (c : Int)) (h1 : 192 ≤ c) (he : a + 1 = b.length) : ∃ x, RF begin nm (⟨b, (a : Int), false⟩, l) = some (.out (.inr ([], ⟨b, x, true⟩))) := by
  obtain ⟨x, e⟩ := rtake1_end (a := a + 1) hb he
  refine ⟨x, ?_⟩
  unfold RF
  simp only [Bool.not_false, cond_true]
  rw [rtake1 hb hc h]
  simp only [bi_some, cond_false]
  rw [wib (c := c) (by omega), beq_eq_false_iff_ne.2 (show (c : Int) ≠ 0 by omega), decide_eq_false (show ¬ (c : Int) < 64 by omega), decide_eq_false (show ¬ (c : Int) < 192 by omega)]
  simp only [cond_false]
  rw [e]
  rfl
theorem rf_refbad (hb : b.length ≤ 4096) {c d : Nat} (hc : c < 256) (h : b[a]? = some (c : Int)) (h1 : 192 ≤ c) (hd : d < 256) (h2 : b[a + 1]? = some (d : Int)) (he : begin ≤ (((c - 192) * 256 + d : Nat) : Int)) : ∃ x, RF begin nm (⟨b, (a : Int), false⟩, l) = some (.out (.inr ([], ⟨b, x, true⟩))) := by
  refine ⟨((a + 1 + 1 : Nat) : Int), ?_⟩
  unfold RF
  simp only [Bool.not_false, cond_true]
  rw [rtake1 hb hc h]
  simp only [bi_some, cond_false]
  rw [beq_eq_false_iff_ne.2 (show wi (c : Int) ≠ 0 by rw [wib (by omega)]; omega), decide_eq_false (show ¬ wi (c : Int) < 64 by rw [wib (by omega)]; omega), decide_eq_false (show ¬ wi (c : Int) < 192 by rw [wib (by omega)]; omega)]
  simp only [cond_false]
  rw [rtake1 hb hd h2]
  simp only [bi_some, to_ok hc h1 hd, Bool.false_or]
  rw [decide_eq_true (show (((c - 192) * 256 + d : Nat) : Int) ≥ begin from he)]
  rfl
theorem rf_ref (hb : b.length ≤ 4096) {c d : Nat} (hc : c < 256) (h : b[a]? = some (c : Int)) (h1 : 192 ≤ c) (hd : d < 256) (h2 : b[a + 1]? = some (d : Int)) (he : ¬ begin ≤ (((c - 192) * 256 + d : Nat) : Int)) {s : Str} {r : T_laneref1_bytesReader}
    (hn : nm ⟨b, (((c - 192) * 256 + d : Nat) : Int), false⟩ = some (s, r)) (hl : l.length ≤ 5000) (hdl : (dots l).length ≤ 100000) (hs : s.length ≤ 10000000000) :
    RF begin nm (⟨b, (a : Int), false⟩, l) = some (.out (.inr (Lib.join (if s = [] then l else l ++ [s]) [46], ⟨b, ((a + 2 : Nat) : Int), r.bad⟩))) := by
  unfold RF
  simp only [Bool.not_false, cond_true]
  rw [rtake1 hb hc h]
  simp only [bi_some, cond_false]
  rw [beq_eq_false_iff_ne.2 (show wi (c : Int) ≠ 0 by rw [wib (by omega)]; omega), decide_eq_false (show ¬ wi (c : Int) < 64 by rw [wib (by omega)]; omega), decide_eq_false (show ¬ wi (c : Int) < 192 by rw [wib (by omega)]; omega)]
  simp only [cond_false]
  rw [rtake1 hb hd h2]
  simp only [bi_some, to_ok hc h1 hd, Bool.false_or]
  rw [decide_eq_false (show ¬ (((c - 192) * 256 + d : Nat) : Int) ≥ begin from he)]
  simp only [cond_false]
  rw [hn]
  simp only [bi_some]
  by_cases hs0 : s = []
  · subst hs0
    rw [if_pos rfl]
    simp only [beq_self_eq_true, Bool.not_true, cond_false, bi_some]
    rw [join_any l (by omega) (by omega)]
    rfl
  · rw [if_neg hs0, beq_eq_false_iff_ne.2 hs0]
    simp only [Bool.not_false, cond_true]
    rw [apd_some (by simp; omega)]
    simp only [bi_some]
    rw [join_any (l ++ [s]) (by simp; omega) (by rw [dots_snoc]; simp; omega)]
    rfl
end
/-! ### The program's -/
section
variable {b : List Int} {a : Nat} {l : List Str} {s bh : Int}
theorem pnum1 (hb : b.length ≤ 4096) {c : Nat} (hc : c < 256) (h : b[a]? = some (c : Int)) : m_name_decoder_number ⟨b, (a : Int), false⟩ 1 = some ((c : Int), ⟨b, ((a + 1 : Nat) : Int), false⟩) := by
  have ha := (List.getElem?_eq_some_iff.1 h).1
  have := pnum_of (ptake_ok b a 1 hb (by decide) (by omega))
  rw [seg_one h, numV_one hc] at this
  exact this
theorem pf_end (hb : b.length ≤ 4096) (h : a = b.length) : PF (⟨b, (a : Int), false⟩, l, s, bh) = some (.out (⟨b, (a : Int), true⟩, l, bh)) := by
  have e := pnum_of (ptake_end b a 1 hb (by omega) (by decide) (by omega))
  rw [numV_zeros] at e
  unfold PF
  simp only [Bool.not_false, cond_true]
  rw [show m_name_decoder_number ⟨b, (a : Int), false⟩ 1 = _ from e]
  rfl
theorem pf_zero (hb : b.length ≤ 4096) (h : b[a]? = some ((0 : Nat) : Int)) : PF (⟨b, (a : Int), false⟩, l, s, bh) = some (.out (⟨b, ((a + 1 : Nat) : Int), false⟩, l, bh)) := by
  unfold PF
  simp only [Bool.not_false, cond_true]
  rw [pnum1 hb (by decide) h]
  rfl
theorem pf_lab (hb : b.length ≤ 4096) (hB : Byt b) {c : Nat} (h : b[a]? = some (c : Int)) (h1 : 1 ≤ c) (h2 : c ≤ 63) (he : a + 1 + c ≤ b.length) (hl : l.length ≤ 20000000) :
    PF (⟨b, (a : Int), false⟩, l, s, bh) = some (.go (⟨b, ((a + 1 + c : Nat) : Int), false⟩, l ++ [st ((b.take (a + 1 + c)).drop (a + 1))], s, bh)) := by
  unfold PF
  simp only [Bool.not_false, cond_true]
  rw [pnum1 hb (by omega) h]
  simp only [bi_some, wib (c := c) (by omega)]
  rw [beq_eq_false_iff_ne.2 (show (c : Int) ≠ 0 by omega), decide_eq_true (show (c : Int) < 192 by omega), decide_eq_false (show ¬ (c : Int) > 63 by omega)]
  simp only [cond_false, cond_true, bi_some]
  rw [ptake_ok b (a + 1) c hb (by omega) he]
  simp only [bi_some]
  rw [strB_byt _ (byt_seg hB _ _), bi_some, apd_some (by simp; omega)]
  rfl
theorem pf_labend (hb : b.length ≤ 4096) {c : Nat} (h : b[a]? = some (c : Int)) (h1 : 1 ≤ c) (h2 : c ≤ 63) (he : ¬ a + 1 + c ≤ b.length) (hl : l.length ≤ 20000000) :
    ∃ x, PF (⟨b, (a : Int), false⟩, l, s, bh) = some (.go (⟨b, x, true⟩, l ++ [st (List.replicate c 0)], s, bh)) := by
  have ha := (List.getElem?_eq_some_iff.1 h).1
  refine ⟨((a + 1 : Nat) : Int), ?_⟩
  unfold PF
  simp only [Bool.not_false, cond_true]
  rw [pnum1 hb (by omega) h]
  simp only [bi_some, wib (c := c) (by omega)]
  rw [beq_eq_false_iff_ne.2 (show (c : Int) ≠ 0 by omega), decide_eq_true (show (c : Int) < 192 by omega), decide_eq_false (show ¬ (c : Int) > 63 by omega)]
  simp only [cond_false, cond_true, bi_some]
  rw [ptake_end b (a + 1) c hb (by omega) (by omega) he]
  simp only [bi_some]
  rw [strB_byt _ (byt_zeros _), bi_some, apd_some (by simp; omega)]
  rfl
theorem pf_mid (hb : b.length ≤ 4096) {c : Nat} (h : b[a]? = some (c : Int)) (h1 : 64 ≤ c) (h2 : c < 192) (hl : l.length ≤ 20000000) :
    ∃ x, PF (⟨b, (a : Int), false⟩, l, s, bh) = some (.go (⟨b, x, true⟩, l ++ [st (List.replicate c 0)], s, bh)) := by
  refine ⟨((a + 1 : Nat) : Int), ?_⟩
  unfold PF
  simp only [Bool.not_false, cond_true]
  rw [pnum1 hb (by omega) h]
  simp only [bi_some, wib (c := c) (by omega)]
  rw [beq_eq_false_iff_ne.2 (show (c : Int) ≠ 0 by omega), decide_eq_true (show (c : Int) < 192 by omega), decide_eq_true (show (c : Int) > 63 by omega)]
  simp only [cond_false, cond_true, bi_some]
  rw [ptake_bad b _ c (by omega)]
  simp only [bi_some]
  rw [strB_byt _ (byt_zeros _), bi_some, apd_some (by simp; omega)]
  rfl
theorem pf_refend (hb : b.length ≤ 4096) {c : Nat} (hc : c < 256) (h : b[a]? = some (c : Int)) (h1 : 192 ≤ c) (he : a + 1 = b.length) : ∃ x s2 bh2, PF (⟨b, (a : Int), false⟩, l, s, bh) = some (.go (⟨b, x, true⟩, l, s2, bh2)) := by
  have e := pnum_of (ptake_end b a 2 hb (by omega) (by decide) (by omega))
  rw [numV_zeros] at e
  have hq : ∃ q34, (bif decide ((bh : Int) < 0) then (some (a : Int)) else (some bh)) = some q34 := by cases decide ((bh : Int) < 0) <;> exact ⟨_, rfl⟩
  have hq2 : (bif decide ((wi ((wi (0 : Int)) - 49152) : Int) ≥ s) then (some true) else (some true)) = some true := by cases decide ((wi ((wi (0 : Int)) - 49152) : Int) ≥ s) <;> rfl
  obtain ⟨q34, hq⟩ := hq
  refine ⟨wi ((wi (0 : Int)) - 49152), wi ((wi (0 : Int)) - 49152), q34, ?_⟩
  unfold PF
  simp only [Bool.not_false, cond_true]
  rw [pnum1 hb hc h]
  simp only [bi_some, wib (c := c) (by omega)]
  rw [beq_eq_false_iff_ne.2 (show (c : Int) ≠ 0 by omega), decide_eq_false (show ¬ (c : Int) < 192 by omega)]
  simp only [cond_false]
  rw [show m_name_decoder_number ⟨b, (a : Int), false⟩ 2 = _ from e]
  simp only [bi_some]
  rw [hq2, bi_some, hq, bi_some]
theorem pf_ref (hb : b.length ≤ 4096) {c d : Nat} (hc : c < 256) (h : b[a]? = some (c : Int)) (h1 : 192 ≤ c) (hd : d < 256) (h2 : b[a + 1]? = some (d : Int)) :
    PF (⟨b, (a : Int), false⟩, l, s, bh) = some (.go (⟨b, (((c - 192) * 256 + d : Nat) : Int), decide (s ≤ (((c - 192) * 256 + d : Nat) : Int))⟩, l, (((c - 192) * 256 + d : Nat) : Int), if bh < 0 then ((a + 2 : Nat) : Int) else bh)) := by
  have ha := (List.getElem?_eq_some_iff.1 h2).1
  have e := pnum_of (ptake_ok b a 2 hb (by decide) (by omega))
  rw [seg_two h h2, numV_two hc hd] at e
  have hto : wi (wi ((c * 256 + d : Nat) : Int) - 49152) = (((c - 192) * 256 + d : Nat) : Int) := by rw [wib (by omega), wi_id (by omega) (by omega)]; omega
  unfold PF
  simp only [Bool.not_false, cond_true]
  rw [pnum1 hb hc h]
  simp only [bi_some, wib (c := c) (by omega)]
  rw [beq_eq_false_iff_ne.2 (show (c : Int) ≠ 0 by omega), decide_eq_false (show ¬ (c : Int) < 192 by omega)]
  simp only [cond_false]
  rw [show m_name_decoder_number ⟨b, (a : Int), false⟩ 2 = _ from e]
  simp only [bi_some]
  rw [hto]
  by_cases h3 : s ≤ (((c - 192) * 256 + d : Nat) : Int)
  · rw [decide_eq_true (show (((c - 192) * 256 + d : Nat) : Int) ≥ s from h3)]
    simp only [cond_true, bi_some]
    by_cases h4 : bh < 0
    · rw [decide_eq_true h4, if_pos h4]
      rfl
    · rw [decide_eq_false h4, if_neg h4]
      rfl
  · rw [decide_eq_false (show ¬ (((c - 192) * 256 + d : Nat) : Int) ≥ s from h3)]
    simp only [cond_false, bi_some]
    by_cases h4 : bh < 0
    · rw [decide_eq_true h4, if_pos h4]
      rfl
    · rw [decide_eq_false h4, if_neg h4]
      rfl
end
end Go.Gk
