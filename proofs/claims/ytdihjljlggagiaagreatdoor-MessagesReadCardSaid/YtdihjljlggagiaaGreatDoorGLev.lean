/-
  Names read off bytes: the whole, two ways.
-/
import Derived.Test.YtdihjljlggagiaaGreatDoorGStep
set_option linter.unusedVariables false
set_option linter.unusedSimpArgs false
set_option maxRecDepth 100000
namespace Go.Gk
def mz (begin a : Nat) : Nat := begin * 4200 + (4200 - a)
def GoodN (b : List Int) (begin a : Nat) : Prop := ∃ (ls : List Str) (e : Nat), a < e ∧ e ≤ b.length ∧ (∀ x ∈ ls, x ≠ []) ∧ ls.length ≤ mz begin a ∧ (dots ls).length ≤ 65 * mz begin a ∧
  (∀ (k k2 : Nat) (lR : List Str), begin + 4200 ≤ k → 4200 - a ≤ k2 → lR.length ≤ a → (dots lR).length ≤ a → loopM (RF (begin : Int) (m_laneref1_bytesReader_name k)) k2 (⟨b, (a : Int), false⟩, lR) = some (.inr (Lib.join (lR ++ ls) [46], ⟨b, (e : Int), false⟩))) ∧
  (∀ (k2 : Nat) (l : List Str) (bh : Int), mz begin a ≤ k2 → l.length + mz begin a ≤ 20000000 → ∃ (xa bh' : Int), loopM PF k2 (⟨b, (a : Int), false⟩, l, (begin : Int), bh) = some (⟨b, xa, false⟩, l ++ ls, bh') ∧ (bh < 0 → (bh' < 0 ∧ xa = (e : Int)) ∨ bh' = (e : Int)) ∧ (¬ bh < 0 → bh' = bh))
def BadN (b : List Int) (begin a : Nat) : Prop :=
  (∀ (k k2 : Nat) (lR : List Str), begin + 4200 ≤ k → 4200 - a ≤ k2 → lR.length ≤ a → (dots lR).length ≤ a →
    (∃ x l2, loopM (RF (begin : Int) (m_laneref1_bytesReader_name k)) k2 (⟨b, (a : Int), false⟩, lR) = some (.inl (⟨b, x, true⟩, l2))) ∨ (∃ s x, s.length ≤ (begin + 1) * 5000 ∧ loopM (RF (begin : Int) (m_laneref1_bytesReader_name k)) k2 (⟨b, (a : Int), false⟩, lR) = some (.inr (s, ⟨b, x, true⟩)))) ∧
  (∀ (k2 : Nat) (l : List Str) (bh : Int), mz begin a ≤ k2 → l.length + mz begin a ≤ 20000000 → ∃ x l2 bh', loopM PF k2 (⟨b, (a : Int), false⟩, l, (begin : Int), bh) = some (⟨b, x, true⟩, l2, bh') ∧ l2.length ≤ l.length + mz begin a ∧ (dots l2).length ≤ (dots l).length + 200 * mz begin a)
theorem two_more {k n : Nat} (h : n ≤ k) (hn : 2 ≤ n) : ∃ m, k = m + 2 := ⟨k - 2, by omega⟩
theorem one_more {k n : Nat} (h : n ≤ k) (hn : 1 ≤ n) : ∃ m, k = m + 1 := ⟨k - 1, by omega⟩
theorem dots_app1 (l : List Str) (x : Str) : (dots (l ++ [x])).length = (dots l).length + (x.length + 1) := by rw [dots_snoc]; simp
theorem lev {b : List Int} (hb : b.length ≤ 4096) (hB : Byt b) : ∀ (n begin a : Nat), mz begin a ≤ n → a ≤ b.length → begin ≤ b.length → GoodN b begin a ∨ BadN b begin a
  | 0, begin, a, hn, ha, _ => by unfold mz at hn; omega
  | n + 1, begin, a, hn, ha, hbe => by
    have hmz : 104 ≤ mz begin a := by unfold mz; omega
    have hr4 : 104 ≤ 4200 - a := by omega
    by_cases hae : a = b.length
    · refine .inr ⟨fun k k2 lR hk hk2 hl hd => ?_, fun k2 l bh hk2 hl => ?_⟩
      · obtain ⟨m, rfl⟩ := two_more hk2 (by omega)
        obtain ⟨x, e⟩ := rf_end (begin := (begin : Int)) (nm := m_laneref1_bytesReader_name k) (l := lR) hb hae
        exact .inl ⟨x, lR, by rw [loop_go e, loop_out (rf_bad _ _ _ _ _)]⟩
      · obtain ⟨m, rfl⟩ := one_more hk2 (by omega)
        exact ⟨_, l, bh, loop_out (pf_end hb hae), by omega, by omega⟩
    · obtain ⟨c, hc, h⟩ := byt_at hB (show a < b.length by omega)
      by_cases h0 : c = 0
      · subst h0
        refine .inl ⟨[], a + 1, by omega, by omega, (fun x hx => nomatch hx), by simp, by simp [dots], fun k k2 lR hk hk2 hl hd => ?_, fun k2 l bh hk2 hl => ?_⟩
        · obtain ⟨m, rfl⟩ := one_more hk2 (by omega)
          rw [loop_out (rf_zero hb h (by omega) (by omega)), List.append_nil]
        · obtain ⟨m, rfl⟩ := one_more hk2 (by omega)
          exact ⟨_, bh, by rw [loop_out (pf_zero hb h), List.append_nil], fun hlt => .inl ⟨hlt, rfl⟩, fun _ => rfl⟩
      · by_cases h63 : c ≤ 63
        · by_cases he : a + 1 + c ≤ b.length
          · have hsl : (st ((b.take (a + 1 + c)).drop (a + 1))).length = c := by rw [st_len, List.length_drop, List.length_take]; omega
            have hm1 : mz begin (a + 1 + c) + 1 ≤ mz begin a := by unfold mz; omega
            generalize hlab : st ((b.take (a + 1 + c)).drop (a + 1)) = lab at hsl
            rcases lev hb hB n begin (a + 1 + c) (by omega) he hbe with ⟨ls, e, g1, g2, g3, g4, g5, g6, g7⟩ | ⟨g6, g7⟩
            · refine .inl ⟨lab :: ls, e, by omega, g2, fun x hx => ?_, by simp only [List.length_cons]; omega, ?_, fun k k2 lR hk hk2 hl hd => ?_, fun k2 l bh hk2 hl => ?_⟩
              · rcases List.mem_cons.1 hx with rfl | hx
                · intro hx0
                  rw [hx0] at hsl
                  simp at hsl
                  omega
                · exact g3 x hx
              · have : (dots (lab :: ls)).length = lab.length + 1 + (dots ls).length := by simp [dots]; omega
                omega
              · obtain ⟨m, rfl⟩ := one_more hk2 (by omega)
                have e1 := rf_lab (begin := (begin : Int)) (nm := m_laneref1_bytesReader_name k) (l := lR) hb hB h (by omega) h63 he (by omega)
                rw [hlab] at e1
                rw [loop_go e1, g6 k m (lR ++ [lab]) hk (by omega) (by simp; omega) (by rw [dots_app1]; omega)]
                simp
              · obtain ⟨m, rfl⟩ := one_more hk2 (by omega)
                have e1 := pf_lab (l := l) (s := (begin : Int)) (bh := bh) hb hB h (by omega) h63 he (by omega)
                rw [hlab] at e1
                rw [loop_go e1]
                obtain ⟨xa, bh', f1, f2, f3⟩ := g7 m (l ++ [lab]) bh (by omega) (by simp; omega)
                exact ⟨xa, bh', by rw [f1]; simp, f2, f3⟩
            · refine .inr ⟨fun k k2 lR hk hk2 hl hd => ?_, fun k2 l bh hk2 hl => ?_⟩
              · obtain ⟨m, rfl⟩ := one_more hk2 (by omega)
                have e1 := rf_lab (begin := (begin : Int)) (nm := m_laneref1_bytesReader_name k) (l := lR) hb hB h (by omega) h63 he (by omega)
                rw [hlab] at e1
                rw [loop_go e1]
                exact g6 k m (lR ++ [lab]) hk (by omega) (by simp; omega) (by rw [dots_app1]; omega)
              · obtain ⟨m, rfl⟩ := one_more hk2 (by omega)
                have e1 := pf_lab (l := l) (s := (begin : Int)) (bh := bh) hb hB h (by omega) h63 he (by omega)
                rw [hlab] at e1
                rw [loop_go e1]
                obtain ⟨x, l2, bh', f1, f2, f3⟩ := g7 m (l ++ [lab]) bh (by omega) (by simp; omega)
                refine ⟨x, l2, bh', f1, by simp at f2; omega, ?_⟩
                rw [dots_app1] at f3
                omega
          · refine .inr ⟨fun k k2 lR hk hk2 hl hd => ?_, fun k2 l bh hk2 hl => ?_⟩
            · obtain ⟨m, rfl⟩ := two_more hk2 (by omega)
              obtain ⟨x, l2, e⟩ := rf_labend (begin := (begin : Int)) (nm := m_laneref1_bytesReader_name k) (l := lR) hb h (by omega) h63 he (by omega)
              exact .inl ⟨x, l2, by rw [loop_go e, loop_out (rf_bad _ _ _ _ _)]⟩
            · obtain ⟨m, rfl⟩ := two_more hk2 (by omega)
              obtain ⟨x, e⟩ := pf_labend (l := l) (s := (begin : Int)) (bh := bh) hb h (by omega) h63 he (by omega)
              refine ⟨x, _, bh, by rw [loop_go e, loop_out (pf_bad _ _ _ _ _)], by simp; omega, ?_⟩
              rw [dots_app1, st_len, List.length_replicate]
              omega
        · by_cases h192 : c < 192
          · refine .inr ⟨fun k k2 lR hk hk2 hl hd => ?_, fun k2 l bh hk2 hl => ?_⟩
            · obtain ⟨m, rfl⟩ := two_more hk2 (by omega)
              obtain ⟨x, e⟩ := rf_mid (begin := (begin : Int)) (nm := m_laneref1_bytesReader_name k) (l := lR) hb h (by omega) h192
              exact .inl ⟨x, lR, by rw [loop_go e, loop_out (rf_bad _ _ _ _ _)]⟩
            · obtain ⟨m, rfl⟩ := two_more hk2 (by omega)
              obtain ⟨x, e⟩ := pf_mid (l := l) (s := (begin : Int)) (bh := bh) hb h (by omega) h192 (by omega)
              refine ⟨x, _, bh, by rw [loop_go e, loop_out (pf_bad _ _ _ _ _)], by simp; omega, ?_⟩
              rw [dots_app1, st_len, List.length_replicate]
              omega
          · by_cases hend : a + 1 = b.length
            · refine .inr ⟨fun k k2 lR hk hk2 hl hd => ?_, fun k2 l bh hk2 hl => ?_⟩
              · obtain ⟨m, rfl⟩ := one_more hk2 (by omega)
                obtain ⟨x, e⟩ := rf_refend (begin := (begin : Int)) (nm := m_laneref1_bytesReader_name k) (l := lR) hb hc h (by omega) hend
                exact .inr ⟨[], x, by simp, loop_out e⟩
              · obtain ⟨m, rfl⟩ := two_more hk2 (by omega)
                obtain ⟨x, s2, bh2, e⟩ := pf_refend (l := l) (s := (begin : Int)) (bh := bh) hb hc h (by omega) hend
                exact ⟨x, l, bh2, by rw [loop_go e, loop_out (pf_bad _ _ _ _ _)], by omega, by omega⟩
            · obtain ⟨d, hd, h2⟩ := byt_at hB (show a + 1 < b.length by omega)
              have hpf := fun (l : List Str) (bh : Int) => pf_ref (l := l) (s := (begin : Int)) (bh := bh) hb hc h (by omega) hd h2
              by_cases hto : begin ≤ (c - 192) * 256 + d
              · refine .inr ⟨fun k k2 lR hk hk2 hl hdl => ?_, fun k2 l bh hk2 hl => ?_⟩
                · obtain ⟨m, rfl⟩ := one_more hk2 (by omega)
                  obtain ⟨x, e⟩ := rf_refbad (begin := (begin : Int)) (nm := m_laneref1_bytesReader_name k) (l := lR) hb hc h (by omega) hd h2 (by omega)
                  exact .inr ⟨[], x, by simp, loop_out e⟩
                · obtain ⟨m, rfl⟩ := two_more hk2 (by omega)
                  have e := hpf l bh
                  rw [decide_eq_true (show (begin : Int) ≤ (((c - 192) * 256 + d : Nat) : Int) by omega)] at e
                  exact ⟨_, l, _, by rw [loop_go e, loop_out (pf_bad _ _ _ _ _)], by omega, by omega⟩
              · have hlt : (c - 192) * 256 + d < begin := by omega
                generalize hT : (c - 192) * 256 + d = T at *
                have hm1 : mz T T + 1 ≤ mz begin a := by
                  unfold mz
                  have : (T + 1) * 4200 ≤ begin * 4200 := Nat.mul_le_mul_right _ hlt
                  omega
                have hmT : mz T T ≤ 17400000 := by
                  unfold mz
                  have : T * 4200 ≤ 4096 * 4200 := Nat.mul_le_mul_right _ (by omega)
                  omega
                have hpf2 : ∀ (l : List Str) (bh : Int), PF (⟨b, (a : Int), false⟩, l, (begin : Int), bh) = some (.go (⟨b, (T : Int), false⟩, l, (T : Int), if bh < 0 then ((a + 2 : Nat) : Int) else bh)) := fun l bh => by
                  have e := hpf l bh
                  rw [decide_eq_false (show ¬ (begin : Int) ≤ (T : Int) by omega)] at e
                  exact e
                rcases lev hb hB n T T (by omega) (by omega) (by omega) with ⟨ls, e, g1, g2, g3, g4, g5, g6, g7⟩ | ⟨g6, g7⟩
                · have hjl : (Lib.join ls [46]).length ≤ 10000000000 := by have := join_le ls; omega
                  refine .inl ⟨ls, a + 2, by omega, by omega, g3, by omega, by omega, fun k k2 lR hk hk2 hl hdl => ?_, fun k2 l bh hk2 hl => ?_⟩
                  · obtain ⟨m, rfl⟩ := one_more hk2 (by omega)
                    obtain ⟨k', rfl⟩ := one_more hk (by omega)
                    have hnm : m_laneref1_bytesReader_name (k' + 1) ⟨b, (((c - 192) * 256 + d : Nat) : Int), false⟩ = some (Lib.join ls [46], ⟨b, (e : Int), false⟩) := by
                      rw [hT, rname_def, g6 k' k' [] (by omega) (by omega) (by simp) (by simp [dots])]
                      rfl
                    rw [loop_out (rf_ref (begin := (begin : Int)) (nm := m_laneref1_bytesReader_name (k' + 1)) (l := lR) hb hc h (by omega) hd h2 (by omega) hnm (by omega) (by omega) hjl)]
                    congr 3
                    by_cases hj : Lib.join ls [46] = []
                    · rw [if_pos hj, (join_nil_iff ls g3).1 hj, List.append_nil]
                    · rw [if_neg hj]
                      exact join_app lR ls fun h0 => hj ((join_nil_iff ls g3).2 h0)
                  · obtain ⟨m, rfl⟩ := one_more hk2 (by omega)
                    rw [loop_go (hpf2 l bh)]
                    obtain ⟨xa, bh', f1, f2, f3⟩ := g7 m l (if bh < 0 then ((a + 2 : Nat) : Int) else bh) (by omega) (by omega)
                    have hnn : ¬ (if bh < 0 then ((a + 2 : Nat) : Int) else bh) < 0 := by split <;> omega
                    refine ⟨xa, bh', f1, fun hlt => .inr ?_, fun hge => ?_⟩
                    · rw [f3 hnn, if_pos hlt]
                    · rw [f3 hnn, if_neg hge]
                · refine .inr ⟨fun k k2 lR hk hk2 hl hdl => ?_, fun k2 l bh hk2 hl => ?_⟩
                  · obtain ⟨m, rfl⟩ := one_more hk2 (by omega)
                    obtain ⟨k', rfl⟩ := one_more hk (by omega)
                    have hnm : ∃ s x, s.length ≤ (T + 1) * 5000 ∧ m_laneref1_bytesReader_name (k' + 1) ⟨b, (((c - 192) * 256 + d : Nat) : Int), false⟩ = some (s, ⟨b, x, true⟩) := by
                      rw [hT, rname_def]
                      rcases g6 k' k' [] (by omega) (by omega) (by simp) (by simp [dots]) with ⟨x, l2, e⟩ | ⟨s, x, hs, e⟩
                      · exact ⟨[], x, by simp, by rw [e]; rfl⟩
                      · exact ⟨s, x, hs, by rw [e]; rfl⟩
                    obtain ⟨s, x, hs, hnm⟩ := hnm
                    have hT5 : (T + 1) * 5000 ≤ begin * 5000 := Nat.mul_le_mul_right _ hlt
                    have hb5 : begin * 5000 ≤ 4096 * 5000 := Nat.mul_le_mul_right _ (by omega)
                    refine .inr ⟨_, _, ?_, loop_out (rf_ref (begin := (begin : Int)) (nm := m_laneref1_bytesReader_name (k' + 1)) (l := lR) hb hc h (by omega) hd h2 (by omega) hnm (by omega) (by omega) (by omega))⟩
                    split
                    · have := join_le lR; omega
                    · have := join_le (lR ++ [s]); rw [dots_app1] at this; omega
                  · obtain ⟨m, rfl⟩ := one_more hk2 (by omega)
                    rw [loop_go (hpf2 l bh)]
                    obtain ⟨x, l2, bh', f1, f2, f3⟩ := g7 m l (if bh < 0 then ((a + 2 : Nat) : Int) else bh) (by omega) (by omega)
                    exact ⟨x, l2, bh', f1, by omega, by omega⟩
end Go.Gk
