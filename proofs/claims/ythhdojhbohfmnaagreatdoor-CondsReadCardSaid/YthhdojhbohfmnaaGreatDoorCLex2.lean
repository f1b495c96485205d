/-
  The plain laws of conditions: words in quotes, versions and names as tokens.
-/
import Derived.Test.YthhdojhbohfmnaaGreatDoorCLex
set_option linter.unusedVariables false
set_option linter.unusedSimpArgs false
set_option linter.unusedSectionVars false
set_option maxRecDepth 100000
namespace Go.Gk
def wordP (t : T_posture_token) (s : Str) (s2 : List Int × Int) : Option (LS ((List Int) × Int) ((List Int) ⊕ T_posture_token)) := bif decide ((s2.2 : Int) < (s.length : Int)) then (bi (getZ s s2.2) fun c12 => bi (bif ((c12.toNat : Int) : Int) == 34 then (bi (strB s2.1) fun y18 => bi (bi (some (⟨[118, 97, 108, 117, 101], t.v_at, wi (s2.2 + 1), t.name, (⟨2, 0, y18, (0, 0, 0, 0)⟩ : T_api_Attr)⟩ : T_posture_token)) fun v => some (.out (.inr v))) fun v => some (.inr v)) else (bif ((decide (((c12.toNat : Int) : Int) < 32)) || (decide (((c12.toNat : Int) : Int) > 126))) then (bi (bi (some t) fun v => some (.out (.inr v))) fun v => some (.inr v)) else (bif ((c12.toNat : Int) : Int) == 92 then (bi (bif (wi (s2.2 + 1) : Int) == (s.length : Int) then (some true) else (bi (getZ s (wi (s2.2 + 1))) fun c36 => bi (bif ((c36.toNat : Int) : Int) != 34 then (bi (getZ s (wi (s2.2 + 1))) fun c41 => some (((c41.toNat : Int) : Int) != 92)) else (some false)) fun q38 => some q38)) fun q32 => bif q32 then (bi (bi (some t) fun v => some (.out (.inr v))) fun v => some (.inr v)) else (bi (getZ s (wi (s2.2 + 1))) fun c50 => some (.inl (wi (s2.2 + 1), (c50.toNat : Int))))) else (some (.inl (s2.2, (c12.toNat : Int)))))) : Option ((Int × Int) ⊕ (LS ((List Int) × Int) ((List Int) ⊕ T_posture_token)))) fun q => orI q fun a16 => bi (apd s2.1 [a16.2]) fun y53 => some (.go (y53, wi (a16.1 + 1)))) else (some (.out (.inl s2.1)))
def wordR (s : Str) (s2 : Str × Int) : Option (LS (Str × Int) (Unit ⊕ (Str × Int))) := bif decide ((s2.2 : Int) < (s.length : Int)) then (bi (getZ s s2.2) fun c12 => bif ((c12.toNat : Int) : Int) == 34 then (bi (some (s2.1, wi (s2.2 + 1))) fun v => some (.out (.inr v))) else (bif ((c12.toNat : Int) : Int) == 92 then (bi (bif decide ((wi (s2.2 + 1) : Int) ≥ (s.length : Int)) then (some true) else (bi (getZ s (wi (s2.2 + 1))) fun c23 => bi (bif ((c23.toNat : Int) : Int) != 34 then (bi (getZ s (wi (s2.2 + 1))) fun c28 => some (((c28.toNat : Int) : Int) != 92)) else (some false)) fun q25 => some q25)) fun q19 => bif q19 then (bi (some ([], 0)) fun v => some (.out (.inr v))) else (bi (subZ s (wi (s2.2 + 1)) (wi ((wi (s2.2 + 1)) + 1))) fun z35 => bi (catZ s2.1 z35) fun y37 => some (.go (y37, wi ((wi (s2.2 + 1)) + 1))))) else (bi (m_laneref1_in (wi ((c12.toNat : Int))) 32 126) fun y40 => bif !y40 then (bi (some ([], 0)) fun v => some (.out (.inr v))) else (bi (subZ s s2.2 (wi (s2.2 + 1))) fun z46 => bi (catZ s2.1 z46) fun y48 => some (.go (y48, wi (s2.2 + 1))))))) else (some (.out (.inl ())))
theorem words_defP (k : Nat) (t : T_posture_token) (s : Str) : m_posture_token_words k t s = bi (loopM (wordP t s) k ([], wi (t.v_at + 1))) fun q => orI q fun a6 => some t := rfl
theorem words_defR (k : Nat) (s : Str) : m_laneref1_quotedWords k s = bi (loopM (wordR s) k ([], 1)) fun q => orI q fun a6 => some ([], 0) := rfl
theorem strB_st : ∀ s : Str, strB (s.map fun b => (b.toNat : Int)) = some s
  | [] => rfl
  | b :: s => by
    have h := b.toNat_lt
    simp only [List.map_cons, strB]
    rw [decide_eq_true (show (0 : Int) ≤ (b.toNat : Int) by omega), decide_eq_true (show (b.toNat : Int) < 256 by omega), strB_st s]
    simp
def tBad (a : Nat) : T_posture_token := ⟨kBad, (a : Int), 0, [], zA⟩
def WQ (a : Nat) (z : Str) (r : (List Int) ⊕ T_posture_token) (q : Unit ⊕ (Str × Int)) : Prop :=
  (∃ (w : Str) (n : Nat), r = .inr ⟨kVal, (a : Int), ((a + n : Nat) : Int), [], ⟨2, 0, w, (0, 0, 0, 0)⟩⟩ ∧ q = .inr (w, (n : Int)) ∧ 0 < n ∧ n ≤ z.length ∧ w.length ≤ 50000) ∨
    ((r = .inr (tBad a) ∨ ∃ l, r = .inl l) ∧ (q = .inr ([], 0) ∨ q = .inl ()))
def WI (a : Nat) (z : Str) (s2 : List Int × Int) (t2 : Str × Int) : Prop := ∃ i : Nat, 1 ≤ i ∧ i ≤ z.length ∧ s2.2 = ((a + i : Nat) : Int) ∧ t2.2 = (i : Int) ∧ s2.1 = t2.1.map (fun b => (b.toNat : Int)) ∧ t2.1.length ≤ i
theorem words_step (s : Str) (a : Nat) (hs : s.length ≤ 50000) (ha : a ≤ s.length) (s2 : List Int × Int) (t2 : Str × Int) (h : WI a (s.drop a) s2 t2) :
    (∃ r q, wordP (tBad a) s s2 = some (.out r) ∧ wordR (s.drop a) t2 = some (.out q) ∧ WQ a (s.drop a) r q) ∨ (∃ s' t', wordP (tBad a) s s2 = some (.go s') ∧ wordR (s.drop a) t2 = some (.go t') ∧ WI a (s.drop a) s' t' ∧ (s.length - s'.2.toNat) < s.length - s2.2.toNat) := by
  obtain ⟨l1, i1⟩ := s2
  obtain ⟨l2, i2⟩ := t2
  obtain ⟨i, h1, h2, h3, h4, h5, h6⟩ := h
  simp only at h3 h4 h5 h6
  subst h3 h4 h5
  have hl : (s.drop a).length = s.length - a := List.length_drop
  unfold wordP wordR
  simp only
  by_cases he : i < (s.drop a).length
  · obtain ⟨c, hc⟩ : ∃ c, (s.drop a)[i]? = some c := ⟨_, List.getElem?_eq_getElem he⟩
    have hcs : s[a + i]? = some c := by rw [← rest_at]; exact hc
    have hlt := c.toNat_lt
    rw [decide_eq_true (show ((a + i : Nat) : Int) < (s.length : Int) by omega), decide_eq_true (show ((i : Nat) : Int) < ((s.drop a).length : Int) by omega)]
    have w1 : wi (((a + i : Nat) : Int) + 1) = ((a + (i + 1) : Nat) : Int) := by rw [wi_id (by omega) (by omega)]; omega
    have w2 : wi ((i : Int) + 1) = ((i + 1 : Nat) : Int) := by rw [wi_id (by omega) (by omega)]; omega
    rw [getZ_nn hcs, getZ_nn hc]
    simp only [cond_true, bi_some, w1, w2]
    rw [show ((c.toNat : Int) == 34) = (c == 34) from u8_eq c 34 (by decide), show ((c.toNat : Int) == 92) = (c == 92) from u8_eq c 92 (by decide)]
    cases h34 : (c == 34) with
    | true =>
      refine .inl ⟨_, _, by rw [strB_st]; rfl, rfl, .inl ⟨l2, i + 1, rfl, rfl, by omega, by omega, by omega⟩⟩
    | false =>
      simp only [cond_false]
      cases h92 : (c == 92) with
      | true =>
        obtain rfl : c = 92 := eq_of_beq h92
        rw [show (decide ((((92 : UInt8).toNat : Int) : Int) < 32) || decide ((((92 : UInt8).toNat : Int) : Int) > 126)) = false from rfl]
        simp only [cond_false, cond_true]
        by_cases hn : i + 1 < (s.drop a).length
        · obtain ⟨d, hd⟩ : ∃ d, (s.drop a)[i + 1]? = some d := ⟨_, List.getElem?_eq_getElem hn⟩
          have hds : s[a + (i + 1)]? = some d := by rw [← rest_at]; exact hd
          have w3 : wi (((i + 1 : Nat) : Int) + 1) = ((i + 1 + 1 : Nat) : Int) := by rw [wi_id (by omega) (by omega)]; omega
          have w4 : wi (((a + (i + 1) : Nat) : Int) + 1) = ((a + (i + 1 + 1) : Nat) : Int) := by rw [wi_id (by omega) (by omega)]; omega
          rw [show ((((a + (i + 1) : Nat) : Int) : Int) == (s.length : Int)) = false by
            have : ((a + (i + 1) : Nat) : Int) ≠ (s.length : Int) := by omega
            simpa using this]
          rw [decide_eq_false (show ¬ ((i + 1 : Nat) : Int) ≥ ((s.drop a).length : Int) by omega)]
          rw [getZ_nn hds, getZ_nn hd]
          simp only [cond_false, bi_some, w3]
          rw [show ((d.toNat : Int) != 34) = (d != 34) by unfold bne; rw [show ((d.toNat : Int) == 34) = (d == 34) from u8_eq d 34 (by decide)], show ((d.toNat : Int) != 92) = (d != 92) by unfold bne; rw [show ((d.toNat : Int) == 92) = (d == 92) from u8_eq d 92 (by decide)]]
          have hok : ∃ s' t', (orI (.inl (((a + (i + 1) : Nat) : Int), (d.toNat : Int)) : (Int × Int) ⊕ (LS ((List Int) × Int) ((List Int) ⊕ T_posture_token))) fun a16 => bi (apd (l2.map fun b => (b.toNat : Int)) [a16.2]) fun y53 => some (.go (y53, wi (a16.1 + 1)))) = some (.go s') ∧
              (bi (subZ (s.drop a) ((i + 1 : Nat) : Int) ((i + 1 + 1 : Nat) : Int)) fun z35 => bi (catZ l2 z35) fun y37 => some (LS.go (ρ := Unit ⊕ (Str × Int)) (y37, ((i + 1 + 1 : Nat) : Int)))) = some (.go t') ∧ WI a (s.drop a) s' t' ∧ (s.length - s'.2.toNat) < s.length - ((a + i : Nat) : Int).toNat := by
            refine ⟨_, _, by rw [orI_inl, apd_some (by simp; omega), bi_some, w4], by rw [show ((i + 1 + 1 : Nat) : Int) = (((i + 1) + 1 : Nat) : Int) from rfl, sub_mid (by omega), bi_some, cat_ok (by rw [List.length_take]; omega), bi_some], ?_, ?_⟩
            · refine ⟨i + 1 + 1, by omega, by omega, rfl, rfl, ?_, ?_⟩
              · have : ((s.drop a).drop (i + 1)).take 1 = [d] := by
                  rw [List.drop_eq_getElem_cons hn]
                  have := List.getElem?_eq_getElem hn
                  rw [hd] at this
                  rw [← Option.some.inj this]
                  rfl
                simp only [this, List.map_append, List.map_cons, List.map_nil]
              · simp only [List.length_append, List.length_take]; omega
            · simp only; omega
          cases hd34 : (d != 34) with
          | false =>
            obtain ⟨s', t', g1, g2, g3, g4⟩ := hok
            exact .inr ⟨s', t', by simpa using g1, by simpa using g2, g3, g4⟩
          | true =>
            cases hd92 : (d != 92) with
            | false =>
              obtain ⟨s', t', g1, g2, g3, g4⟩ := hok
              exact .inr ⟨s', t', by simpa using g1, by simpa using g2, g3, g4⟩
            | true => exact .inl ⟨_, _, rfl, rfl, .inr ⟨.inl rfl, .inl rfl⟩⟩
        · rw [show ((((a + (i + 1) : Nat) : Int) : Int) == (s.length : Int)) = true by
            have : ((a + (i + 1) : Nat) : Int) = (s.length : Int) := by omega
            simpa using this]
          rw [decide_eq_true (show ((i + 1 : Nat) : Int) ≥ ((s.drop a).length : Int) by omega)]
          exact .inl ⟨_, _, rfl, rfl, .inr ⟨.inl rfl, .inl rfl⟩⟩
      | false =>
        simp only [cond_false, m_laneref1_in, bi_some]
        rw [wi_id (show -9223372036854775808 ≤ (c.toNat : Int) by omega) (by omega)]
        rw [show (!(decide ((32 : Int) ≤ (c.toNat : Int)) && decide ((c.toNat : Int) ≤ 126))) = (decide (((c.toNat : Int) : Int) < 32) || decide (((c.toNat : Int) : Int) > 126)) by
          by_cases g1 : (32 : Int) ≤ (c.toNat : Int) <;> by_cases g2 : (c.toNat : Int) ≤ 126 <;> simp [g1, g2] <;> omega]
        cases hr : (decide (((c.toNat : Int) : Int) < 32) || decide (((c.toNat : Int) : Int) > 126)) with
        | true => exact .inl ⟨_, _, rfl, rfl, .inr ⟨.inl rfl, .inl rfl⟩⟩
        | false =>
          refine .inr ⟨(l2.map (fun b => (b.toNat : Int)) ++ [(c.toNat : Int)], ((a + (i + 1) : Nat) : Int)), (l2 ++ [c], ((i + 1 : Nat) : Int)), ?_, ?_, ?_, ?_⟩
          · simp only [cond_false, bi_some, orI_inl]
            rw [apd_some (by simp; omega), bi_some, w1]
          · simp only [cond_false, bi_some]
            rw [show ((i + 1 : Nat) : Int) = ((i + 1 : Nat) : Int) from rfl, sub_mid (show i + 1 ≤ (s.drop a).length by omega), bi_some, cat_ok (by rw [List.length_take]; omega), bi_some]
            have : ((s.drop a).drop i).take 1 = [c] := by
              rw [List.drop_eq_getElem_cons he]
              have := List.getElem?_eq_getElem he
              rw [hc] at this
              rw [← Option.some.inj this]
              rfl
            rw [this]
          · refine ⟨i + 1, by omega, by omega, rfl, rfl, by simp, by simp; omega⟩
          · simp only; omega
  · rw [decide_eq_false (show ¬ ((a + i : Nat) : Int) < (s.length : Int) by omega), decide_eq_false (show ¬ ((i : Nat) : Int) < ((s.drop a).length : Int) by omega)]
    exact .inl ⟨_, _, rfl, rfl, .inr ⟨.inr ⟨_, rfl⟩, .inr rfl⟩⟩
/-- Words in quotes are read alike, or they are wrong in both. -/
theorem words_two (s : Str) (a k : Nat) (hs : s.length ≤ 50000) (ha : a < s.length) (hk : s.length + 10 < k) :
    (∃ (w : Str) (n : Nat), m_posture_token_words k (tBad a) s = some ⟨kVal, (a : Int), ((a + n : Nat) : Int), [], ⟨2, 0, w, (0, 0, 0, 0)⟩⟩ ∧ m_laneref1_quotedWords k (s.drop a) = some (w, (n : Int)) ∧ 0 < n ∧ n ≤ (s.drop a).length ∧ w.length ≤ 50000) ∨
      (m_posture_token_words k (tBad a) s = some (tBad a) ∧ m_laneref1_quotedWords k (s.drop a) = some ([], 0)) := by
  rw [words_defP, words_defR]
  obtain ⟨r, q, e1, e2, hq⟩ := loopM_two (f := wordP (tBad a) s) (g := wordR (s.drop a)) (WI a (s.drop a)) (fun s' => s.length - s'.2.toNat) (WQ a (s.drop a)) (fun s' t' h => words_step s a hs (by omega) s' t' h) k ([], wi ((tBad a).v_at + 1)) ([], 1) (by
    simp only; omega) ⟨1, Nat.le_refl _, by rw [List.length_drop]; omega, by
    show wi ((a : Int) + 1) = _
    rw [wi_id (by omega) (by omega)]; omega, rfl, rfl, by simp⟩
  rw [e1, e2, bi_some, bi_some]
  rcases hq with ⟨w, n, rfl, rfl, h1, h2, h3⟩ | ⟨h1, h2⟩
  · exact .inl ⟨w, n, rfl, rfl, h1, h2, h3⟩
  · refine .inr ⟨?_, ?_⟩
    · rcases h1 with rfl | ⟨l, rfl⟩ <;> rfl
    · rcases h2 with rfl | rfl <;> rfl
end Go.Gk
