/-
  Decode, two ways, if Encode is alike two ways.
-/
import Derived.Test.YtdihjljlggagiaaGreatDoorGRec
set_option linter.unusedVariables false
set_option linter.unusedSimpArgs false
set_option maxRecDepth 100000
namespace Go.Gk
def FQ (n : Int) (s18 : T_name_decoder × (List T_api_Question) × Int) : Option (LS (T_name_decoder × (List T_api_Question) × Int) (T_name_decoder × (List T_api_Question))) :=
  bif ((decide ((s18.2.2 : Int) < n)) && (!s18.1.bad)) then (bi (m_name_decoder_name 20000000 s18.1) fun y28 => bi (m_name_decoder_number y28.2 1) fun y30 => bi (apd s18.2.1 [(⟨y28.1, wi (y30.1)⟩ : T_api_Question)]) fun y32 => some (.go (y30.2, y32, wi (s18.2.2 + 1)))) else (some (.out (s18.1, s18.2.1)))
def FR (n : Int) (s36 : T_name_decoder × (List T_api_Record) × Int) : Option (LS (T_name_decoder × (List T_api_Record) × Int) (T_name_decoder × (List T_api_Record))) :=
  bif ((decide ((s36.2.2 : Int) < n)) && (!s36.1.bad)) then (bi (m_name_decoder_record 20000000 s36.1) fun y46 => bi (apd s36.2.1 [y46.1]) fun y48 => some (.go (y46.2, y48, wi (s36.2.2 + 1)))) else (some (.out (s36.1, s36.2.1)))
def GQ (i15 : Nat) (s16 : T_laneref1_bytesReader × (List T_api_Question)) : Option (T_laneref1_bytesReader × (List T_api_Question)) :=
  bi (m_laneref1_bytesReader_name 20000000 s16.1) fun y27 => bi (m_laneref1_bytesReader_take y27.2 1) fun y29 => bi (apd s16.2 [(⟨y27.1, wi (y29.1)⟩ : T_api_Question)]) fun y31 => some (y29.2, y31)
def GR (i33 : Nat) (s34 : T_laneref1_bytesReader × (List T_api_Record)) : Option (T_laneref1_bytesReader × (List T_api_Record)) :=
  bi (m_laneref1_bytesReader_record 20000000 s34.1) fun y45 => bi (apd s34.2 [y45.1]) fun y47 => some (y45.2, y47)
def noM : T_api_Message := ⟨0, false, 0, ([] : List T_api_Question), ([] : List T_api_Record)⟩
theorem decode_def (b : List Int) : m_name_Decode 20000000 b = bif decide (((b.length : Int) : Int) > 4096) then (some (noM, 2)) else (bi (m_name_decoder_number (⟨b, 0, false⟩ : T_name_decoder) 2) fun y3 => bi (m_name_decoder_number y3.2 1) fun y5 => bi (m_name_decoder_number y5.2 1) fun y7 => bi (m_name_decoder_number y7.2 1) fun y9 => bi (m_name_decoder_number y9.2 1) fun y11 => bi (bif (((y5.1 : Int) != 0) && (!((y5.1 : Int) == 128))) then (some true) else (some y11.2.bad)) fun q13 => bi (loopM (FQ (wi (y9.1))) 20000000 ((⟨y11.2.b, y11.2.v_at, q13⟩ : T_name_decoder), ([] : List T_api_Question), 0)) fun q20 => bi (loopM (FR (wi (y11.1))) 20000000 (q20.1, ([] : List T_api_Record), 0)) fun q38 => bif (q38.1.bad || (decide ((q38.1.v_at : Int) < (b.length : Int)))) then (some (noM, 9)) else (bi (m_name_Encode 20000000 (⟨wi (y3.1), (y5.1 : Int) == 128, wi (y7.1), q20.2, q38.2⟩ : T_api_Message)) fun y53 => bi (bif (y53.2 : Int) != 0 then (some true) else (bi (m_slices_Equal_byte_byte y53.1 b) fun y59 => some (!y59))) fun q55 => bif q55 then (some (noM, 3)) else (some ((⟨wi (y3.1), (y5.1 : Int) == 128, wi (y7.1), q20.2, q38.2⟩ : T_api_Message), 0)))) := rfl
theorem decodeOf_def (b : List Int) : m_laneref1_DecodeOf 20000000 b = bif decide (((b.length : Int) : Int) > 4096) then (some (noM, 2)) else (bi (m_laneref1_bytesReader_take (⟨b, 0, false⟩ : T_laneref1_bytesReader) 2) fun y3 => bi (m_laneref1_bytesReader_take y3.2 1) fun y5 => bi (m_laneref1_bytesReader_take y5.2 1) fun y7 => bi (m_laneref1_bytesReader_take y7.2 1) fun y9 => bi (m_laneref1_bytesReader_take y9.2 1) fun y11 => bif (y11.2.bad || (((y5.1 : Int) != 0) && ((y5.1 : Int) != 128))) then (some (noM, 9)) else (bi (gd (decide ((wi (y9.1)) ≤ 9223372036854775807)) (rangeG GQ (wi (y9.1)) (y11.2, ([] : List T_api_Question)))) fun q18 => bi (gd (decide ((wi (y11.1)) ≤ 9223372036854775807)) (rangeG GR (wi (y11.1)) (q18.1, ([] : List T_api_Record)))) fun q36 => bif (q36.1.bad || ((q36.1.v_at : Int) != (b.length : Int))) then (some (noM, 9)) else (bi (m_laneref1_EncodeOf 20000000 (⟨wi (y3.1), (y5.1 : Int) == 128, wi (y7.1), q18.2, q36.2⟩ : T_api_Message)) fun y51 => bi (bif (y51.2 : Int) != 0 then (some true) else (bi (m_slices_Equal_byte_byte y51.1 b) fun y57 => some (!y57))) fun q53 => bif q53 then (some (noM, 3)) else (some ((⟨wi (y3.1), (y5.1 : Int) == 128, wi (y7.1), q18.2, q36.2⟩ : T_api_Message), 0))))) := rfl
theorem equal_any (r b : List Int) : ∃ v, m_slices_Equal_byte_byte r b = some v := by
  unfold m_slices_Equal_byte_byte
  by_cases hl : (r.length : Int) = (b.length : Int)
  · rw [show ((r.length : Int) != (b.length : Int)) = false by simp [hl], cond_false]
    rcases rangeM_at (f := fun (i3 : Nat) (x5 : Int) (s4 : Unit) => bi (getZ b (i3 : Int)) fun x14 => bif (x5 : Int) != x14 then (bi (some false) fun v => some (.out v)) else (some (.go ()))) r (fun _ _ => True) (fun _ => True) (fun i x s hx _ => by
      have hi := (List.getElem?_eq_some_iff.1 hx).1
      have hg : b[i]? = some (b[i]'(by omega)) := List.getElem?_eq_getElem (by omega)
      rw [getZ_nn hg, bi_some]
      cases x != b[i]'(by omega) with
      | true => exact .inr ⟨_, rfl, trivial⟩
      | false => exact .inl ⟨_, rfl, trivial⟩) r 0 () rfl trivial with ⟨s', e, _⟩ | ⟨v, e, _⟩
    · exact ⟨true, by rw [e]; rfl⟩
    · exact ⟨v, by rw [e]; rfl⟩
  · rw [show ((r.length : Int) != (b.length : Int)) = true by simp; omega]
    exact ⟨false, rfl⟩
def MsgOk (m : T_api_Message) : Prop := (∀ r ∈ m.Got, RecOk r) ∧ m.Asked.length ≤ 900 ∧ m.Got.length ≤ 900
theorem rname_bad (b : List Int) (v : Int) : m_laneref1_bytesReader_name 20000000 ⟨b, v, true⟩ = some ([], ⟨b, v, true⟩) := by
  rw [show (20000000 : Nat) = 19999999 + 1 from rfl, rname_def, show (19999999 : Nat) = 19999998 + 1 from rfl, loop_out (rf_bad _ _ b v [])]
  rfl
theorem fstop {α : Type} {n : Int} {x : T_name_decoder} {i : Int} (h : ¬ i < n ∨ x.bad = true) : ((decide (i < n)) && (!x.bad)) = false := by
  rcases h with h | h
  · rw [decide_eq_false h]; rfl
  · rw [h]; simp
section
variable {b : List Int} (hb : b.length ≤ 4096) (hB : Byt b)
include hb hB
theorem questions_two (n : Nat) (hn : n < 256) {x : T_name_decoder} {y : T_laneref1_bytesReader} (h : StP b x y) :
    ∃ x' y' m m', loopM (FQ (n : Int)) 20000000 (x, [], 0) = some (x', m) ∧ rangeG GQ (n : Int) (y, []) = some (y', m') ∧ StP b x' y' ∧ (x'.bad = false → m = m') ∧ m.length ≤ 900 := by
  obtain ⟨x', y', m, m', e1, e2, g1, g2, _, g4⟩ := rows_two (b := b) (n := (n : Int)) (fun _ : T_api_Question => True) (FQ (n : Int)) GQ
    (fun x l i h => by unfold FQ; simp only; rw [fstop (α := Unit) h]; rfl)
    (fun x y l l' i h hx hi hl hl' => by
      obtain ⟨s, s', v, x1, y1, x', y', e1, e2, e3, e4, g1, g2⟩ := question_two hb hB h
      refine ⟨⟨s, wi v⟩, ⟨s', wi v⟩, x', y', ?_, ?_, g1, fun hx => by rw [g2 hx], trivial⟩
      · unfold FQ
        simp only
        rw [decide_eq_true hi, hx]
        simp only [Bool.not_false, Bool.and_self, cond_true, e1, bi_some, e2]
        rw [apd_some (by simp; omega), bi_some, show wi ((i : Int) + 1) = ((i + 1 : Nat) : Int) by rw [wi_id (by omega) (by omega)]; omega]
      · unfold GQ
        simp only [e3, bi_some, e4]
        rw [apd_some (by simp; omega), bi_some])
    (fun y l' i hy hyb hl => by
      obtain ⟨b', v, g⟩ := y
      obtain rfl : g = true := hy
      obtain rfl : b' = b := hyb
      refine ⟨⟨[], wi 0⟩, ⟨b', v, true⟩, ?_, rfl, rfl⟩
      unfold GQ
      simp only [rname_bad, bi_some]
      rw [show m_laneref1_bytesReader_take ⟨b', v, true⟩ 1 = _ from rtake_bad b' v 1 (by decide) (by decide)]
      simp only [bi_some]
      rw [apd_some (by simp; omega), bi_some])
    n 0 x y [] [] 20000000 h (fun _ => rfl) (by simp) (by omega) (by simp) rfl (fun q hq => nomatch hq) (by omega)
  exact ⟨x', y', m, m', e1, e2, g1, g2, g4⟩
theorem rrec_bad (v : Int) : ∃ r y', m_laneref1_bytesReader_record 20000000 ⟨b, v, true⟩ = some (r, y') ∧ y'.bad = true ∧ y'.b = b := by
  obtain ⟨r, r', x', y', e1, e2, g1, _, g3, _⟩ := record_two hb hB (x := ⟨b, v, true⟩) (y := ⟨b, v, true⟩) (.inr ⟨_, _, rfl, rfl⟩)
  refine ⟨r', y', e2, ?_⟩
  rcases g1 with ⟨a, _, rfl, rfl⟩ | ⟨u, w, rfl, rfl⟩
  · exact absurd (g3 rfl) (by simp)
  · exact ⟨rfl, rfl⟩
theorem records_two (n : Nat) (hn : n < 256) {x : T_name_decoder} {y : T_laneref1_bytesReader} (h : StP b x y) :
    ∃ x' y' m m', loopM (FR (n : Int)) 20000000 (x, [], 0) = some (x', m) ∧ rangeG GR (n : Int) (y, []) = some (y', m') ∧ StP b x' y' ∧ (x'.bad = false → m = m') ∧ (∀ q ∈ m, RecOk q) ∧ m.length ≤ 900 ∧ (x.bad = true → x'.bad = true) := by
  obtain ⟨x', y', m, m', e1, e2, g1, g2, g3, g4⟩ := rows_two (b := b) (n := (n : Int)) RecOk (FR (n : Int)) GR
    (fun x l i h => by unfold FR; simp only; rw [fstop (α := Unit) h]; rfl)
    (fun x y l l' i h hx hi hl hl' => by
      obtain ⟨r, r', x', y', e1, e2, g1, g2, _, g4⟩ := record_two hb hB h
      refine ⟨r, r', x', y', ?_, ?_, g1, g2, g4⟩
      · unfold FR
        simp only
        rw [decide_eq_true hi, hx]
        simp only [Bool.not_false, Bool.and_self, cond_true, e1, bi_some]
        rw [apd_some (by simp; omega), bi_some, show wi ((i : Int) + 1) = ((i + 1 : Nat) : Int) by rw [wi_id (by omega) (by omega)]; omega]
      · unfold GR
        simp only [e2, bi_some]
        rw [apd_some (by simp; omega), bi_some])
    (fun y l' i hy hyb hl => by
      obtain ⟨b', v, g⟩ := y
      obtain rfl : g = true := hy
      obtain rfl : b' = b := hyb
      obtain ⟨r, y', e, g1, g2⟩ := rrec_bad hb hB v
      refine ⟨r, y', ?_, g1, g2⟩
      unfold GR
      simp only [e, bi_some]
      rw [apd_some (by simp; omega), bi_some])
    n 0 x y [] [] 20000000 h (fun _ => rfl) (by simp) (by omega) (by simp) rfl (fun q hq => nomatch hq) (by omega)
  refine ⟨x', y', m, m', e1, e2, g1, g2, g3, g4, fun hx => ?_⟩
  have e3 : loopM (FR (n : Int)) (19999999 + 1) (x, [], 0) = some (x, []) := loop_out (by unfold FR; simp only; rw [fstop (α := Unit) (.inr hx)]; rfl)
  have e4 : some (x, ([] : List T_api_Record)) = some (x', m) := e3.symm.trans e1
  rw [← (Prod.mk.inj (Option.some.inj e4)).1]
  exact hx
end
theorem decode_two (b : List Int) (hB : Byt b) (henc : ∀ m, MsgOk m → ∃ r e, m_name_Encode 20000000 m = some (r, e) ∧ m_laneref1_EncodeOf 20000000 m = some (r, e)) :
    ∃ m e, m_name_Decode 20000000 b = some (m, e) ∧ m_laneref1_DecodeOf 20000000 b = some (m, e) := by
  rw [decode_def, decodeOf_def]
  by_cases hlen : b.length ≤ 4096
  · rw [decide_eq_false (show ¬ (b.length : Int) > 4096 by omega)]
    simp only [cond_false]
    have h0 : StP b ⟨b, 0, false⟩ ⟨b, 0, false⟩ := .inl ⟨0, by omega, rfl, rfl⟩
    obtain ⟨v3, x3, y3, p3, r3, h3, _⟩ := num_two hlen hB h0 2 (by decide) (by decide)
    obtain ⟨v5, x5, y5, p5, r5, h5, _⟩ := num_two hlen hB h3 1 (by decide) (by decide)
    obtain ⟨v7, x7, y7, p7, r7, h7, _⟩ := num_two hlen hB h5 1 (by decide) (by decide)
    obtain ⟨v9, x9, y9, p9, r9, h9, n9, _, m9⟩ := num_two hlen hB h7 1 (by decide) (by decide)
    obtain ⟨v11, x11, y11, p11, r11, h11, n11, _, m11⟩ := num_two hlen hB h9 1 (by decide) (by decide)
    have w9 : wi v9 = ((v9.toNat : Nat) : Int) := by have := m9 rfl; rw [wi_id (by omega) (by omega)]; omega
    have w11 : wi v11 = ((v11.toNat : Nat) : Int) := by have := m11 rfl; rw [wi_id (by omega) (by omega)]; omega
    have l9 : v9.toNat < 256 := by have := m9 rfl; omega
    have l11 : v11.toNat < 256 := by have := m11 rfl; omega
    rw [show m_name_decoder_number ⟨b, 0, false⟩ 2 = _ from p3, show m_laneref1_bytesReader_take ⟨b, 0, false⟩ 2 = _ from r3]
    simp only [bi_some]
    rw [show m_name_decoder_number x3 1 = _ from p5, show m_laneref1_bytesReader_take y3 1 = _ from r5]
    simp only [bi_some]
    rw [show m_name_decoder_number x5 1 = _ from p7, show m_laneref1_bytesReader_take y5 1 = _ from r7]
    simp only [bi_some]
    rw [show m_name_decoder_number x7 1 = _ from p9, show m_laneref1_bytesReader_take y7 1 = _ from r9]
    simp only [bi_some]
    rw [show m_name_decoder_number x9 1 = _ from p11, show m_laneref1_bytesReader_take y9 1 = _ from r11]
    simp only [bi_some]
    rw [w9, w11, decide_eq_true (show ((v9.toNat : Nat) : Int) ≤ 9223372036854775807 by omega), decide_eq_true (show ((v11.toNat : Nat) : Int) ≤ 9223372036854775807 by omega)]
    have hxb : x11.b = b ∧ y11.bad = x11.bad := by
      rcases h11 with ⟨a, _, rfl, rfl⟩ | ⟨u, w, rfl, rfl⟩ <;> exact ⟨rfl, rfl⟩
    -- the way on, from a state that both share
    have stopped : ∀ u : Int, (bi (loopM (FQ ((v9.toNat : Nat) : Int)) 20000000 ((⟨b, u, true⟩ : T_name_decoder), ([] : List T_api_Question), 0)) fun q20 => bi (loopM (FR ((v11.toNat : Nat) : Int)) 20000000 (q20.1, ([] : List T_api_Record), 0)) fun q38 => bif (q38.1.bad || (decide ((q38.1.v_at : Int) < (b.length : Int)))) then (some (noM, (9 : Int))) else (bi (m_name_Encode 20000000 (⟨wi v3, (v5 : Int) == 128, wi v7, q20.2, q38.2⟩ : T_api_Message)) fun y53 => bi (bif (y53.2 : Int) != 0 then (some true) else (bi (m_slices_Equal_byte_byte y53.1 b) fun y59 => some (!y59))) fun q55 => bif q55 then (some (noM, 3)) else (some ((⟨wi v3, (v5 : Int) == 128, wi v7, q20.2, q38.2⟩ : T_api_Message), 0)))) = some (noM, 9) := fun u => by
      have e1 : loopM (FQ ((v9.toNat : Nat) : Int)) (19999999 + 1) ((⟨b, u, true⟩ : T_name_decoder), ([] : List T_api_Question), 0) = some (⟨b, u, true⟩, []) := loop_out (by unfold FQ; simp only [Bool.not_true, Bool.and_false, cond_false])
      have e2 : loopM (FR ((v11.toNat : Nat) : Int)) (19999999 + 1) ((⟨b, u, true⟩ : T_name_decoder), ([] : List T_api_Record), 0) = some (⟨b, u, true⟩, []) := loop_out (by unfold FR; simp only [Bool.not_true, Bool.and_false, cond_false])
      rw [show (20000000 : Nat) = 19999999 + 1 from rfl, e1]
      simp only [bi_some]
      rw [e2]
      rfl
    by_cases hcond : (x11.bad || ((v5 != 0) && (v5 != 128))) = true
    · rw [hxb.2, hcond]
      have hq : (bif ((v5 != 0) && (!(v5 == 128))) then (some true) else (some x11.bad)) = some true := by
        cases hv : ((v5 != 0) && (!(v5 == 128))) with
        | true => rfl
        | false =>
          have hv' : ((v5 != 0) && (v5 != 128)) = false := hv
          rw [hv', Bool.or_false] at hcond
          rw [hcond]
          rfl
      rw [hq, bi_some, hxb.1, stopped]
      exact ⟨_, _, rfl, rfl⟩
    · have hcf : (x11.bad || ((v5 != 0) && (v5 != 128))) = false := by simpa using hcond
      rw [hxb.2, hcf]
      rw [Bool.or_eq_false_iff] at hcf
      have hq : (bif ((v5 != 0) && (!(v5 == 128))) then (some true) else (some x11.bad)) = some false := by
        rw [show ((v5 != 0) && (!(v5 == 128))) = false from hcf.2, hcf.1]
        rfl
      have hx11 : (⟨x11.b, x11.v_at, false⟩ : T_name_decoder) = x11 := by
        obtain ⟨p, q, r⟩ := x11
        obtain rfl : r = false := hcf.1
        rfl
      rw [hq, bi_some, hx11]
      obtain ⟨x20, y20, m20, m20', p20, r20, h20, s20, c20⟩ := questions_two hlen hB v9.toNat l9 h11
      obtain ⟨x38, y38, m38, m38', p38, r38, h38, s38, q38, c38, b38⟩ := records_two hlen hB v11.toNat l11 h20
      rw [p20, show ∀ m : Option (T_laneref1_bytesReader × List T_api_Question), gd true m = m from fun _ => rfl, r20]
      simp only [bi_some, cond_false]
      rw [p38, show ∀ m : Option (T_laneref1_bytesReader × List T_api_Record), gd true m = m from fun _ => rfl, r38]
      simp only [bi_some]
      rcases h38 with ⟨a, ha, rfl, rfl⟩ | ⟨u, w, rfl, rfl⟩
      · have t20 : m20 = m20' := s20 (good_of (fun hp => b38 hp) rfl)
        have t38 : m38 = m38' := s38 rfl
        subst t20; subst t38
        simp only [Bool.false_or]
        by_cases hend : a = b.length
        · rw [decide_eq_false (show ¬ ((a : Int) < (b.length : Int)) by omega), show ((a : Int) != (b.length : Int)) = false by simp; omega]
          simp only [cond_false]
          obtain ⟨r, e, e1, e2⟩ := henc ⟨wi v3, v5 == 128, wi v7, m20, m38⟩ ⟨q38, c20, c38⟩
          rw [e1, e2]
          simp only [bi_some]
          obtain ⟨v, hv⟩ := equal_any r b
          rw [hv]
          cases hz : (e != 0) with
          | true => exact ⟨_, _, rfl, rfl⟩
          | false =>
            cases v with
            | true => exact ⟨_, _, rfl, rfl⟩
            | false => exact ⟨_, _, rfl, rfl⟩
        · rw [decide_eq_true (show ((a : Int) < (b.length : Int)) by omega), show ((a : Int) != (b.length : Int)) = true by simp; omega]
          exact ⟨_, _, rfl, rfl⟩
      · exact ⟨_, _, rfl, rfl⟩
  · rw [decide_eq_true (show (b.length : Int) > 4096 by omega)]
    exact ⟨_, _, rfl, rfl⟩
end Go.Gk
