/-
  The faults of messages, two ways, whatever the message.
-/
import Derived.Test.YtdihjljlggagiaaGreatDoorGEnc0
set_option linter.unusedVariables false
set_option linter.unusedSimpArgs false
set_option linter.unusedSectionVars false
set_option maxRecDepth 100000
namespace Go.Gk
theorem check_all (s : Str) : m_name_CheckDomain 20000000 s = some (domF s) := by
  by_cases h : s.length ≤ 1000000
  · exact check_ok 19999998 s h
  · unfold m_name_CheckDomain domF
    rw [decide_eq_true (show (s.length : Int) > 253 by omega), if_pos (by omega)]
    rfl
theorem fault_all (s : Str) : m_laneref1_DomainFault s = some (domF s) := by
  by_cases h : s.length ≤ 1000000
  · exact fault_ok s h
  · unfold m_laneref1_DomainFault domF
    rw [decide_eq_true (show (s.length : Int) > 253 by omega), if_pos (by omega)]
    rfl
def plB (c : UInt8) : Bool := decide ((c.toNat : Int) < 32) || ((c.toNat : Int) == 127)
theorem plain_ok (s : Str) (hs : s.length ≤ 300) : ∃ v, m_kit_IsPlain 20000000 s = some v ∧ m_laneref1_plain s = some v ∧ (s = [] → v = true) := by
  unfold m_kit_IsPlain m_laneref1_plain
  have hin : ∀ c : UInt8, (bif decide ((c.toNat : Int) < 32) then (some true) else (some ((c.toNat : Int) == 127))) = some (plB c) := fun c => by
    unfold plB
    cases decide ((c.toNat : Int) < 32) <;> rfl
  have hR := rangeI_all (f := fun (i1 : Nat) (s2 : Unit) => bi (getZ s (i1 : Int)) fun c13 => bi (bif decide (((c13.toNat : Int) : Int) < 32) then (some true) else (bi (getZ s (i1 : Int)) fun c19 => some (((c19.toNat : Int) : Int) == 127))) fun q15 => bif q15 then (bi (some false) fun v => some (LS.out v)) else (some (.go ()))) (fun c => !plB c) false s (fun i c hc => by
    rw [getZ_nn hc]
    simp only [bi_some]
    rw [hin c, bi_some]
    cases plB c <;> rfl)
  obtain ⟨r, hP, hr⟩ := loopM_inv (f := fun (s2 : Int) => bif decide ((s2 : Int) < (s.length : Int)) then (bi (getZ s s2) fun c12 => bi (bif decide (((c12.toNat : Int) : Int) < 32) then (some true) else (bi (getZ s s2) fun c18 => some (((c18.toNat : Int) : Int) == 127))) fun q14 => bif q14 then (bi (some false) fun v => some (LS.out (Sum.inr (α := Unit) v))) else (some (.go (wi (s2 + 1))))) else (some (.out (.inl ()))))
    (fun st => ∃ i : Nat, i ≤ s.length ∧ st = (i : Int) ∧ (s.take i).all (fun c => !plB c) = true) (fun st => (1000 - st).toNat) (fun r => r = if s.all (fun c => !plB c) then .inl () else .inr false) (by
      rintro st ⟨i, hi, rfl, hall⟩
      by_cases hlt : i < s.length
      · have hg : s[i]? = some (s[i]) := List.getElem?_eq_getElem hlt
        rw [decide_eq_true (show (i : Int) < (s.length : Int) by omega), getZ_nn hg]
        simp only [cond_true, bi_some]
        rw [hin, bi_some]
        cases hp : plB s[i] with
        | true =>
          refine .inl ⟨_, rfl, ?_⟩
          rw [if_neg]
          intro h
          have := List.all_eq_true.1 h (s[i]) (List.getElem_mem hlt)
          rw [hp] at this
          cases this
        | false =>
          refine .inr ⟨_, rfl, ⟨i + 1, by omega, by rw [wi_id (by omega) (by omega)]; omega, ?_⟩, by rw [wi_id (by omega) (by omega)]; omega⟩
          rw [List.take_add_one, hg, List.all_append, hall]
          simp [hp]
      · rw [decide_eq_false (show ¬ (i : Int) < (s.length : Int) by omega)]
        refine .inl ⟨_, rfl, ?_⟩
        rw [show i = s.length by omega, List.take_length] at hall
        rw [if_pos hall]) 20000000 0 (by decide) ⟨0, by omega, rfl, rfl⟩
  rw [hP, decide_eq_true (show (s.length : Int) ≤ 9223372036854775807 by omega), show ∀ m : Option (LS Unit Bool), gd true m = m from fun _ => rfl, hR, hr]
  have hv : m_utf8_ValidString s = some (Lib.validD s) := by
    unfold m_utf8_ValidString
    rw [Nat.ble_eq_true_of_le (by omega)]
    rfl
  have ht : m_strings_Trim s [32] = some (Lib.trimS s [32]) := by
    unfold m_strings_Trim
    rw [Nat.ble_eq_true_of_le (show s.length ≤ 1099511627776 by omega)]
    rfl
  have hc : m_strings_Contains s [32, 32] = some (Lib.contains s [32, 32]) := by
    unfold m_strings_Contains
    rw [show Nat.blt s.length 4294967281 = true from nblt.2 (by omega)]
    rfl
  have heq : (Lib.trimS s [32] == s) = (s == Lib.trimS s [32]) := by rw [Bool.eq_iff_iff]; simp only [beq_iff_eq]; exact eq_comm
  by_cases hall : (s.all fun c => !plB c) = true
  · rw [if_pos hall, if_pos hall]
    simp only [bi_some, orI_inl, goI, hv, ht, hc, heq]
    cases h1 : Lib.validD s with
    | false =>
      refine ⟨false, rfl, rfl, fun h => ?_⟩
      subst h
      cases h1
    | true =>
      cases h2 : (s == Lib.trimS s [32]) with
      | false =>
        refine ⟨false, rfl, rfl, fun h => ?_⟩
        subst h
        cases h2
      | true => exact ⟨_, rfl, rfl, fun h => by subst h; rfl⟩
  · rw [if_neg hall, if_neg hall]
    exact ⟨false, rfl, rfl, fun h => absurd (by subst h; rfl) hall⟩
theorem recFault_ok (r : T_api_Record) (h : RecOk r) : ∃ e, m_name_recordFault 20000000 r = some e ∧ m_laneref1_RecordFault r = some e := by
  obtain ⟨h4, h3⟩ := h
  obtain ⟨ab, a1, a2⟩ := addr_ok r.Addr h4
  obtain ⟨pl, p1, p2, p4⟩ := plain_ok _ h3
  obtain ⟨ot, o1, o2⟩ := outside_in r.Life 0 1000000
  have hb : m_name_bare r.Name = some (Lib.trimPrefix r.Name [42, 46]) := rfl
  have ht : m_strings_TrimPrefix r.Name [42, 46] = some (Lib.trimPrefix r.Name [42, 46]) := rfl
  have hk : m_laneref1_Kinds = some [1, 5, 12, 16, 28] := rfl
  have hha : m_name_hasAddr r.Kind = some ((r.Kind == 1) || (r.Kind == 28)) := rfl
  have hhn : m_name_hasName r.Kind = some ((r.Kind == 5) || (r.Kind == 12)) := rfl
  have hwe : (r.Words == []) = true → pl = true := fun e => p4 (by simpa using e)
  have hwl : (r.Words == []) = true → decide ((r.Words.length : Int) > 200) = false := fun e => by
    rw [show r.Words = [] by simpa using e]
    rfl
  unfold m_name_recordFault m_laneref1_RecordFault
  rw [hb, ht, hk, hha, hhn]
  simp only [bi_some]
  rw [check_all, fault_all, check_all, fault_all, isKind_ok, kinds_ok, a1, a2, p1, p2, o1, o2]
  simp only [bi_some]
  generalize (domF (Lib.trimPrefix r.Name [42, 46]) != 0) = x1
  generalize decide ((r.Name.length : Int) > 253) = x2
  cases x1 <;> cases x2 <;> try exact ⟨_, rfl, rfl⟩
  simp only [Bool.or_false, cond_false]
  cases hkb : kindB r.Kind with
  | false => exact ⟨_, rfl, rfl⟩
  | true =>
    simp only [Bool.not_true, cond_false]
    have hk' : r.Kind = 1 ∨ r.Kind = 5 ∨ r.Kind = 12 ∨ r.Kind = 16 ∨ r.Kind = 28 := by simpa [kindB] using hkb
    generalize (domF r.To != 0) = x3
    generalize (ab != 0) = x4
    generalize decide ((r.Words.length : Int) > 200) = x9 at hwl
    generalize (r.Words == []) = x5 at hwe hwl
    generalize (r.To == []) = x6
    generalize ((r.Addr.Six == false) && ((r.Addr.Hi == 0) && ((r.Addr.Lo == 0) && true))) = x7
    generalize r.Addr.Six = x8
    rcases hk' with e | e | e | e | e <;> rw [e] <;> cases x3 <;> cases x4 <;> cases x6 <;> cases x7 <;> cases x8 <;> cases ot <;> cases pl <;> cases x5 <;> cases x9 <;> first | exact ⟨_, rfl, rfl⟩ | (exfalso; exact absurd (hwe rfl) (by decide)) | (exfalso; exact absurd (hwl rfl) (by decide))
end Go.Gk
