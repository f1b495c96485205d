/-
  Records and zones, two ways.
-/
import Derived.Test.YtfnjahjbpaoepaaGreatDoorELabel
set_option linter.unusedVariables false
set_option linter.unusedSimpArgs false
set_option linter.unusedSectionVars false
set_option maxRecDepth 100000
namespace Go.Gk
/-- z is name, or above it. -/
def UP (name z : Str) : Prop := z = [] ∨ name = z ∨ ∃ u, name = u ++ 46 :: z
theorem under_ok (name z : Str) (h1 : name.length ≤ 1000000) (h2 : z.length ≤ 1000000) : ∃ b, m_name_under name z = some b ∧ (z = [] ∨ b = true ↔ UP name z) := by
  unfold m_name_under m_strings_HasSuffix
  rw [cat_ok (by simp; omega)]
  simp only [bi_some, Nat.ble_eq_true_of_le (show name.length ≤ 1099511627776 by omega), gd_true]
  cases he : (name == z) with
  | true =>
    have : name = z := by simpa using he
    exact ⟨true, rfl, fun _ => .inr (.inl this), fun _ => .inr rfl⟩
  | false =>
    have hne : name ≠ z := by simpa using he
    refine ⟨_, rfl, ?_⟩
    simp only [Lib.hasSuffix, List.isSuffixOf_iff_suffix]
    constructor
    · rintro (rfl | ⟨u, e⟩)
      · exact .inl rfl
      · exact .inr (.inr ⟨u, by simpa using e.symm⟩)
    · rintro (rfl | e | ⟨u, e⟩)
      · exact .inl rfl
      · exact absurd e hne
      · exact .inr ⟨u, by simpa using e.symm⟩
def wordsT : List Str := [[], [104, 105], [97, 32, 98], [118, 61, 49], [32, 120], [97, 10, 98], [121]]
theorem plain_tab : ∀ w ∈ wordsT, ∃ b, m_kit_IsPlain 400 w = some b ∧ m_laneref1_plain w = some b ∧ w.length ≤ 200 ∧ (w = [] → b = true) := by
  intro w hw
  simp only [wordsT, List.mem_cons, List.not_mem_nil, or_false] at hw
  rcases hw with rfl | rfl | rfl | rfl | rfl | rfl | rfl <;> exact ⟨_, rfl, rfl, by decide, fun h => by first | rfl | cases h⟩
def okRec (r : T_api_Record) : Prop := r.Name.length ≤ 300 ∧ r.To.length ≤ 300 ∧ r.Words ∈ wordsT ∧ 0 ≤ r.Addr.Hi
theorem addr_ok (a : T_api_Addr) (h : 0 ≤ a.Hi) : ∃ e, m_addr_CheckAddr a = some e ∧ m_laneref2_AddrFault a = some e := by
  unfold m_laneref2_AddrFault m_addr_CheckAddr
  have e1 : (a.Hi != 0) = decide (a.Hi > 0) := by rw [Bool.eq_iff_iff]; simp; omega
  have e2 : decide (a.Lo ≥ 4294967296) = decide (a.Lo > 4294967295) := by rw [Bool.eq_iff_iff]; simp; omega
  rw [e1, e2]
  cases (!a.Six && (decide (a.Hi > 0) || decide (a.Lo > 4294967295))) <;> exact ⟨_, rfl, rfl⟩
def kindB (k : Int) : Bool := k == 1 || (k == 5 || (k == 12 || (k == 16 || k == 28)))
theorem isKind_ok (k : Int) : m_name_isKind k = some (kindB k) := by
  unfold m_name_isKind kindB
  cases (k == 1) <;> cases (k == 5) <;> cases (k == 12) <;> cases (k == 16) <;> cases (k == 28) <;> rfl
theorem kinds_ok (k : Int) : m_slices_Contains_int_int [1, 5, 12, 16, 28] k = some (kindB k) := by
  unfold m_slices_Contains_int_int m_slices_Index_int_int kindB
  simp only [rangeM]
  cases (k == 1) <;> cases (k == 5) <;> cases (k == 12) <;> cases (k == 16) <;> cases (k == 28) <;> rfl
theorem b3 (e : Int) : (e != 0) = !(e == 0) := rfl
theorem recFault_ok (r : T_api_Record) (h : okRec r) : ∃ e, m_name_recordFault 400 r = some e ∧ m_laneref1_RecordFault r = some e := by
  obtain ⟨h1, h2, h3, h4⟩ := h
  obtain ⟨ab, a1, a2⟩ := addr_ok r.Addr h4
  obtain ⟨pl, p1, p2, p3, p4⟩ := plain_tab _ h3
  obtain ⟨ot, o1, o2⟩ := outside_in r.Life 0 1000000
  have hle := trim_le r.Name [42, 46]
  have d1 := check_ok 398 (Lib.trimPrefix r.Name [42, 46]) (by omega)
  have d2 := fault_ok (Lib.trimPrefix r.Name [42, 46]) (by omega)
  have d3 := check_ok 398 r.To (by omega)
  have d4 := fault_ok r.To (by omega)
  have hw : decide ((r.Words.length : Int) > 200) = false := decide_eq_false (by omega)
  have hb : m_name_bare r.Name = some (Lib.trimPrefix r.Name [42, 46]) := rfl
  have ht : m_strings_TrimPrefix r.Name [42, 46] = some (Lib.trimPrefix r.Name [42, 46]) := rfl
  have hk : m_laneref1_Kinds = some [1, 5, 12, 16, 28] := rfl
  have hha : m_name_hasAddr r.Kind = some ((r.Kind == 1) || (r.Kind == 28)) := rfl
  have hhn : m_name_hasName r.Kind = some ((r.Kind == 5) || (r.Kind == 12)) := rfl
  have hwe : (r.Words == []) = true → pl = true := fun e => p4 (by simpa using e)
  unfold m_name_recordFault m_laneref1_RecordFault
  rw [hb, ht, hk, hha, hhn]
  simp only [bi_some]
  rw [d1, d2, d3, d4, isKind_ok, kinds_ok, a1, a2, p1, p2, o1, o2]
  simp only [bi_some, hw]
  generalize (domF (Lib.trimPrefix r.Name [42, 46]) != 0) = x1
  generalize decide ((r.Name.length : Int) > 253) = x2
  cases x1 <;> cases x2 <;> try exact ⟨_, rfl, rfl⟩
  simp only [Bool.or_false, cond_false]
  cases hkb : kindB r.Kind with
  | false => exact ⟨_, rfl, rfl⟩
  | true =>
    simp only [Bool.not_true, cond_false]
    have hk' : r.Kind = 1 ∨ r.Kind = 5 ∨ r.Kind = 12 ∨ r.Kind = 16 ∨ r.Kind = 28 := by simpa [kindB] using hkb
    generalize (domF r.To != 0) = x3
    generalize (ab != 0) = x4
    generalize (r.Words == []) = x5 at hwe
    generalize (r.To == []) = x6
    generalize ((r.Addr.Six == false) && ((r.Addr.Hi == 0) && ((r.Addr.Lo == 0) && true))) = x7
    generalize r.Addr.Six = x8
    rcases hk' with e | e | e | e | e <;> rw [e] <;> cases x3 <;> cases x4 <;> cases x6 <;> cases x7 <;> cases x8 <;> cases ot <;> cases pl <;> cases x5 <;> first | exact ⟨_, rfl, rfl⟩ | (exfalso; exact absurd (hwe rfl) (by decide))
def cmpI (x y : Int) : Int := if x < y then -1 else if x > y then 1 else 0
theorem cmpInt_ok (x y : Int) : m_cmp_Compare_int x y = some (cmpI x y) := by
  unfold m_cmp_Compare_int m_cmp_isNaN_int cmpI
  have : ∀ z : Int, (z != z) = false := fun z => by simp
  rw [this, this]
  by_cases h : x < y
  · simp [h]
  · by_cases h2 : y < x <;> simp [h, h2]
/-- No two records of one name, one of them an alias. -/
def Calm (R : List T_api_Record) : Prop := ∀ (i : Nat) (a b : T_api_Record), R[i]? = some a → R[i + 1]? = some b → Lib.compareBytes a.Name b.Name ≤ 0 ∧ (a.Name = b.Name → a.Kind ≠ 5 ∧ b.Kind ≠ 5)
end Go.Gk
