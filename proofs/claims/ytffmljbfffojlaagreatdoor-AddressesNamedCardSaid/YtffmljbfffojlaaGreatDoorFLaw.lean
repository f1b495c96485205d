/-
  The plain law: AddressesNamed.
-/
import Derived.Test.YtffmljbfffojlaaGreatDoorFRef
set_option linter.unusedVariables false
set_option linter.unusedSimpArgs false
set_option maxRecDepth 100000
namespace Go.Gk
theorem named_okA : m_lanelaw1_named 400 = some true := by rfl
theorem addrOf_tail (name : Str) (a : T_api_Addr) (h : AOk a) (hc : m_addr_CheckAddr a = some 0) :
    (bi (m_laneref1_BackName 400 a) fun y52 => bif !((y52 : Str) == name) then (some ((⟨false, 0, 0⟩ : T_api_Addr), false)) else (some (a, true))) = some (⟨false, 0, 0⟩, false) ∨
    m_name_back 400 a = some name ∧ (bi (m_laneref1_BackName 400 a) fun y52 => bif !((y52 : Str) == name) then (some ((⟨false, 0, 0⟩ : T_api_Addr), false)) else (some (a, true))) = some (a, true) := by
  obtain ⟨s, s1, s2, _⟩ := back_ok h
  rw [s2, bi_some]
  by_cases he : s = name
  · subst he
    exact .inr ⟨s1, by simp⟩
  · rw [beq_eq_false_iff_ne.2 he]
    exact .inl rfl
theorem check_six {a : T_api_Addr} (hs : a.Six = true) : m_addr_CheckAddr a = some 0 := by
  unfold m_addr_CheckAddr
  rw [hs]
  rfl
theorem addrOf_any (name : Str) (hl : name.length ≤ 253) : m_laneref1_AddrOfBack 400 name = some (⟨false, 0, 0⟩, false) ∨ ∃ a, AOk a ∧ m_addr_CheckAddr a = some 0 ∧ m_name_back 400 a = some name ∧ m_laneref1_AddrOfBack 400 name = some (a, true) := by
  have hx : ∀ x ∈ Lib.split name [46], x.length ≤ 300 := fun x hx => by
    have := split_le name x hx
    omega
  rw [addrOf_def, split_m name (by omega), bi_some]
  by_cases h6 : (Lib.split name [46]).length = 6
  · obtain ⟨X, hX, e⟩ := f4_any _ h6 hx
    have ha : AOk ⟨false, 0, (X : Int)⟩ := ⟨Int.le_refl _, by show (0 : Int) < 18446744073709551616; decide, by show (0 : Int) ≤ (X : Int); omega, by show (X : Int) < 18446744073709551616; omega⟩
    have hc : m_addr_CheckAddr ⟨false, 0, (X : Int)⟩ = some 0 := by
      unfold m_addr_CheckAddr
      simp only
      rw [decide_eq_false (show ¬ (X : Int) ≥ 4294967296 by omega)]
      rfl
    rw [h6]
    simp only [show (((6 : Nat) : Int) == 6) = true from rfl, cond_true, e, bi_some, orI_inl]
    rcases addrOf_tail name _ ha hc with t | ⟨t1, t2⟩
    · exact .inl t
    · exact .inr ⟨_, ha, hc, t1, t2⟩
  · have n6 : (((Lib.split name [46]).length : Int) == 6) = false := beq_eq_false_iff_ne.2 (by omega)
    by_cases h34 : (Lib.split name [46]).length = 34
    · obtain ⟨a, ha, hs, e⟩ := f6_any _ h34 hx
      rw [h34]
      simp only [show (((34 : Nat) : Int) == 6) = false from rfl, show (((34 : Nat) : Int) == 34) = true from rfl, cond_true, cond_false, e, bi_some, orI_inl]
      rcases addrOf_tail name _ ha (check_six hs) with t | ⟨t1, t2⟩
      · exact .inl t
      · exact .inr ⟨_, ha, check_six hs, t1, t2⟩
    · have n34 : (((Lib.split name [46]).length : Int) == 34) = false := beq_eq_false_iff_ne.2 (by omega)
      rw [n6, n34]
      exact .inl rfl
theorem addrOf_right {a : T_api_Addr} (h : AOk a) (hc : m_addr_CheckAddr a = some 0) {name : Str} (hb : m_name_back 400 a = some name) (hl : name.length ≤ 253) : m_laneref1_AddrOfBack 400 name = some (a, true) := by
  obtain ⟨s, s1, s2, _⟩ := back_ok h
  rw [hb] at s1
  obtain rfl := Option.some.inj s1
  have hn := name_is h hb
  have hsp : Lib.split name [46] = labs a ++ Lib.split (sfx a) [46] := by
    conv => lhs; rw [hn]
    exact split_dots _ (labs_nodot a)
  rw [addrOf_def, split_m name (by omega), bi_some, hsp]
  have h0 := h.h0; have h1 := h.h1; have l0 := h.l0; have l1 := h.l1
  cases hs : a.Six with
  | true =>
    have hlabs : labs a = hexL (a.Hi.toNat * 2 ^ 64 + a.Lo.toNat) 32 := by unfold labs; rw [if_pos hs]
    have hsf : sfx a = sfx6 := by unfold sfx; rw [if_pos hs]
    have hlen : (labs a ++ Lib.split (sfx a) [46]).length = 34 := by
      rw [hlabs, hsf, List.length_append, show (Lib.split sfx6 [46]).length = 2 by decide +kernel]
      simp [hexL]
    have ha : (⟨true, (a.Hi.toNat : Int), (a.Lo.toNat : Int)⟩ : T_api_Addr) = a := by
      obtain ⟨f, x, y⟩ := a
      simp only at *
      subst hs
      congr 1 <;> omega
    have e := f6_right a.Hi.toNat a.Lo.toNat (by omega) (by omega) (Lib.split (sfx a) [46])
    rw [← hlabs, ha] at e
    rw [hlen]
    simp only [show (((34 : Nat) : Int) == 6) = false from rfl, show (((34 : Nat) : Int) == 34) = true from rfl, cond_true, cond_false, e, bi_some, orI_inl, s2]
    simp
  | false =>
    obtain ⟨hh, hlo⟩ := lo_small h hs hc
    have hlabs : labs a = decL a.Lo.toNat 4 := by unfold labs; rw [if_neg (by rw [hs]; decide)]
    have hsf : sfx a = sfx4 := by unfold sfx; rw [if_neg (by rw [hs]; decide)]
    have hlen : (labs a ++ Lib.split (sfx a) [46]).length = 6 := by
      rw [hlabs, hsf, List.length_append, show (Lib.split sfx4 [46]).length = 2 by decide +kernel]
      simp [decL]
    have ha : (⟨false, 0, (a.Lo.toNat : Int)⟩ : T_api_Addr) = a := by
      obtain ⟨f, x, y⟩ := a
      simp only at *
      subst hs hh
      congr 1
      omega
    have e := f4_right a.Lo.toNat (by omega) (Lib.split (sfx a) [46])
    rw [← hlabs] at e
    rw [hlen]
    simp only [show (((6 : Nat) : Int) == 6) = true from rfl, cond_true, e, bi_some, orI_inl, ha, s2]
    simp
theorem back_part (a : T_api_Addr) (h : AOk a) (R : Option Bool) : (bi (m_name_Back 400 a) fun y3 => bi (m_laneref2_AddrFault a) fun y5 => bi (bif (y3.2 : Int) != y5 then (some true) else (bi (bif (y5 : Int) == 0 then (bi (m_laneref1_BackName 400 a) fun y14 => some (!((y3.1 : Str) == y14))) else (some false)) fun q11 => some q11)) fun q7 => bif (q7 || (((y5 : Int) != 0) && (!((y3.1 : Str) == [])))) then (some false) else R) = R := by
  obtain ⟨e, e1, e2⟩ := addr_ok a h.h0
  unfold m_name_Back
  rw [e1]
  rcases ca_cases a with hc | hc
  · rw [e1] at hc
    obtain rfl := Option.some.inj hc
    rw [e2]
    rfl
  · rw [e1] at hc
    obtain rfl := Option.some.inj hc
    obtain ⟨s, s1, s2, _⟩ := back_ok h
    rw [e2]
    simp only [bi_some, bne_self_eq_false, cond_false, s1, s2, beq_self_eq_true, cond_true, Bool.not_true, Bool.false_and, Bool.or_self]
theorem both_ok (name : Str) (hl : name.length ≤ 1000) : (bi (m_name_BackTo 400 name) fun y31 => bi (m_laneref1_DomainFault name) fun y33 => bif (y33 : Int) != 0 then (bi (bif ((((y31.2.2 : Int) == y33) && (!y31.2.1)) && (((y31.1.Six : Bool) == false) && (((y31.1.Hi : Int) == 0) && (((y31.1.Lo : Int) == 0) && true)))) then (bi (m_lanelaw1_named 400) fun y39 => some y39) else (some false)) fun q36 => some q36) else (bi (m_laneref1_AddrOfBack 400 name) fun y43 => bi (bif ((((y31.2.2 : Int) == 0) && (((y31.1.Six : Bool) == y43.1.Six) && (((y31.1.Hi : Int) == y43.1.Hi) && (((y31.1.Lo : Int) == y43.1.Lo) && true)))) && ((y31.2.1 : Bool) == y43.2)) then (bi (m_lanelaw1_named 400) fun y48 => some y48) else (some false)) fun q45 => some q45)) = some true := by
  have hf := fault_ok name (by omega)
  by_cases hd : domF name = 0
  · have hln := dom_len hd
    rw [hf, hd]
    have fin : ∀ (a : T_api_Addr) (b : Bool), m_name_BackTo 400 name = some (a, b, 0) → m_laneref1_AddrOfBack 400 name = some (a, b) → (bi (m_name_BackTo 400 name) fun y31 => bi (some (0 : Int)) fun y33 => bif (y33 : Int) != 0 then (bi (bif ((((y31.2.2 : Int) == y33) && (!y31.2.1)) && (((y31.1.Six : Bool) == false) && (((y31.1.Hi : Int) == 0) && (((y31.1.Lo : Int) == 0) && true)))) then (bi (m_lanelaw1_named 400) fun y39 => some y39) else (some false)) fun q36 => some q36) else (bi (m_laneref1_AddrOfBack 400 name) fun y43 => bi (bif ((((y31.2.2 : Int) == 0) && (((y31.1.Six : Bool) == y43.1.Six) && (((y31.1.Hi : Int) == y43.1.Hi) && (((y31.1.Lo : Int) == y43.1.Lo) && true)))) && ((y31.2.1 : Bool) == y43.2)) then (bi (m_lanelaw1_named 400) fun y48 => some y48) else (some false)) fun q45 => some q45)) = some true := fun a b e1 e2 => by
      rw [e1, e2]
      simp only [bi_some, bne_self_eq_false, cond_false, beq_self_eq_true, Bool.and_self, cond_true, named_okA]
    rcases backTo_any name hd with e1 | ⟨a, ha, hc, hb, e1⟩
    · rcases addrOf_any name hln with e2 | ⟨a, ha, hc, hb, e2⟩
      · exact fin _ _ e1 e2
      · exact fin _ _ (backTo_right ha hc hb hd) e2
    · exact fin _ _ e1 (addrOf_right ha hc hb hln)
  · rw [backTo_def, check_ok 398 name (by omega), hf]
    have hne : (domF name != 0) = true := by simpa using hd
    simp only [bi_some, hne, cond_true, beq_self_eq_true, Bool.not_false, Bool.and_self, named_okA]
theorem AddressesNamed_true (l : List Int) (hl : l.length ≤ 9223372036854775807) : m_lanelaw1_AddressesNamed 400 l = some true := by
  obtain ⟨a, p1, ha, q1, q2, e1⟩ := rawD l hl 0 (by decide) (by decide)
  obtain ⟨b, p2, hb, q3, q4, e2⟩ := addrD l hl p1 (by omega) (by omega)
  obtain ⟨s, s1, s2, s3⟩ := back_ok hb
  obtain ⟨r, e3⟩ := flip_ok l p2 2 hl (by omega) (by omega) (by decide) (by decide)
  obtain ⟨t, p3, t1, _, _, e4⟩ := changedD l (p2 + 1) s [48, 49, 50, 51, 52, 53, 54, 55, 56, 57, 97, 102, 46, 122] hl (by omega) (by omega) (by omega) ⟨by decide, by decide⟩
  unfold m_lanelaw1_AddressesNamed
  rw [e1, bi_some]
  simp only
  rw [back_part a ha, e2, bi_some]
  simp only
  rw [s2, bi_some, e3, bi_some]
  simp only
  cases r with
  | true =>
    simp only [cond_true, e4, bi_some]
    exact both_ok t t1
  | false =>
    simp only [cond_false, bi_some]
    exact both_ok s (by omega)
end Go.Gk
