/-
  BackTo: of a name of an address the address; of another one nothing.
-/
import Derived.Test.YtffmljbfffojlaaGreatDoorFName
set_option linter.unusedVariables false
set_option linter.unusedSimpArgs false
set_option maxRecDepth 100000
namespace Go.Gk
theorem cut_cases (s p : Str) (hs : s.length ≤ 1000000) (hp : p.length ≤ 100) : (∃ u, s = u ++ p ∧ m_strings_CutSuffix s p = some (u, true)) ∨ (¬ p <:+ s ∧ m_strings_CutSuffix s p = some (s, false)) := by
  unfold m_strings_CutSuffix m_internal_stringslite_CutSuffix m_internal_stringslite_HasSuffix
  by_cases hlen : p.length ≤ s.length
  · have hw : wi ((s.length : Int) - (p.length : Int)) = ((s.length - p.length : Nat) : Int) := by rw [wi_id (by omega) (by omega)]; omega
    have e1 : subZ s ((s.length - p.length : Nat) : Int) (s.length : Int) = some (s.drop (s.length - p.length)) := by rw [subZ_cast (by omega) (by omega), List.take_length]
    have e2 : subZ s 0 ((s.length - p.length : Nat) : Int) = some (s.take (s.length - p.length)) := by
      have := subZ_cast (l := s) (i := 0) (j := s.length - p.length) (by omega) (by omega)
      simpa using this
    rw [decide_eq_true (show (s.length : Int) ≥ (p.length : Int) by omega), hw]
    simp only [cond_true, e1, bi_some]
    by_cases he : s.drop (s.length - p.length) = p
    · rw [beq_iff_eq.2 he]
      simp only [Bool.not_true, cond_false, e2, bi_some]
      refine .inl ⟨_, ?_, rfl⟩
      have := List.take_append_drop (s.length - p.length) s
      rw [he] at this
      exact this.symm
    · rw [beq_eq_false_iff_ne.2 he]
      exact .inr ⟨fun h => he (List.suffix_iff_eq_drop.1 h).symm, rfl⟩
  · rw [decide_eq_false (show ¬ (s.length : Int) ≥ (p.length : Int) by omega)]
    exact .inr ⟨fun h => hlen h.length_le, rfl⟩
def btCore (k : Nat) (name q7 : Str) (six : Bool) : Option (T_api_Addr × Bool × Int) :=
  bi (m_strings_Split q7 [46]) fun y13 => bi (m_slices_Reverse_string_string k y13) fun y15 => gd (decide (y15.length = y13.length)) (bi (bif six then (some (16, 4)) else (some (10, 8))) fun q19 => bi (gd (decide ((y15.length : Int) ≤ 9223372036854775807)) (rangeI (σ := T_api_Addr) (ρ := T_api_Addr × Bool × Int) (btF y15 q19.1 q19.2) (y15.length : Int) (⟨six, 0, 0⟩ : T_api_Addr))) fun q => goI q fun a28 => bi (m_addr_CheckAddr a28) fun y51 => bi (bif (y51 : Int) != 0 then (some true) else (bi (m_name_back k a28) fun y57 => some (!((y57 : Str) == name)))) fun q53 => bif q53 then (some ((⟨false, 0, 0⟩ : T_api_Addr), false, 0)) else (some (a28, true, 0)))
theorem backTo_def (k : Nat) (name : Str) : m_name_BackTo k name = bi (m_name_CheckDomain k name) fun y1 => bif (y1 : Int) != 0 then (some ((⟨false, 0, 0⟩ : T_api_Addr), false, y1)) else (bi (m_strings_CutSuffix name (46 :: sfx6)) fun y5 => bi (bif !y5.2 then (bi (m_strings_CutSuffix name (46 :: sfx4)) fun y10 => some y10.1) else (some y5.1)) fun q7 => btCore k name q7 y5.2) := rfl
theorem splitK_len (sep : List UInt8) : ∀ (k : Nat) (s : List UInt8), (Lib.splitK sep 0 k s).length ≤ k + 1
  | 0, s => Nat.le_refl _
  | k + 1, s => by
    unfold Lib.splitK
    split
    · simp
    · have := splitK_len sep k (s.drop ((Lib.index s sep).toNat + sep.length))
      simp only [List.length_cons]
      omega
theorem split_len (s : Str) : (Lib.split s [46]).length ≤ s.length + 1 := by
  unfold Lib.split
  have h1 := splitK_len [46] (Lib.count s [46]) s
  rw [Lib.count_one] at h1 ⊢
  have := List.count_le_length (a := (46 : UInt8)) (l := s)
  omega
theorem split_m (s : Str) (h : s.length ≤ 300) : m_strings_Split s [46] = some (Lib.split s [46]) := by
  show gd (Nat.blt s.length 4294967281) _ = _
  rw [show Nat.blt s.length 4294967281 = true from nblt.2 (by omega)]
  rfl
theorem ca_cases (a : T_api_Addr) : m_addr_CheckAddr a = some 3 ∨ m_addr_CheckAddr a = some 0 := by
  unfold m_addr_CheckAddr
  cases ((!a.Six) && (((a.Hi : Int) != 0) || (decide ((a.Lo : Int) ≥ 4294967296)))) with
  | true => exact .inl rfl
  | false => exact .inr rfl
theorem core_any (name u : Str) (six : Bool) (hu : u.length ≤ 253) : btCore 400 name u six = some noB ∨ ∃ a, AOk a ∧ m_addr_CheckAddr a = some 0 ∧ m_name_back 400 a = some name ∧ btCore 400 name u six = some (a, true, 0) := by
  have hsl := split_len u
  have hrl : (Lib.split u [46]).reverse.length = (Lib.split u [46]).length := List.length_reverse
  unfold btCore
  rw [split_m u (by omega), bi_some, reverse_ok _ (by omega), bi_some, hrl, decide_eq_true rfl, show ∀ m : Option (T_api_Addr × Bool × Int), gd true m = m from fun _ => rfl]
  have hbw : ∃ b w : Int, (b = 16 ∧ w = 4 ∨ b = 10 ∧ w = 8) ∧ (bif six then (some ((16 : Int), (4 : Int))) else (some (10, 8))) = some (b, w) := by
    cases six with
    | true => exact ⟨16, 4, .inl ⟨rfl, rfl⟩, rfl⟩
    | false => exact ⟨10, 8, .inr ⟨rfl, rfl⟩, rfl⟩
  obtain ⟨b, w, hbw, hq⟩ := hbw
  rw [hq, bi_some, decide_eq_true (show ((Lib.split u [46]).length : Int) ≤ 9223372036854775807 by omega), show ∀ m : Option (LS T_api_Addr (T_api_Addr × Bool × Int)), gd true m = m from fun _ => rfl]
  have hx : ∀ x ∈ (Lib.split u [46]).reverse, x.length ≤ 300 := fun x hx => by
    have := split_le u x (List.mem_reverse.1 hx)
    omega
  have hany := bt_any six b w hbw _ hx
  rw [hrl] at hany
  rcases hany with ⟨a, h1, h2, _⟩ | h1
  · rw [h1, bi_some]
    show (bi (m_addr_CheckAddr a) _ = _) ∨ _
    show (bi (m_addr_CheckAddr a) _ = _) ∨ ∃ a', _ ∧ _ ∧ _ ∧ bi (m_addr_CheckAddr a) _ = _
    rcases ca_cases a with hc | hc
    · rw [hc]
      exact .inl rfl
    · obtain ⟨s, s1, s2, s3⟩ := back_ok h2
      rw [hc]
      simp only [bi_some, s1]
      by_cases he : s = name
      · subst he
        refine .inr ⟨a, h2, hc, s1, ?_⟩
        simp
      · refine .inl ?_
        rw [beq_eq_false_iff_ne.2 he]
        rfl
  · rw [h1]
    exact .inl rfl
theorem lo_small {a : T_api_Addr} (h : AOk a) (hs : a.Six = false) (hc : m_addr_CheckAddr a = some 0) : a.Hi = 0 ∧ a.Lo < 4294967296 := by
  unfold m_addr_CheckAddr at hc
  rw [hs] at hc
  by_cases h1 : a.Hi = 0
  · by_cases h2 : a.Lo < 4294967296
    · exact ⟨h1, h2⟩
    · rw [decide_eq_true (show a.Lo ≥ 4294967296 by omega)] at hc
      simp at hc
  · rw [show (a.Hi != 0) = true by simpa using h1] at hc
    simp at hc
def labs (a : T_api_Addr) : List Str := if a.Six then hexL (a.Hi.toNat * 2 ^ 64 + a.Lo.toNat) 32 else decL a.Lo.toNat 4
theorem labs_nodot (a : T_api_Addr) : ∀ y ∈ labs a, ∀ c ∈ y, c ≠ 46 := by
  unfold labs
  split
  · exact hexL_nodot _ _
  · exact decL_nodot _ _
theorem labs_ne (a : T_api_Addr) : labs a ≠ [] := by
  unfold labs
  split <;> simp [hexL, decL]
def sfx (a : T_api_Addr) : Str := if a.Six then sfx6 else sfx4
theorem name_is {a : T_api_Addr} (h : AOk a) {name : Str} (hb : m_name_back 400 a = some name) : name = dots (labs a) ++ sfx a := by
  obtain ⟨s, s1, s2, s3⟩ := back_ok h
  rw [hb] at s1
  obtain rfl := Option.some.inj s1
  unfold labs sfx
  cases hs : a.Six with
  | true =>
    have := bn6 h hs
    rw [s2] at this
    have h64 : a.Lo.toNat < 2 ^ 64 := by have := h.l1; have := h.l0; omega
    rw [Option.some.inj this, hexL_N _ _ h64]
    rfl
  | false =>
    have := bn4 h hs
    rw [s2] at this
    exact Option.some.inj this
theorem core_right {a : T_api_Addr} (h : AOk a) (hc : m_addr_CheckAddr a = some 0) {name : Str} (hb : m_name_back 400 a = some name) (hl : (Lib.join (labs a) [46]).length ≤ 253) : btCore 400 name (Lib.join (labs a) [46]) a.Six = some (a, true, 0) := by
  have hll : (labs a).length ≤ 32 := by unfold labs; split <;> simp [hexL, decL]
  have hrl : (labs a).reverse.length = (labs a).length := List.length_reverse
  have hgo : ∃ b w : Int, (bif a.Six then (some ((16 : Int), (4 : Int))) else (some (10, 8))) = some (b, w) ∧ rangeI (btF (labs a).reverse b w) ((labs a).length : Int) ⟨a.Six, 0, 0⟩ = some (.go a) := by
    cases hs : a.Six with
    | true =>
      have hN : a.Hi.toNat * 2 ^ 64 + a.Lo.toNat < 2 ^ (4 * 32) := by have := h.h1; have := h.l1; have := h.l0; have := h.h0; omega
      have ha : adN true (a.Hi.toNat * 2 ^ 64 + a.Lo.toNat) = a := by
        have := h.h1; have := h.l1; have := h.l0; have := h.h0
        obtain ⟨f, x, y⟩ := a
        simp only at *
        subst hs
        unfold adN
        congr 1 <;> omega
      have hlabs : labs a = hexL (a.Hi.toNat * 2 ^ 64 + a.Lo.toNat) 32 := by unfold labs; rw [if_pos hs]
      refine ⟨16, 4, rfl, ?_⟩
      have hlp := bt_loop true 4 32 (a.Hi.toNat * 2 ^ 64 + a.Lo.toNat) 16 (.inl rfl) (labs a).reverse (by rw [hrl, hlabs]; simp [hexL]) hN (by decide) (fun i x hx => by
        have hi : i < 32 := by have := (List.getElem?_eq_some_iff.1 hx).1; rw [hrl, hlabs] at this; simpa [hexL] using this
        rw [List.getElem?_reverse (by rw [hlabs]; simpa [hexL] using hi), hlabs] at hx
        simp only [hexL, List.getElem?_map, List.length_map, List.length_range] at hx
        rw [List.getElem?_range (by omega)] at hx
        simp only [Option.map_some, Option.some.injEq] at hx
        subst hx
        exact pu_hex ⟨_ % 2 ^ 4, Nat.mod_lt _ (by decide)⟩)
      rw [ha, hrl] at hlp
      exact hlp
    | false =>
      obtain ⟨hh, hlo⟩ := lo_small h hs hc
      have hN : a.Lo.toNat < 2 ^ (8 * 4) := by have := h.l0; omega
      have ha : adN false a.Lo.toNat = a := by
        have := h.l1; have := h.l0
        obtain ⟨f, x, y⟩ := a
        simp only at *
        subst hs
        unfold adN
        congr 1 <;> omega
      have hlabs : labs a = decL a.Lo.toNat 4 := by unfold labs; rw [if_neg (by rw [hs]; decide)]
      refine ⟨10, 8, rfl, ?_⟩
      have hlp := bt_loop false 8 4 a.Lo.toNat 10 (.inr rfl) (labs a).reverse (by rw [hrl, hlabs]; simp [decL]) hN (by decide) (fun i x hx => by
        have hi : i < 4 := by have := (List.getElem?_eq_some_iff.1 hx).1; rw [hrl, hlabs] at this; simpa [decL] using this
        rw [List.getElem?_reverse (by rw [hlabs]; simpa [decL] using hi), hlabs] at hx
        simp only [decL, List.getElem?_map, List.length_map, List.length_range] at hx
        rw [List.getElem?_range (by omega)] at hx
        simp only [Option.map_some, Option.some.injEq] at hx
        subst hx
        exact pu_dec ⟨_ % 2 ^ 8, Nat.mod_lt _ (by decide)⟩)
      rw [ha, hrl] at hlp
      exact hlp
  obtain ⟨b, w, hq, hgo⟩ := hgo
  unfold btCore
  rw [split_m _ (by omega), bi_some, split_join (labs_ne a) (labs_nodot a), reverse_ok _ (by omega), bi_some, hrl, decide_eq_true rfl, show ∀ m : Option (T_api_Addr × Bool × Int), gd true m = m from fun _ => rfl, hq, bi_some,
    decide_eq_true (show ((labs a).length : Int) ≤ 9223372036854775807 by omega), show ∀ m : Option (LS T_api_Addr (T_api_Addr × Bool × Int)), gd true m = m from fun _ => rfl]
  simp only
  rw [hgo, bi_some]
  show bi (m_addr_CheckAddr a) _ = _
  rw [hc]
  simp only [bi_some, hb]
  simp
theorem dom_len {name : Str} (hd : domF name = 0) : name.length ≤ 253 := by
  unfold domF at hd
  split at hd
  · cases hd
  · omega
theorem backTo_any (name : Str) (hd : domF name = 0) : m_name_BackTo 400 name = some noB ∨ ∃ a, AOk a ∧ m_addr_CheckAddr a = some 0 ∧ m_name_back 400 a = some name ∧ m_name_BackTo 400 name = some (a, true, 0) := by
  have hl := dom_len hd
  rw [backTo_def, check_ok 398 name (by omega), hd, bi_some]
  simp only [bne_self_eq_false, cond_false]
  rcases cut_cases name (46 :: sfx6) (by omega) (by decide) with ⟨u, hu, e⟩ | ⟨_, e⟩
  · rw [e, bi_some]
    exact core_any name u true (by have := congrArg List.length hu; simp only [List.length_append] at this; omega)
  · rw [e, bi_some]
    rcases cut_cases name (46 :: sfx4) (by omega) (by decide) with ⟨u, hu, e⟩ | ⟨_, e⟩
    · simp only [Bool.not_false, cond_true, e, bi_some]
      exact core_any name u false (by have := congrArg List.length hu; simp only [List.length_append] at this; omega)
    · simp only [Bool.not_false, cond_true, e, bi_some]
      exact core_any name name false hl
theorem backTo_right {a : T_api_Addr} (h : AOk a) (hc : m_addr_CheckAddr a = some 0) {name : Str} (hb : m_name_back 400 a = some name) (hd : domF name = 0) : m_name_BackTo 400 name = some (a, true, 0) := by
  have hl := dom_len hd
  have hn : name = Lib.join (labs a) [46] ++ 46 :: sfx a := by rw [name_is h hb, join_dots _ (labs_ne a)]
  have hjl : (Lib.join (labs a) [46]).length ≤ 253 := by have := congrArg List.length hn; simp only [List.length_append] at this; omega
  have hcore := core_right h hc hb hjl
  rw [backTo_def, check_ok 398 name (by omega), hd, bi_some]
  simp only [bne_self_eq_false, cond_false]
  cases hs : a.Six with
  | true =>
    rw [hs] at hcore
    have hsf : sfx a = sfx6 := by unfold sfx; rw [if_pos hs]
    rw [hsf] at hn
    rcases cut_cases name (46 :: sfx6) (by omega) (by decide) with ⟨u, hu, e⟩ | ⟨hno, e⟩
    · rw [e, bi_some]
      have : u = Lib.join (labs a) [46] := List.append_cancel_right (hu.symm.trans hn)
      subst this
      exact hcore
    · exact absurd ⟨_, hn.symm⟩ hno
  | false =>
    rw [hs] at hcore
    have hsf : sfx a = sfx4 := by unfold sfx; rw [if_neg (by rw [hs]; decide)]
    rw [hsf] at hn
    rcases cut_cases name (46 :: sfx6) (by omega) (by decide) with ⟨u, hu, e⟩ | ⟨hno, e⟩
    · exfalso
      have h1 : (46 :: sfx6) <:+ name := ⟨u, hu.symm⟩
      have h2 : (46 :: sfx4) <:+ name := ⟨_, hn.symm⟩
      have h3 := List.suffix_of_suffix_length_le h1 h2 (by decide)
      revert h3
      decide
    · rw [e, bi_some]
      rcases cut_cases name (46 :: sfx4) (by omega) (by decide) with ⟨u, hu, e⟩ | ⟨hno, e⟩
      · have : u = Lib.join (labs a) [46] := List.append_cancel_right (hu.symm.trans hn)
        subst this
        simp only [Bool.not_false, cond_true, e, bi_some]
        exact hcore
      · exact absurd ⟨_, hn.symm⟩ hno
end Go.Gk
