/-
  The plain laws of conditions: the token that begins at a place, in both readers.
-/
import Derived.Test.YthhdojhbohfmnaaGreatDoorCLex3
set_option linter.unusedVariables false
set_option linter.unusedSimpArgs false
set_option linter.unusedSectionVars false
set_option maxRecDepth 100000
namespace Go.Gk
def SG : List Str := [[61, 61], [33, 61], [60, 61], [62, 61], [38, 38], [124, 124], [60], [62], [33], [40], [41]]
def scanRest (k : Nat) (z5 : Str) (at' : Int) (q14 : Str × Int) : Option (T_laneref1_token × Int) := bif ((decide ((q14.2 : Int) > 0)) || ((z5 : Str) == [])) then (some ((⟨q14.1, at', [], (⟨0, 0, [], (0, 0, 0, 0)⟩ : T_api_Attr)⟩ : T_laneref1_token), q14.2)) else (bi (getZ z5 0) fun c28 => bif ((c28.toNat : Int) : Int) == 34 then (bi (m_laneref1_quotedWords k z5) fun y31 => bif decide ((y31.2 : Int) > 0) then (some ((⟨[118], at', [], (⟨2, 0, y31.1, (0, 0, 0, 0)⟩ : T_api_Attr)⟩ : T_laneref1_token), y31.2)) else (some ((⟨q14.1, at', [], (⟨2, 0, y31.1, (0, 0, 0, 0)⟩ : T_api_Attr)⟩ : T_laneref1_token), y31.2))) else (bi (m_laneref1_digit z5 0) fun y36 => bi (bif y36 then (some true) else (bi (getZ z5 0) fun c42 => bi (bif ((c42.toNat : Int) : Int) == 45 then (bi (m_laneref1_digit z5 1) fun y47 => some y47) else (some false)) fun q44 => some q44)) fun q38 => bif q38 then (bi (subZ z5 1 (z5.length : Int)) fun z51 => bi (m_laneref1_span z51 [48, 49, 50, 51, 52, 53, 54, 55, 56, 57]) fun y53 => bi (subZ z5 0 (wi (1 + y53))) fun z55 => bi (m_laneref2_Number z55 9) fun y57 => bif y57.2 then (some ((⟨[118], at', [], (⟨1, y57.1, [], (0, 0, 0, 0)⟩ : T_api_Attr)⟩ : T_laneref1_token), wi (1 + y53))) else (some ((⟨q14.1, at', [], (⟨0, 0, [], (0, 0, 0, 0)⟩ : T_api_Attr)⟩ : T_laneref1_token), wi (1 + y53)))) else (bi (getZ z5 0) fun c62 => bi (bif ((c62.toNat : Int) : Int) == 118 then (bi (m_laneref1_digit z5 1) fun y67 => some y67) else (some false)) fun q64 => bif q64 then (bi (m_laneref1_versionFrom z5) fun y71 => bif decide ((y71.2 : Int) > 0) then (some ((⟨[118], at', [], y71.1⟩ : T_laneref1_token), y71.2)) else (some ((⟨q14.1, at', [], y71.1⟩ : T_laneref1_token), y71.2))) else (bi (getZ z5 0) fun c76 => bi (bif decide (((c76.toNat : Int) : Int) ≥ 97) then (bi (getZ z5 0) fun c81 => some (decide (((c81.toNat : Int) : Int) ≤ 122))) else (some false)) fun q78 => bif q78 then (bi (m_laneref1_span z5 [97, 98, 99, 100, 101, 102, 103, 104, 105, 106, 107, 108, 109, 110, 111, 112, 113, 114, 115, 116, 117, 118, 119, 120, 121, 122, 45, 95, 48, 49, 50, 51, 52, 53, 54, 55, 56, 57]) fun y85 => bi (subZ z5 0 y85) fun z87 => bi (m_slices_Index_string_string [[102, 97, 108, 115, 101], [116, 114, 117, 101]] z87) fun y89 => bif decide ((y89 : Int) ≥ 0) then (some ((⟨[102], at', z87, (⟨3, y89, [], (0, 0, 0, 0)⟩ : T_api_Attr)⟩ : T_laneref1_token), y85)) else (some ((⟨[110], at', z87, (⟨0, 0, [], (0, 0, 0, 0)⟩ : T_api_Attr)⟩ : T_laneref1_token), y85))) else (some ((⟨q14.1, at', [], (⟨0, 0, [], (0, 0, 0, 0)⟩ : T_api_Attr)⟩ : T_laneref1_token), q14.2))))))
def tokRest (k : Nat) (s : Str) (aa : Int) (c22 : UInt8) : Option T_posture_token := bi (bi (m_posture_isDigit (c22.toNat : Int)) fun y26 => bi (bif y26 then (some true) else (bi (bif ((((c22.toNat : Int) : Int) == 45) && (decide ((wi (aa + 1) : Int) < (s.length : Int)))) then (bi (getZ s (wi (aa + 1))) fun c35 => bi (m_posture_isDigit (c35.toNat : Int)) fun y37 => some y37) else (some false)) fun q32 => some q32)) fun q28 => bif q28 then (bi (m_posture_token_number k (⟨[98, 97, 100], aa, 0, [], (⟨0, 0, [], (0, 0, 0, 0)⟩ : T_api_Attr)⟩ : T_posture_token) s) fun y41 => some y41) else (bif ((c22.toNat : Int) : Int) == 34 then (bi (m_posture_token_words k (⟨[98, 97, 100], aa, 0, [], (⟨0, 0, [], (0, 0, 0, 0)⟩ : T_api_Attr)⟩ : T_posture_token) s) fun y45 => some y45) else (bi (subZ s aa (s.length : Int)) fun z48 => bi (m_posture_isVersion z48) fun y50 => bif y50 then (bi (m_posture_token_version k (⟨[98, 97, 100], aa, 0, [], (⟨0, 0, [], (0, 0, 0, 0)⟩ : T_api_Attr)⟩ : T_posture_token) s) fun y53 => some y53) else (bif ((decide (((c22.toNat : Int) : Int) ≥ 97)) && (decide (((c22.toNat : Int) : Int) ≤ 122))) then (bi (m_posture_token_word k (⟨[98, 97, 100], aa, 0, [], (⟨0, 0, [], (0, 0, 0, 0)⟩ : T_api_Attr)⟩ : T_posture_token) s) fun y57 => some y57) else (some (⟨[98, 97, 100], aa, 0, [], (⟨0, 0, [], (0, 0, 0, 0)⟩ : T_api_Attr)⟩ : T_posture_token)))))) fun q24 => some q24
theorem scan_def (k : Nat) (v_r : T_laneref1_condReader) : m_laneref1_condReader_scan k v_r = bi (subZ v_r.s v_r.v_at (v_r.s.length : Int)) fun z1 => bi (m_laneref1_span z1 [32, 10]) fun y3 => bi (subZ v_r.s (wi (v_r.v_at + y3)) (v_r.s.length : Int)) fun z5 => bi (rangeM (σ := Unit) (ρ := Str × Int) (fun i7 x9 s8 => bi (m_strings_HasPrefix z5 x9) fun y20 => bif y20 then (some (.out (x9, (x9.length : Int)))) else (some (.go ()))) 0 SG ()) fun q => bi (lsN q fun s8 => ([], 0)) fun q14 => bi (scanRest k z5 (wi (v_r.v_at + y3)) q14) fun q24 => some (⟨v_r.s, wi ((wi (v_r.v_at + y3)) + q24.2), q24.1, v_r.fault⟩ : T_laneref1_condReader) := rfl
theorem tok_def (k : Nat) (s : Str) (v_at : Int) : m_posture_tokenAt k s v_at = bif (v_at : Int) == (s.length : Int) then (some (⟨kEnd, v_at, 0, [], zA⟩ : T_posture_token)) else (bi (rangeM (σ := Unit) (ρ := T_posture_token) (fun i3 x5 s4 => bi (subZ s v_at (s.length : Int)) fun z14 => bi (m_strings_HasPrefix z14 x5) fun y16 => bif y16 then (bi (some (⟨x5, v_at, wi (v_at + (x5.length : Int)), [], (⟨0, 0, [], (0, 0, 0, 0)⟩ : T_api_Attr)⟩ : T_posture_token)) fun v => some (.out v)) else (some (.go ()))) 0 SG ()) fun q => goI q fun a8 => bi (getZ s v_at) fun c22 => tokRest k s v_at c22) := rfl
theorem rangeM_find {α ρ : Type} {f : Nat → α → Unit → Option (LS Unit ρ)} (p : α → Bool) (v : α → ρ) (hf : ∀ i x, f i x () = some (if p x then .out (v x) else .go ())) : ∀ (l : List α) (i : Nat), rangeM f i l () = some (match l.find? p with | some x => .out (v x) | none => .go ())
  | [], i => rfl
  | x :: l, i => by
    have h0 := hf i x
    rw [List.find?_cons]
    cases hp : p x with
    | true => rw [hp] at h0; simp only [rangeM, h0, if_true]
    | false => rw [hp] at h0; simp only [rangeM, h0]; exact rangeM_find p v hf l (i + 1)
/-- Two tokens that stand for the same, at the place a. -/
def TokR (s : Str) (a : Nat) (p : T_posture_token) (r : T_laneref1_token) (n : Int) : Prop :=
  p.v_at = (a : Int) ∧ r.v_at = (a : Int) ∧
    ((p.kind = kEnd ∧ r.kind = [] ∧ a = s.length) ∨ (p.kind = kBad ∧ r.kind = [] ∧ a < s.length) ∨
      ∃ m : Nat, 0 < m ∧ a + m ≤ s.length ∧ n = (m : Int) ∧ p.v_end = ((a + m : Nat) : Int) ∧
        ((p.kind ∈ SG ∧ r.kind = p.kind) ∨ (p.kind = kName ∧ r.kind = [110] ∧ r.name = p.name ∧ p.name.length ≤ 50000) ∨ (p.kind = kVal ∧ (r.kind = [118] ∨ r.kind = [102]) ∧ r.value = p.value ∧ p.value.Words.length ≤ 50000)))
def d1 (z' : Str) : Bool := match z' with
  | d :: _ => isD d
  | [] => false
theorem verB_d1 (c : UInt8) (z' : Str) : verB (c :: z') = ((c == 118) && d1 z') := by
  cases z' with
  | nil => unfold verB d1; simp
  | cons d r => rfl
theorem digit0 (c : UInt8) (z' : Str) : m_laneref1_digit (c :: z') 0 = some (isD c) := digit_ok (c :: z') 0
theorem digit1 (c : UInt8) (z' : Str) : m_laneref1_digit (c :: z') 1 = some (d1 z') := by
  refine (digit_ok (c :: z') 1).trans ?_
  cases z' <;> rfl
theorem next1 (s : Str) (a : Nat) (hs : s.length ≤ 50000) (c : UInt8) (z' : Str) (hz : s.drop a = c :: z') :
    (bif ((c == 45) && (decide ((wi ((a : Int) + 1) : Int) < (s.length : Int)))) then (bi (getZ s (wi ((a : Int) + 1))) fun c35 => bi (m_posture_isDigit (c35.toNat : Int)) fun y37 => some y37) else (some false)) = some ((c == 45) && d1 z') := by
  have hzl : (s.drop a).length = s.length - a := List.length_drop
  have ha : a < s.length := by rw [hz] at hzl; simp at hzl; omega
  rw [show wi ((a : Int) + 1) = ((a + 1 : Nat) : Int) by rw [wi_id (by omega) (by omega)]; omega]
  have h1 := rest_at (s := s) (a := a) (i := 1)
  rw [hz] at h1 hzl
  cases z' with
  | nil =>
    simp at hzl
    rw [decide_eq_false (show ¬ ((a + 1 : Nat) : Int) < (s.length : Int) by omega)]
    simp [d1]
  | cons d r =>
    simp at hzl
    rw [decide_eq_true (show ((a + 1 : Nat) : Int) < (s.length : Int) by omega), Bool.and_true]
    have : s[a + 1]? = some d := by rw [← h1]; rfl
    rw [getZ_nn this, bi_some, isD_ok, bi_some]
    cases c == 45 <;> rfl
theorem rest_two (s : Str) (a k : Nat) (hs : s.length ≤ 50000) (hk : s.length + 300 < k) (c : UInt8) (z' : Str) (hz : s.drop a = c :: z') :
    ∃ p r n, tokRest k s (a : Int) c = some p ∧ scanRest k (s.drop a) (a : Int) ([], 0) = some (r, n) ∧ 0 ≤ n ∧ n ≤ (s.drop a).length ∧ TokR s a p r n := by
  have hzl : (s.drop a).length = s.length - a := List.length_drop
  have ha : a < s.length := by rw [hz] at hzl; simp at hzl; omega
  have hc : s[a]? = some c := by
    have := rest_at (s := s) (a := a) (i := 0)
    rw [hz] at this
    simpa using this.symm
  have hz0 : 0 < (s.drop a).length := by omega
  have hg0 : getZ (s.drop a) 0 = some c := by rw [hz]; rfl
  have hd0 : m_laneref1_digit (s.drop a) 0 = some (isD c) := by rw [hz]; exact digit0 c z'
  have hd1 : m_laneref1_digit (s.drop a) 1 = some (d1 z') := by rw [hz]; exact digit1 c z'
  have hne : ((s.drop a : Str) == []) = false := by rw [hz]; rfl
  have hv : m_posture_isVersion (s.drop a) = some ((c == 118) && d1 z') := by rw [isVersion_ok, hz, verB_d1]
  have hn1 := next1 s a hs c z' hz
  have e45 : ((c.toNat : Int) == 45) = (c == 45) := u8_eq c 45 (by decide)
  have e34 : ((c.toNat : Int) == 34) = (c == 34) := u8_eq c 34 (by decide)
  have e118 : ((c.toNat : Int) == 118) = (c == 118) := u8_eq c 118 (by decide)
  unfold tokRest scanRest
  rw [isD_ok, bi_some, e45, e34, hn1, hd0, hd1, hne, hg0, sub_end (by omega)]
  simp only [show decide (((([], 0) : Str × Int).2 : Int) > 0) = false from rfl, Bool.or_self, cond_false, bi_some]
  rw [hv, e34, e45]
  simp only [bi_some]
  cases h34 : (c == 34) with
  | true =>
    obtain rfl : c = 34 := eq_of_beq h34
    rw [show isD 34 = false from by decide, show ((34 : UInt8) == 45) = false from by decide]
    simp only [Bool.false_and, cond_false, bi_some, cond_true]
    rcases words_two s a k hs ha (by omega) with ⟨w, n, h1, h2, h3, h4, h5⟩ | ⟨h1, h2⟩
    · rw [show (⟨[98, 97, 100], (a : Int), 0, [], (⟨0, 0, [], (0, 0, 0, 0)⟩ : T_api_Attr)⟩ : T_posture_token) = tBad a from rfl, h1, h2]
      simp only [bi_some]
      rw [decide_eq_true (show ((n : Int)) > 0 by omega), cond_true]
      exact ⟨_, _, _, rfl, rfl, by omega, by omega, rfl, rfl, .inr (.inr ⟨n, h3, by omega, rfl, rfl, .inr (.inr ⟨rfl, .inl rfl, rfl, h5⟩)⟩)⟩
    · rw [show (⟨[98, 97, 100], (a : Int), 0, [], (⟨0, 0, [], (0, 0, 0, 0)⟩ : T_api_Attr)⟩ : T_posture_token) = tBad a from rfl, h1, h2]
      exact ⟨_, _, _, rfl, rfl, by omega, by omega, rfl, rfl, .inr (.inl ⟨rfl, rfl, ha⟩)⟩
  | false =>
    simp only [cond_false]
    cases hnum : (isD c || ((c == 45) && d1 z')) with
    | true =>
      have hcc : (c == 45) = true ∨ isD c = true := by
        cases hD : isD c with
        | true => exact .inr rfl
        | false => rw [hD] at hnum; simp only [Bool.false_or, Bool.and_eq_true] at hnum; exact .inl hnum.1
      have hP := numberP s a k hs (by omega) c hc hcc
      have hR := numberR (s.drop a) (a : Int) [] (by omega) hz0
      have hM := numM_le hz0
      unfold refNum at hR
      have q1 : (bif isD c then (some true) else (some ((c == 45) && d1 z')) : Option Bool) = some true := by
        cases hD : isD c with
        | true => rfl
        | false => rw [hD] at hnum; rw [Bool.false_or] at hnum; rw [hnum]; rfl
      have q2 : (bif isD c then (some true) else (bi (bif (c == 45) then (some (d1 z')) else (some false)) fun q44 => some q44) : Option Bool) = some true := by
        cases hD : isD c with
        | true => rfl
        | false =>
          rw [hD] at hnum
          simp only [Bool.false_or, Bool.and_eq_true] at hnum
          rw [hnum.1, hnum.2]; rfl
      rw [q1, q2]
      simp only [bi_some, cond_true]
      rw [show (⟨[98, 97, 100], (a : Int), 0, [], (⟨0, 0, [], (0, 0, 0, 0)⟩ : T_api_Attr)⟩ : T_posture_token) = ⟨kBad, (a : Int), 0, [], zA⟩ from rfl, hP, hR]
      cases hN : numB ((s.drop a).take (numM (s.drop a))) 9 with
      | true => exact ⟨_, _, _, rfl, rfl, by omega, by omega, rfl, rfl, .inr (.inr ⟨numM (s.drop a), by unfold numM; omega, by omega, rfl, rfl, .inr (.inr ⟨rfl, .inl rfl, rfl, by simp⟩)⟩)⟩
      | false => exact ⟨_, _, _, rfl, rfl, by omega, by omega, rfl, rfl, .inr (.inl ⟨rfl, rfl, ha⟩)⟩
    | false =>
      rw [Bool.or_eq_false_iff] at hnum
      have q2 : (bif (c == 45) then (some (d1 z')) else (some false) : Option Bool) = some false := by
        have := hnum.2
        cases h : (c == 45) with
        | true => rw [h, Bool.true_and] at this; rw [this]; rfl
        | false => rfl
      rw [hnum.1, hnum.2, q2]
      simp only [cond_false, bi_some]
      rw [e118]
      cases hver : ((c == 118) && d1 z') with
      | true =>
        have q3 : (bif (c == 118) then (some (d1 z')) else (some false) : Option Bool) = some true := by
          rw [Bool.and_eq_true] at hver
          rw [hver.1, hver.2]; rfl
        rw [q3]
        simp only [cond_true, bi_some]
        rw [show (⟨[98, 97, 100], (a : Int), 0, [], (⟨0, 0, [], (0, 0, 0, 0)⟩ : T_api_Attr)⟩ : T_posture_token) = tBad a from rfl, versionP s a k hs (by omega) ha, versionR (s.drop a) (by omega) hz0]
        have hM := verM_le hz0
        cases hO : verOk (s.drop a) with
        | true =>
          simp only [if_true, bi_some]
          rw [decide_eq_true (show ((verM (s.drop a) : Int)) > 0 by unfold verM; omega), cond_true]
          exact ⟨_, _, _, rfl, rfl, by omega, by omega, rfl, rfl, .inr (.inr ⟨verM (s.drop a), by unfold verM; omega, by omega, rfl, rfl, .inr (.inr ⟨rfl, .inl rfl, rfl, by simp⟩)⟩)⟩
        | false => exact ⟨_, _, 0, rfl, rfl, by omega, by omega, rfl, rfl, .inr (.inl ⟨rfl, rfl, ha⟩)⟩
      | false =>
        have q3 : (bif (c == 118) then (some (d1 z')) else (some false) : Option Bool) = some false := by
          cases h : (c == 118) with
          | true => rw [h, Bool.true_and] at hver; rw [hver]; rfl
          | false => rfl
        rw [q3]
        simp only [cond_false, bi_some]
        have q4 : (bif decide (((c.toNat : Int) : Int) ≥ 97) then (some (decide (((c.toNat : Int) : Int) ≤ 122))) else (some false) : Option Bool) = some ((decide (((c.toNat : Int) : Int) ≥ 97)) && (decide (((c.toNat : Int) : Int) ≤ 122))) := by
          cases decide (((c.toNat : Int) : Int) ≥ 97) <;> rfl
        rw [q4]
        simp only [bi_some]
        cases hlet : ((decide (((c.toNat : Int) : Int) ≥ 97)) && (decide (((c.toNat : Int) : Int) ≤ 122))) with
        | false => exact ⟨_, _, _, rfl, rfl, by omega, by omega, rfl, rfl, .inr (.inl ⟨rfl, rfl, ha⟩)⟩
        | true =>
          have hR := wordR_ok (s.drop a) (a : Int) (by omega)
          unfold refWord at hR
          simp only [cond_true]
          rw [show (⟨[98, 97, 100], (a : Int), 0, [], (⟨0, 0, [], (0, 0, 0, 0)⟩ : T_api_Attr)⟩ : T_posture_token) = tBad a from rfl, wordP_ok s a k hs (by omega) ha, hR]
          have hM : nmM (s.drop a) ≤ (s.drop a).length := tw_le _
          have hM0 : 0 < nmM (s.drop a) := by
            unfold nmM
            rw [hz, List.takeWhile_cons]
            have : nmB c = true := by
              unfold nmB
              simp only [Bool.and_eq_true, decide_eq_true_eq] at hlet
              rw [decide_eq_true (show 97 ≤ c.toNat by omega), decide_eq_true (show c.toNat ≤ 122 by omega)]
              rfl
            rw [this]
            simp
          have hlen : ((s.drop a).take (nmM (s.drop a))).length ≤ 50000 := by rw [List.length_take]; omega
          by_cases h1 : (s.drop a).take (nmM (s.drop a)) = [116, 114, 117, 101]
          · rw [if_pos h1, if_pos h1]
            exact ⟨_, _, _, rfl, rfl, by omega, by omega, rfl, rfl, .inr (.inr ⟨nmM (s.drop a), hM0, by omega, rfl, rfl, .inr (.inr ⟨rfl, .inr rfl, rfl, by simp⟩)⟩)⟩
          · rw [if_neg h1, if_neg h1]
            by_cases h2 : (s.drop a).take (nmM (s.drop a)) = [102, 97, 108, 115, 101]
            · rw [if_pos h2, if_pos h2]
              exact ⟨_, _, _, rfl, rfl, by omega, by omega, rfl, rfl, .inr (.inr ⟨nmM (s.drop a), hM0, by omega, rfl, rfl, .inr (.inr ⟨rfl, .inr rfl, rfl, by simp⟩)⟩)⟩
            · rw [if_neg h2, if_neg h2]
              exact ⟨_, _, _, rfl, rfl, by omega, by omega, rfl, rfl, .inr (.inr ⟨nmM (s.drop a), hM0, by omega, rfl, rfl, .inr (.inl ⟨rfl, rfl, rfl, hlen⟩)⟩)⟩
theorem sg_len : ∀ g ∈ SG, 1 ≤ g.length ∧ g.length ≤ 2 := by decide
theorem pre_len {z g : Str} (h : Lib.hasPrefix z g = true) : g.length ≤ z.length := by
  unfold Lib.hasPrefix at h
  simp at h
  first | exact h.length_le | exact (List.isPrefixOf_iff_prefix.1 h).length_le | omega
/-- The token that begins at a place. -/
theorem tok_two (s : Str) (a k : Nat) (hs : s.length ≤ 50000) (hk : s.length + 300 < k) (ha : a ≤ s.length) :
    ∃ p r n q14, m_posture_tokenAt k s (a : Int) = some p ∧ bi (rangeM (σ := Unit) (ρ := Str × Int) (fun i7 x9 s8 => bi (m_strings_HasPrefix (s.drop a) x9) fun y20 => bif y20 then (some (.out (x9, (x9.length : Int)))) else (some (.go ()))) 0 SG ()) (fun q => lsN q fun s8 => (([], 0) : Str × Int)) = some q14 ∧
      scanRest k (s.drop a) (a : Int) q14 = some (r, n) ∧ 0 ≤ n ∧ n ≤ (s.drop a).length ∧ TokR s a p r n := by
  have hzl : (s.drop a).length = s.length - a := List.length_drop
  rw [tok_def, rangeM_find (fun x => Lib.hasPrefix (s.drop a) x) (fun x => (x, (x.length : Int))) (fun i x => by
    show (bi (some (Lib.hasPrefix (s.drop a) x)) fun y20 => bif y20 then (some (LS.out (σ := Unit) (x, (x.length : Int)))) else (some (.go ()))) = _
    rw [bi_some]
    cases Lib.hasPrefix (s.drop a) x <;> rfl) SG 0, bi_some]
  by_cases he : a = s.length
  · subst he
    rw [show (((s.length : Nat) : Int) == (s.length : Int)) = true by simp, cond_true, List.drop_length]
    refine ⟨_, ⟨[], (s.length : Int), [], zA⟩, 0, ([], 0), rfl, rfl, rfl, by omega, by simp, rfl, rfl, .inl ⟨rfl, rfl, rfl⟩⟩
  · have hne : (((a : Nat) : Int) == (s.length : Int)) = false := beq_eq_false_iff_ne.2 (by omega)
    rw [hne, cond_false]
    rw [rangeM_find (fun x => Lib.hasPrefix (s.drop a) x) (fun x => (⟨x, (a : Int), wi ((a : Int) + (x.length : Int)), [], zA⟩ : T_posture_token)) (fun i x => by
      rw [sub_end ha, bi_some]
      show (bi (some (Lib.hasPrefix (s.drop a) x)) fun y16 => bif y16 then _ else _) = _
      rw [bi_some]
      cases Lib.hasPrefix (s.drop a) x <;> rfl) SG 0, bi_some]
    cases hf : SG.find? (fun x => Lib.hasPrefix (s.drop a) x) with
    | some g =>
      have hp : Lib.hasPrefix (s.drop a) g = true := List.find?_some hf
      have hm : g ∈ SG := List.mem_of_find?_eq_some hf
      have hl := sg_len g hm
      have hpl := pre_len hp
      refine ⟨_, ⟨g, (a : Int), [], zA⟩, (g.length : Int), _, rfl, rfl, ?_, by omega, by omega, rfl, rfl, .inr (.inr ⟨g.length, by omega, by omega, rfl, ?_, .inl ⟨hm, rfl⟩⟩)⟩
      · unfold scanRest
        simp only
        rw [decide_eq_true (show ((g.length : Int)) > 0 by omega)]
        rfl
      · simp only
        rw [wi_id (by omega) (by omega)]
        omega
    | none =>
      cases hz : s.drop a with
      | nil => rw [hz] at hzl; simp at hzl; omega
      | cons c z' =>
        have hc : s[a]? = some c := by
          have := rest_at (s := s) (a := a) (i := 0)
          rw [hz] at this
          simpa using this.symm
        obtain ⟨p, r, n, h1, h2, h3, h4, h5⟩ := rest_two s a k hs hk c z' hz
        rw [hz] at h2 h4
        refine ⟨p, r, n, ([], 0), ?_, rfl, h2, h3, h4, h5⟩
        simp only [goI]
        rw [getZ_nn hc, bi_some]
        exact h1
/-- The readers stand alike, before a token at the place a. -/
def Alive (s : Str) (a : Nat) (p : T_posture_parser) (r : T_laneref1_condReader) : Prop :=
  p.s = s ∧ r.s = s ∧ p.bad = false ∧ r.fault = -1 ∧ a ≤ s.length ∧ ∃ n, 0 ≤ n ∧ TokR s a p.tok r.v_next n ∧ r.v_at = (a : Int) + n
/-- The next tokens. -/
theorem next_two (s : Str) (k e : Nat) (hs : s.length ≤ 50000) (hk : s.length + 300 < k) (he : e ≤ s.length) (p : T_posture_parser) (r : T_laneref1_condReader) (h1 : p.s = s) (h2 : r.s = s) (h3 : p.bad = false) (h4 : r.fault = -1) (h5 : p.tok.v_end = (e : Int)) (h6 : r.v_at = (e : Int)) :
    Two (m_posture_parser_next k p) (m_laneref1_condReader_scan k r) fun p' r' => ∃ a, e ≤ a ∧ Alive s a p' r' := by
  have hT := tw_le (p := wsB) (s.drop e)
  rw [List.length_drop] at hT
  obtain ⟨p', r', n, q14, t1, t2, t3, t4, t5, t6⟩ := tok_two s (e + ((s.drop e).takeWhile wsB).length) k hs hk (by omega)
  refine ⟨⟨s, p', p.bad, p.v_at⟩, ⟨s, ((e + ((s.drop e).takeWhile wsB).length : Nat) : Int) + n, r', r.fault⟩, ?_, ?_, e + ((s.drop e).takeWhile wsB).length, by omega, rfl, rfl, h3, h4, by omega, n, t4, t6, rfl⟩
  · unfold m_posture_parser_next
    rw [h1, h5, while_ok (s := s) (p := wsB) (fun i c hc => by
      have hlt := (List.getElem?_eq_some_iff.1 hc).1
      rw [decide_eq_true (show (i : Int) < (s.length : Int) by omega), cond_true, getZ_nn hc]
      simp only [bi_some]
      rw [wi_id (by omega) (by omega), show ((c.toNat : Int) == 32) = (c == 32) from u8_eq c 32 (by decide), show ((c.toNat : Int) == 10) = (c == 10) from u8_eq c 10 (by decide)]
      unfold wsB
      cases (c == 32) <;> cases (c == 10) <;> rfl) (by
      rw [decide_eq_false (show ¬ (s.length : Int) < (s.length : Int) by omega)]; rfl) (s.length - e) k e rfl he (by omega), bi_some, t1, bi_some]
  · rw [scan_def, h2, h6, sub_end he, bi_some, span_ok (s.drop e) [32, 10] wsB (by rw [List.length_drop]; omega) (by decide) (fun c => (cls c).1), bi_some]
    have e1 : wi ((e : Int) + (((s.drop e).takeWhile wsB).length : Int)) = ((e + ((s.drop e).takeWhile wsB).length : Nat) : Int) := by
      rw [wi_id (by omega) (by omega)]; omega
    rw [e1, sub_end (by omega), bi_some]
    cases hR : rangeM (σ := Unit) (ρ := Str × Int) (fun i7 x9 s8 => bi (m_strings_HasPrefix (s.drop (e + ((s.drop e).takeWhile wsB).length)) x9) fun y20 => bif y20 then (some (.out (x9, (x9.length : Int)))) else (some (.go ()))) 0 SG () with
    | none => rw [hR] at t2; cases t2
    | some R =>
      rw [hR, bi_some] at t2
      rw [bi_some, t2, bi_some, t3, bi_some]
      rw [List.length_drop] at t5
      rw [wi_id (by omega) (by omega)]
end Go.Gk
