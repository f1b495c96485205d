/-
  The plain laws of conditions: versions and names as tokens.
-/
import Derived.Test.YthhdojhbohfmnaaGreatDoorCLex2
set_option linter.unusedVariables false
set_option linter.unusedSimpArgs false
set_option linter.unusedSectionVars false
set_option maxRecDepth 100000
namespace Go.Gk
theorem numbers_ok (k : Nat) (hk : 100 < k) : ∀ (l : List Str), l.length ≤ 100000 → m_kit_Numbers k l = some (if l.all (fun x => numB x 9) then (l.map numV, true) else ([], false)) := by
  intro l hl
  unfold m_kit_Numbers
  have key : ∀ (l : List Str) (i : Nat) (acc : List Int), acc.length + l.length ≤ 100000 → rangeM (σ := List Int) (ρ := (List Int) × Bool) (fun i1 x3 s2 => bi (m_kit_Small k x3) fun y12 => bif !y12.2 then (bi (some ([], false)) fun v => some (.out v)) else (bi (apd s2 [y12.1]) fun y18 => some (.go y18))) i l acc =
      some (if l.all (fun x => numB x 9) then .go (acc ++ l.map numV) else .out ([], false)) := by
    intro l
    induction l with
    | nil => intro i acc _; simp [rangeM]
    | cons x l ih =>
      intro i acc h
      simp only [List.length_cons] at h
      obtain ⟨n, n1, n2⟩ := small_ok k hk x
      simp only [rangeM]
      rw [n1, bi_some, List.all_cons]
      cases hN : numB x 9 with
      | false => rfl
      | true =>
        rw [n2 hN]
        simp only [Bool.not_true, cond_false, Bool.true_and]
        rw [apd_some (by simp; omega), bi_some]
        simp only
        rw [ih (i + 1) (acc ++ [numV x]) (by simp; omega)]
        simp
  rw [key l 0 [] (by simpa using hl), bi_some]
  cases l.all (fun x => numB x 9) <;> simp [goI]
def verOf (L : List Int) : Int × Int × Int × Int := ((L[0]?).getD 0, (L[1]?).getD 0, (L[2]?).getD 0, (L[3]?).getD 0)
theorem upd_snoc (L : List Int) (v : Int) (j : Nat) : updA (L.length : Int) j v ((L[j]?).getD 0) = (((L ++ [v])[j]?).getD 0) := by
  unfold updA
  by_cases h : (L.length : Int) = (j : Int)
  · rw [if_pos h]
    obtain rfl : j = L.length := by omega
    simp
  · rw [if_neg h]
    by_cases h2 : j < L.length
    · rw [List.getElem?_append_left h2]
    · rw [List.getElem?_eq_none (by omega), List.getElem?_eq_none (by simp; omega)]
theorem verLoop_ok (l : List Str) (hl : l.length ≤ 4) (hs : ∀ x ∈ l, x.length ≤ 100000) :
    rangeM (σ := T_api_Attr) (ρ := T_api_Attr × Int) (fun i11 x13 s12 => bi (m_laneref2_Number x13 9) fun y22 => bif !y22.2 then (bi (some ((⟨0, 0, [], (0, 0, 0, 0)⟩ : T_api_Attr), 0)) fun v => some (.out v)) else (bi (getZ ([s12.Version.1, s12.Version.2.1, s12.Version.2.2.1, s12.Version.2.2.2] : List Int) (i11 : Int)) fun x28 => some (.go (⟨s12.Kind, s12.Number, s12.Words, (updA (i11 : Int) 0 y22.1 s12.Version.1, updA (i11 : Int) 1 y22.1 s12.Version.2.1, updA (i11 : Int) 2 y22.1 s12.Version.2.2.1, updA (i11 : Int) 3 y22.1 s12.Version.2.2.2)⟩ : T_api_Attr)))) 0 l (⟨4, 0, [], (0, 0, 0, 0)⟩ : T_api_Attr) =
      some (if l.all (fun x => numB x 9) then .go ⟨4, 0, [], verOf (l.map numV)⟩ else .out (⟨0, 0, [], (0, 0, 0, 0)⟩, 0)) := by
  have key : ∀ (l : List Str) (acc : List Int), acc.length + l.length ≤ 4 → (∀ x ∈ l, x.length ≤ 100000) → rangeM (σ := T_api_Attr) (ρ := T_api_Attr × Int) (fun i11 x13 s12 => bi (m_laneref2_Number x13 9) fun y22 => bif !y22.2 then (bi (some ((⟨0, 0, [], (0, 0, 0, 0)⟩ : T_api_Attr), 0)) fun v => some (.out v)) else (bi (getZ ([s12.Version.1, s12.Version.2.1, s12.Version.2.2.1, s12.Version.2.2.2] : List Int) (i11 : Int)) fun x28 => some (.go (⟨s12.Kind, s12.Number, s12.Words, (updA (i11 : Int) 0 y22.1 s12.Version.1, updA (i11 : Int) 1 y22.1 s12.Version.2.1, updA (i11 : Int) 2 y22.1 s12.Version.2.2.1, updA (i11 : Int) 3 y22.1 s12.Version.2.2.2)⟩ : T_api_Attr)))) acc.length l (⟨4, 0, [], verOf acc⟩ : T_api_Attr) =
      some (if l.all (fun x => numB x 9) then .go ⟨4, 0, [], verOf (acc ++ l.map numV)⟩ else .out (⟨0, 0, [], (0, 0, 0, 0)⟩, 0)) := by
    intro l
    induction l with
    | nil => intro acc _ _; simp [rangeM]
    | cons x l ih =>
      intro acc h hs
      simp only [List.length_cons] at h
      obtain ⟨n, n1, n2⟩ := numR x 9 (by decide) (hs x List.mem_cons_self)
      simp only [rangeM]
      rw [show (9 : Int) = ((9 : Nat) : Int) from rfl, n1, bi_some, List.all_cons]
      cases hN : numB x 9 with
      | false => rfl
      | true =>
        rw [n2 hN]
        simp only [Bool.not_true, cond_false, Bool.true_and]
        obtain ⟨y, hy⟩ : ∃ y, ([(verOf acc).1, (verOf acc).2.1, (verOf acc).2.2.1, (verOf acc).2.2.2] : List Int)[acc.length]? = some y := ⟨_, List.getElem?_eq_getElem (by simp; omega)⟩
        rw [getZ_nn hy, bi_some]
        simp only [verOf]
        rw [upd_snoc, upd_snoc, upd_snoc, upd_snoc]
        have := ih (acc ++ [numV x]) (by simp; omega) fun y hy => hs y (List.mem_cons_of_mem _ hy)
        simp only [List.length_append, List.length_cons, List.length_nil, Nat.zero_add, verOf] at this
        rw [show (((9 : Nat) : Int)) = 9 from rfl, this]
        simp
  exact (key l [] (by simpa using hl) hs).trans (by simp)
/-- How long a version may be. -/
def verM (z : Str) : Nat := 1 + ((z.drop 1).takeWhile dotB).length
theorem verM_le {z : Str} (h : 0 < z.length) : verM z ≤ z.length := by
  have := tw_le (p := dotB) (z.drop 1)
  rw [List.length_drop] at this
  unfold verM
  omega
def verP' (z : Str) : List Str := Lib.split ((z.drop 1).takeWhile dotB) [46]
def verOk (z : Str) : Bool := (verP' z).all (fun x => numB x 9) && decide ((verP' z).length ≤ 4)
theorem split_len (c : UInt8) : ∀ (n : Nat) (s : Str), s.length ≤ n → (Lib.split s [c]).length ≤ s.length + 1
  | n, s, h => by
    rcases at_or_none c s with h1 | ⟨x, t, rfl, h1⟩
    · rw [splitC_none h1]; simp
    · rw [splitC_at t h1]
      simp only [List.length_append, List.length_cons] at h ⊢
      cases n with
      | zero => omega
      | succ n =>
        have := split_len c n t (by omega)
        omega
theorem versionP (s : Str) (a k : Nat) (hs : s.length ≤ 50000) (hk : s.length + 200 < k) (ha : a < s.length) :
    m_posture_token_version k (tBad a) s = some (if verOk (s.drop a) then ⟨kVal, (a : Int), ((a + verM (s.drop a) : Nat) : Int), [], ⟨4, 0, [], verOf ((verP' (s.drop a)).map numV)⟩⟩ else ⟨kBad, (a : Int), ((a + verM (s.drop a) : Nat) : Int), [], zA⟩) := by
  have hM := verM_le (z := s.drop a) (by rw [List.length_drop]; omega)
  rw [List.length_drop] at hM
  have hT := tw_le (p := dotB) ((s.drop a).drop 1)
  rw [List.length_drop, List.length_drop] at hT
  unfold m_posture_token_version
  have e1 : wi ((tBad a).v_at + 1) = ((a + 1 : Nat) : Int) := by
    show wi ((a : Int) + 1) = _
    rw [wi_id (by omega) (by omega)]; omega
  rw [e1, while_ok (s := s) (p := dotB) (fun i c hc => by
    have hlt := (List.getElem?_eq_some_iff.1 hc).1
    rw [decide_eq_true (show (i : Int) < (s.length : Int) by omega), cond_true, getZ_nn hc]
    simp only [bi_some, isD_ok]
    rw [wi_id (by omega) (by omega), show ((c.toNat : Int) == 46) = (c == 46) from u8_eq c 46 (by decide)]
    unfold dotB
    cases isD c <;> cases (c == 46) <;> rfl) (by
    rw [decide_eq_false (show ¬ (s.length : Int) < (s.length : Int) by omega)]; rfl) (s.length - (a + 1)) k (a + 1) rfl (by omega) (by omega), bi_some]
  have e2 : a + 1 + ((s.drop (a + 1)).takeWhile dotB).length = a + verM (s.drop a) := by
    unfold verM; rw [List.drop_drop]; omega
  rw [e2]
  have e3 : subZ s ((a + 1 : Nat) : Int) ((a + verM (s.drop a) : Nat) : Int) = some (((s.drop a).drop 1).takeWhile dotB) := by
    rw [show a + verM (s.drop a) = (a + 1) + (((s.drop a).drop 1).takeWhile dotB).length by unfold verM; omega, sub_mid (by unfold verM at hM; omega), ← List.drop_drop, tw_take]
  rw [e3, bi_some, split_m 46 (by omega), bi_some]
  have hlen := split_len 46 _ (((s.drop a).drop 1).takeWhile dotB) (Nat.le_refl _)
  rw [numbers_ok k (by omega) _ (by omega), bi_some]
  rw [show Lib.split (((s.drop a).drop 1).takeWhile dotB) [46] = verP' (s.drop a) from rfl]
  unfold verOk
  generalize verP' (s.drop a) = L
  cases hall : L.all (fun x => numB x 9) with
  | false => rfl
  | true =>
    by_cases h4 : L.length ≤ 4
    · rw [decide_eq_true h4, decide_eq_false (show ¬ ((L.length : Int) : Int) > 4 by omega)]
      rfl
    · rw [decide_eq_false h4, decide_eq_true (show ((L.length : Int) : Int) > 4 by omega)]
      rfl
theorem versionR (z : Str) (hz : z.length ≤ 50000) (h0 : 0 < z.length) : m_laneref1_versionFrom z = some (if verOk z then (⟨4, 0, [], verOf ((verP' z).map numV)⟩, (verM z : Int)) else (zA, 0)) := by
  have hM := verM_le h0
  have hT := tw_le (p := dotB) (z.drop 1)
  rw [List.length_drop] at hT
  unfold m_laneref1_versionFrom
  rw [sub_one h0, bi_some, span_ok (z.drop 1) [48, 49, 50, 51, 52, 53, 54, 55, 56, 57, 46] dotB (by rw [List.length_drop]; omega) (by decide) (fun c => (cls c).2.1), bi_some]
  have e : wi (1 + (((z.drop 1).takeWhile dotB).length : Int)) = (verM z : Int) := by
    unfold verM; rw [wi_id (by omega) (by omega)]; omega
  rw [e]
  have e3 : subZ z 1 (verM z : Int) = some ((z.drop 1).takeWhile dotB) := by
    have := sub_mid (s := z) (a := 1) (m := ((z.drop 1).takeWhile dotB).length) (by unfold verM at hM; omega)
    rw [tw_take] at this
    unfold verM
    exact this
  rw [e3, bi_some, split_m 46 (by omega), bi_some]
  have hmem := (split_mem 46 _ ((z.drop 1).takeWhile dotB) (Nat.le_refl _)).1
  unfold verOk
  by_cases h4 : (verP' z).length ≤ 4
  · rw [decide_eq_true h4, decide_eq_false (show ¬ (((Lib.split ((z.drop 1).takeWhile dotB) [46]).length : Int) : Int) > 4 by unfold verP' at h4; omega)]
    simp only [cond_false, Bool.and_true]
    rw [verLoop_ok (Lib.split ((z.drop 1).takeWhile dotB) [46]) h4 (fun x hx => by have := (hmem x hx).1; omega), bi_some]
    show goI (if (verP' z).all (fun x => numB x 9) then _ else _) _ = _
    cases hall : (verP' z).all (fun x => numB x 9) with
    | false => rfl
    | true => rfl
  · rw [decide_eq_false h4, decide_eq_true (show (((Lib.split ((z.drop 1).takeWhile dotB) [46]).length : Int) : Int) > 4 by unfold verP' at h4; omega)]
    simp only [cond_true, Bool.and_false]
    rfl
/-! ### Names -/
def nmM (z : Str) : Nat := (z.takeWhile nmB).length
theorem nameByte_ok (c : UInt8) : m_posture_isNameByte (c.toNat : Int) = some (nmB c) := by
  unfold m_posture_isNameByte nmB
  rw [show decide ((c.toNat : Int) ≥ 97) = decide (97 ≤ c.toNat) from decide_eq_decide.2 (by omega), show decide ((c.toNat : Int) ≤ 122) = decide (c.toNat ≤ 122) from decide_eq_decide.2 (by omega), isD_ok, show ((c.toNat : Int) == 45) = (c == 45) from u8_eq c 45 (by decide), show ((c.toNat : Int) == 95) = (c == 95) from u8_eq c 95 (by decide)]
  cases (decide (97 ≤ c.toNat) && decide (c.toNat ≤ 122)) <;> rfl
theorem wordP_ok (s : Str) (a k : Nat) (hs : s.length ≤ 50000) (hk : s.length + 200 < k) (ha : a < s.length) :
    m_posture_token_word k (tBad a) s = some (if (s.drop a).take (nmM (s.drop a)) = [116, 114, 117, 101] then ⟨kVal, (a : Int), ((a + nmM (s.drop a) : Nat) : Int), (s.drop a).take (nmM (s.drop a)), ⟨3, 1, [], (0, 0, 0, 0)⟩⟩ else
      if (s.drop a).take (nmM (s.drop a)) = [102, 97, 108, 115, 101] then ⟨kVal, (a : Int), ((a + nmM (s.drop a) : Nat) : Int), (s.drop a).take (nmM (s.drop a)), ⟨3, 0, [], (0, 0, 0, 0)⟩⟩ else ⟨kName, (a : Int), ((a + nmM (s.drop a) : Nat) : Int), (s.drop a).take (nmM (s.drop a)), zA⟩) := by
  have hT := tw_le (p := nmB) (s.drop a)
  rw [List.length_drop] at hT
  unfold m_posture_token_word
  show bi (loopM _ k (a : Int)) _ = _
  rw [while_ok (s := s) (p := nmB) (fun i c hc => by
    have hlt := (List.getElem?_eq_some_iff.1 hc).1
    rw [decide_eq_true (show (i : Int) < (s.length : Int) by omega), cond_true, getZ_nn hc]
    simp only [bi_some, nameByte_ok]
    rw [wi_id (by omega) (by omega)]
    cases nmB c <;> rfl) (by
    rw [decide_eq_false (show ¬ (s.length : Int) < (s.length : Int) by omega)]; rfl) (s.length - a) k a rfl (by omega) (by omega), bi_some]
  show bi (subZ s (a : Int) ((a + nmM (s.drop a) : Nat) : Int)) _ = _
  rw [sub_mid (by unfold nmM; omega), bi_some]
  generalize (s.drop a).take (nmM (s.drop a)) = w
  by_cases h1 : w = [116, 114, 117, 101]
  · subst h1; rfl
  · rw [if_neg h1, show ((w : Str) == [116, 114, 117, 101]) = false by simpa using h1]
    by_cases h2 : w = [102, 97, 108, 115, 101]
    · subst h2; rfl
    · rw [if_neg h2, show ((w : Str) == [102, 97, 108, 115, 101]) = false by simpa using h2]
      rfl
def refWord (z : Str) (at' : Int) : Option (T_laneref1_token × Int) := bi (m_laneref1_span z [97, 98, 99, 100, 101, 102, 103, 104, 105, 106, 107, 108, 109, 110, 111, 112, 113, 114, 115, 116, 117, 118, 119, 120, 121, 122, 45, 95, 48, 49, 50, 51, 52, 53, 54, 55, 56, 57]) fun y85 => bi (subZ z 0 y85) fun z87 => bi (m_slices_Index_string_string [[102, 97, 108, 115, 101], [116, 114, 117, 101]] z87) fun y89 => bif decide ((y89 : Int) ≥ 0) then (some ((⟨[102], at', z87, (⟨3, y89, [], (0, 0, 0, 0)⟩ : T_api_Attr)⟩ : T_laneref1_token), y85)) else (some ((⟨[110], at', z87, (⟨0, 0, [], (0, 0, 0, 0)⟩ : T_api_Attr)⟩ : T_laneref1_token), y85))
theorem wordR_ok (z : Str) (at' : Int) (hz : z.length ≤ 50000) : refWord z at' = some (if z.take (nmM z) = [116, 114, 117, 101] then (⟨[102], at', z.take (nmM z), ⟨3, 1, [], (0, 0, 0, 0)⟩⟩, (nmM z : Int)) else
      if z.take (nmM z) = [102, 97, 108, 115, 101] then (⟨[102], at', z.take (nmM z), ⟨3, 0, [], (0, 0, 0, 0)⟩⟩, (nmM z : Int)) else (⟨[110], at', z.take (nmM z), zA⟩, (nmM z : Int))) := by
  have hT : nmM z ≤ z.length := tw_le (p := nmB) z
  unfold refWord
  rw [span_ok z _ nmB hz (by decide) (fun c => (cls c).2.2), bi_some, show (List.takeWhile nmB z).length = nmM z from rfl, sub_pre hT, bi_some]
  generalize z.take (nmM z) = w
  by_cases h1 : w = [116, 114, 117, 101]
  · subst h1; rfl
  · rw [if_neg h1]
    by_cases h2 : w = [102, 97, 108, 115, 101]
    · subst h2; rfl
    · rw [if_neg h2]
      have : m_slices_Index_string_string [[102, 97, 108, 115, 101], [116, 114, 117, 101]] w = some (-1) := by
        unfold m_slices_Index_string_string
        simp only [rangeM]
        rw [show ((w : Str) == [102, 97, 108, 115, 101]) = false by simpa using h2, show ((w : Str) == [116, 114, 117, 101]) = false by simpa using h1]
        rfl
      rw [this]
      rfl
end Go.Gk
