/-
  The name of an address, two ways.
-/
import Derived.Test.YtffmljbfffojlaaGreatDoorFBase2
set_option linter.unusedVariables false
set_option linter.unusedSimpArgs false
set_option linter.unusedSectionVars false
set_option maxRecDepth 100000
namespace Go.Gk
theorem part_ok2 {x : Int} (h0 : 0 ≤ x) (h1 : x < 18446744073709551616) (w : Nat) (hw : w ≤ 8) (i : Nat) (hi : w * i ≤ 64) : ∃ y, shrZ .u64 x ((w * i : Nat) : Int) = some y ∧ bitsV .and .u64 y ((2 ^ w - 1 : Nat) : Int) = ((x.toNat / 2 ^ (w * i) % 2 ^ w : Nat) : Int) := by
  obtain ⟨X, rfl⟩ := Int.eq_ofNat_of_zero_le h0
  refine ⟨_, shr_u X (w * i) hi, ?_⟩
  have hX : X < 2 ^ 64 := by have : (2 : Nat) ^ 64 = 18446744073709551616 := by decide
                             omega
  have hp : 2 ^ w ≤ 2 ^ 8 := Nat.pow_le_pow_right (by decide) hw
  rw [and_u (Nat.lt_of_le_of_lt (Nat.div_le_self _ _) hX) (by have : (2 : Nat) ^ 8 = 256 := rfl; omega), Nat.and_two_pow_sub_one_eq_mod]
  rfl
theorem fu10 (n : Nat) (h : n < 18446744073709551616) : m_strconv_FormatUint (n : Int) 10 = some (Lib.decDigits n) := by
  show (bif decide ((10 : Int) = 10) then gd (Nat.blt n 18446744073709551616) (some (Lib.decDigits n)) else (bif decide ((10 : Int) = 16) then gd (Nat.blt n 16) (some [hexB n]) else none)) = _
  rw [nblt.2 h]
  rfl
theorem fu16 (n : Nat) (h : n < 16) : m_strconv_FormatUint (n : Int) 16 = some [hexB n] := by
  show (bif decide ((16 : Int) = 10) then gd (Nat.blt n 18446744073709551616) (some (Lib.decDigits n)) else (bif decide ((16 : Int) = 16) then gd (Nat.blt n 16) (some [hexB n]) else none)) = _
  rw [nblt.2 h]
  rfl
theorem itoa_ok (n : Nat) (h : n < 1000000) : m_strconv_Itoa (wi (n : Int)) = some (Lib.decDigits n) := by
  unfold m_strconv_Itoa
  rw [wi_id (by omega) (by omega), decide_eq_true (show -9223372036854775808 ≤ (n : Int) by omega), decide_eq_true (show (n : Int) ≤ 9223372036854775807 by omega)]
  show some (Lib.itoa n) = _
  unfold Lib.itoa
  rw [if_neg (by omega)]
  simp
theorem dd_len (n : Nat) (h : n < 256) : (Lib.decDigits n).length ≤ 3 := by
  rw [Lib.decDigits_length]
  by_cases h1 : n < 10
  · rw [Lib.nDigits_small h1]; decide
  · rw [Lib.nDigits_big h1]
    by_cases h2 : n / 10 < 10
    · rw [Lib.nDigits_small h2]; decide
    · rw [Lib.nDigits_big h2, Lib.nDigits_small (by omega)]; decide
theorem hex_tab : ∀ n : Nat, n < 16 → ∃ c : UInt8, getZ ([48, 49, 50, 51, 52, 53, 54, 55, 56, 57, 97, 98, 99, 100, 101, 102] : Str) (n : Int) = some c ∧ runeS (c.toNat : Int) = [hexB n] := by
  intro n h
  rcases (show n = 0 ∨ n = 1 ∨ n = 2 ∨ n = 3 ∨ n = 4 ∨ n = 5 ∨ n = 6 ∨ n = 7 ∨ n = 8 ∨ n = 9 ∨ n = 10 ∨ n = 11 ∨ n = 12 ∨ n = 13 ∨ n = 14 ∨ n = 15 by omega) with rfl | rfl | rfl | rfl | rfl | rfl | rfl | rfl | rfl | rfl | rfl | rfl | rfl | rfl | rfl | rfl <;> exact ⟨_, rfl, by kernel_rfl⟩
/-- Words, a dot behind each. -/
def dots (l : List Str) : Str := (l.map (· ++ [46])).flatten
theorem dots_snoc (l : List Str) (x : Str) : dots (l ++ [x]) = dots l ++ (x ++ [46]) := by simp [dots]
theorem join_dots (l : List Str) (hl : l ≠ []) (t : Str) : Lib.join l [46] ++ 46 :: t = dots l ++ t := by
  cases l with
  | nil => exact absurd rfl hl
  | cons x r =>
    rw [Lib.join_cons]
    have key : ∀ r : List Str, Lib.joinTail [46] r ++ 46 :: t = 46 :: (dots r ++ t) := by
      intro r
      induction r with
      | nil => rfl
      | cons y r ih =>
        have e : Lib.joinTail [46] (y :: r) = 46 :: (y ++ Lib.joinTail [46] r) := by simp [Lib.joinTail]
        rw [e]
        simp only [List.cons_append, List.append_assoc, ih]
        simp [dots]
    rw [List.append_assoc, key]
    simp [dots]
theorem join_le (l : List Str) : (Lib.join l [46]).length ≤ (dots l).length := by
  by_cases h : l = []
  · subst h; decide
  · have := congrArg List.length (join_dots l h [])
    simp at this
    omega
theorem join_okM (l : List Str) (h1 : l.length ≤ 1000) (h2 : (dots l).length ≤ 1000) : m_strings_Join l [46] = some (Lib.join l [46]) := by
  have := join_le l
  unfold m_strings_Join
  rw [Nat.ble_eq_true_of_le (show l.length ≤ 4294967296 by omega), Nat.ble_eq_true_of_le (show (Lib.join l [46]).length ≤ 1099511627776 by omega)]
  rfl
/-- Sixteen digits of a word, the last one first. -/
theorem hex_loop {x : Int} (h0 : 0 ≤ x) (h1 : x < 18446744073709551616) (L : List Str) (hL : L.length ≤ 100) (hd : (dots L).length ≤ 400) :
    ∃ L', loopM (σ := (List Str) × Int) (ρ := List Str) (fun s39 => bif decide ((s39.2 : Int) < 16) then (bi (shrZ .u64 x (wi (4 * s39.2))) fun y49 => bi (m_strconv_FormatUint (bitsV .and .u64 y49 15) 16) fun y51 => bi (apd s39.1 [y51]) fun y53 => some (.go (y53, wi (s39.2 + 1)))) else (some (.out s39.1))) 400 (L, 0) = some L' ∧
      loopM (σ := Str × Int) (ρ := Str) (fun s37 => bif decide ((s37.2 : Int) < 16) then (bi (shrZ .u64 x (wi (4 * s37.2))) fun y47 => bi (getZ ([48, 49, 50, 51, 52, 53, 54, 55, 56, 57, 97, 98, 99, 100, 101, 102] : Str) (bitsV .and .u64 y47 15)) fun c49 => bi (catZ (runeS (c49.toNat : Int)) [46]) fun y51 => bi (catZ s37.1 y51) fun y53 => some (.go (y53, wi (s37.2 + 1)))) else (some (.out s37.1))) 400 (dots L, 0) = some (dots L') ∧ L'.length = L.length + 16 ∧ (dots L').length = (dots L).length + 32 := by
  obtain ⟨r, q, e1, e2, e3, e4, e5⟩ := loopM_two (f := fun s39 => bif decide ((s39.2 : Int) < 16) then (bi (shrZ .u64 x (wi (4 * s39.2))) fun y49 => bi (m_strconv_FormatUint (bitsV .and .u64 y49 15) 16) fun y51 => bi (apd s39.1 [y51]) fun y53 => some (.go (y53, wi (s39.2 + 1)))) else (some (.out s39.1)))
    (g := fun s37 => bif decide ((s37.2 : Int) < 16) then (bi (shrZ .u64 x (wi (4 * s37.2))) fun y47 => bi (getZ ([48, 49, 50, 51, 52, 53, 54, 55, 56, 57, 97, 98, 99, 100, 101, 102] : Str) (bitsV .and .u64 y47 15)) fun c49 => bi (catZ (runeS (c49.toNat : Int)) [46]) fun y51 => bi (catZ s37.1 y51) fun y53 => some (.go (y53, wi (s37.2 + 1)))) else (some (.out s37.1)))
    (fun s t => ∃ (i : Nat) (M : List Str), i ≤ 16 ∧ s = (M, (i : Int)) ∧ t = (dots M, (i : Int)) ∧ M.length = L.length + i ∧ (dots M).length = (dots L).length + 2 * i) (fun s => (16 - s.2).toNat)
    (fun r q => q = dots r ∧ r.length = L.length + 16 ∧ (dots r).length = (dots L).length + 32)
    (by
      rintro s t ⟨i, M, hi, rfl, rfl, hM, hM2⟩
      by_cases h16 : i = 16
      · subst h16
        exact .inl ⟨M, dots M, rfl, rfl, rfl, hM, hM2⟩
      · obtain ⟨y, y1, y2⟩ := part_ok2 h0 h1 4 (by decide) i (by omega)
        have hw : wi (4 * (i : Int)) = ((4 * i : Nat) : Int) := by rw [wi_id (by omega) (by omega)]; omega
        obtain ⟨B, hB⟩ : ∃ B, B = x.toNat / 2 ^ (4 * i) % 2 ^ 4 := ⟨_, rfl⟩
        have y3 : bitsV .and .u64 y 15 = ((x.toNat / 2 ^ (4 * i) % 2 ^ 4 : Nat) : Int) := y2
        have hlt : x.toNat / 2 ^ (4 * i) % 2 ^ 4 < 16 := Nat.mod_lt _ (by decide)
        rw [← hB] at y3 hlt
        clear y2
        obtain ⟨c, c1, c2⟩ := hex_tab _ hlt
        have hnx : wi ((i : Int) + 1) = ((i + 1 : Nat) : Int) := by rw [wi_id (by omega) (by omega)]; omega
        refine .inr ⟨(M ++ [[hexB B]], ((i + 1 : Nat) : Int)), (dots M ++ ([hexB B] ++ [46]), ((i + 1 : Nat) : Int)), ?_, ?_, ⟨i + 1, _, by omega, rfl, by rw [dots_snoc], by simp; omega, by rw [dots_snoc]; simp; omega⟩, by simp only; omega⟩
        · simp only
          rw [decide_eq_true (show (i : Int) < 16 by omega), hw]
          simp only [cond_true, y1, bi_some, y3, fu16 _ hlt, apd_some (show M.length + [[hexB B]].length ≤ 4294967296 by simp; omega), hnx]
        · simp only
          rw [decide_eq_true (show (i : Int) < 16 by omega), hw]
          simp only [cond_true, y1, bi_some, y3]
          rw [c1]
          simp only [bi_some, c2]
          rw [cat_ok (by simp), bi_some, cat_ok (by simp; omega), bi_some, hnx])
    400 (L, 0) (dots L, 0) (show ((16 : Int) - 0).toNat < 400 by decide) ⟨0, L, by omega, rfl, rfl, by omega, by omega⟩
  subst e3
  exact ⟨r, e1, e2, e4, e5⟩
theorem dec_loop {x : Int} (h0 : 0 ≤ x) (h1 : x < 18446744073709551616) :
    ∃ L', loopM (σ := (List Str) × Int) (ρ := List Str) (fun s3 => bif decide ((s3.2 : Int) < 4) then (bi (shrZ .u64 x (wi (8 * s3.2))) fun y13 => bi (m_strconv_FormatUint (bitsV .and .u64 y13 255) 10) fun y15 => bi (apd s3.1 [y15]) fun y17 => some (.go (y17, wi (s3.2 + 1)))) else (some (.out s3.1))) 400 (([] : List Str), 0) = some L' ∧
      loopM (σ := Str × Int) (ρ := Str) (fun s3 => bif decide ((s3.2 : Int) < 4) then (bi (shrZ .u64 x (wi (8 * s3.2))) fun y13 => bi (m_strconv_Itoa (wi (bitsV .and .u64 y13 255))) fun y15 => bi (catZ y15 [46]) fun y17 => bi (catZ s3.1 y17) fun y19 => some (.go (y19, wi (s3.2 + 1)))) else (some (.out s3.1))) 400 ([], 0) = some (dots L') ∧ L'.length = 4 ∧ (dots L').length ≤ 16 := by
  obtain ⟨r, q, e1, e2, e3, e4, e5⟩ := loopM_two (f := fun s3 => bif decide ((s3.2 : Int) < 4) then (bi (shrZ .u64 x (wi (8 * s3.2))) fun y13 => bi (m_strconv_FormatUint (bitsV .and .u64 y13 255) 10) fun y15 => bi (apd s3.1 [y15]) fun y17 => some (.go (y17, wi (s3.2 + 1)))) else (some (.out s3.1)))
    (g := fun s3 => bif decide ((s3.2 : Int) < 4) then (bi (shrZ .u64 x (wi (8 * s3.2))) fun y13 => bi (m_strconv_Itoa (wi (bitsV .and .u64 y13 255))) fun y15 => bi (catZ y15 [46]) fun y17 => bi (catZ s3.1 y17) fun y19 => some (.go (y19, wi (s3.2 + 1)))) else (some (.out s3.1)))
    (fun s t => ∃ (i : Nat) (M : List Str), i ≤ 4 ∧ s = (M, (i : Int)) ∧ t = (dots M, (i : Int)) ∧ M.length = i ∧ (dots M).length ≤ 4 * i) (fun s => (4 - s.2).toNat)
    (fun r q => q = dots r ∧ r.length = 4 ∧ (dots r).length ≤ 16)
    (by
      rintro s t ⟨i, M, hi, rfl, rfl, hM, hM2⟩
      by_cases h16 : i = 4
      · subst h16
        exact .inl ⟨M, dots M, rfl, rfl, rfl, hM, hM2⟩
      · obtain ⟨y, y1, y2⟩ := part_ok2 h0 h1 8 (by decide) i (by omega)
        have hw : wi (8 * (i : Int)) = ((8 * i : Nat) : Int) := by rw [wi_id (by omega) (by omega)]; omega
        obtain ⟨B, hB⟩ : ∃ B, B = x.toNat / 2 ^ (8 * i) % 2 ^ 8 := ⟨_, rfl⟩
        have y3 : bitsV .and .u64 y 255 = ((x.toNat / 2 ^ (8 * i) % 2 ^ 8 : Nat) : Int) := y2
        have hlt : x.toNat / 2 ^ (8 * i) % 2 ^ 8 < 256 := Nat.mod_lt _ (by decide)
        rw [← hB] at y3 hlt
        clear y2
        have hdl := dd_len _ hlt
        have hnx : wi ((i : Int) + 1) = ((i + 1 : Nat) : Int) := by rw [wi_id (by omega) (by omega)]; omega
        refine .inr ⟨(M ++ [Lib.decDigits B], ((i + 1 : Nat) : Int)), (dots M ++ (Lib.decDigits B ++ [46]), ((i + 1 : Nat) : Int)), ?_, ?_, ⟨i + 1, _, by omega, rfl, by rw [dots_snoc], by simp; omega, by rw [dots_snoc]; simp; omega⟩, by simp only; omega⟩
        · simp only
          rw [decide_eq_true (show (i : Int) < 4 by omega), hw]
          simp only [cond_true, y1, bi_some, y3, fu10 _ (show B < 18446744073709551616 by omega), apd_some (show M.length + [Lib.decDigits B].length ≤ 4294967296 by simp; omega), hnx]
        · simp only
          rw [decide_eq_true (show (i : Int) < 4 by omega), hw]
          simp only [cond_true, y1, bi_some, y3, itoa_ok _ (show B < 1000000 by omega)]
          rw [cat_ok (by simp; omega), bi_some, cat_ok (by simp; omega), bi_some, hnx])
    400 (([] : List Str), 0) ([], 0) (by decide) ⟨0, [], by omega, rfl, rfl, rfl, by decide⟩
  subst e3
  exact ⟨r, e1, e2, e4, e5⟩
theorem back_ok {a : T_api_Addr} (h : AOk a) : ∃ s, m_name_back 400 a = some s ∧ m_laneref1_BackName 400 a = some s ∧ s.length ≤ 80 := by
  unfold m_name_back m_laneref1_BackName
  cases hs : a.Six with
  | false =>
    obtain ⟨L, l1, l2, l3, l4⟩ := dec_loop h.l0 h.l1
    simp only [Bool.not_false, cond_true, l1, l2, bi_some]
    have hne : L ≠ [] := by rintro rfl; cases l3
    have hj := join_le L
    rw [join_okM L (by omega) (by omega), bi_some, cat_ok (by simp; omega), bi_some, cat_ok (by simp; omega), bi_some]
    refine ⟨_, rfl, congrArg some ?_, ?_⟩
    · exact (join_dots L hne [105, 110, 45, 97, 100, 100, 114, 46, 97, 114, 112, 97]).symm
    · simp; omega
  | true =>
    simp only [Bool.not_true, cond_false]
    obtain ⟨L, l1, l2, l3, l4⟩ := hex_loop h.l0 h.l1 [] (by decide) (by decide)
    obtain ⟨L2, k1, k2, k3, k4⟩ := hex_loop h.h0 h.h1 L (by simp at l3; omega) (by rw [l4]; decide)
    have d0 : (dots ([] : List Str)).length = 0 := rfl
    have hp : loopM (σ := (List Str) × Int) (ρ := List Str) (fun s26 => bif decide ((s26.2 : Int) < 2) then (bi (getZ ([a.Lo, a.Hi] : List Int) s26.2) fun x36 => bi (loopM (σ := (List Str) × Int) (ρ := List Str) (fun s39 => bif decide ((s39.2 : Int) < 16) then (bi (shrZ .u64 x36 (wi (4 * s39.2))) fun y49 => bi (m_strconv_FormatUint (bitsV .and .u64 y49 15) 16) fun y51 => bi (apd s39.1 [y51]) fun y53 => some (.go (y53, wi (s39.2 + 1)))) else (some (.out s39.1))) 400 (s26.1, 0)) fun q41 => some (.go (q41, wi (s26.2 + 1)))) else (some (.out s26.1))) 400 (([] : List Str), 0) = some L2 := by
      rw [show (400 : Nat) = 399 + 1 from rfl]
      conv => lhs; unfold loopM
      simp only
      rw [decide_eq_true (show (0 : Int) < 2 by decide), show getZ ([a.Lo, a.Hi] : List Int) 0 = some a.Lo from rfl]
      simp only [cond_true, bi_some]
      rw [show (399 + 1 : Nat) = 400 from rfl, l1]
      simp only [bi_some]
      rw [show wi ((0 : Int) + 1) = 1 from by decide, show (399 : Nat) = 398 + 1 from rfl]
      conv => lhs; unfold loopM
      simp only
      rw [decide_eq_true (show (1 : Int) < 2 by decide), show getZ ([a.Lo, a.Hi] : List Int) 1 = some a.Hi from rfl]
      simp only [cond_true, bi_some]
      rw [k1]
      simp only [bi_some]
      rw [show wi ((1 : Int) + 1) = 2 from by decide, show (398 : Nat) = 397 + 1 from rfl]
      conv => lhs; unfold loopM
      simp only
      rw [decide_eq_false (show ¬ (2 : Int) < 2 by decide)]
      rfl
    rw [hp]
    simp only [bi_some, rangeF]
    rw [show dots ([] : List Str) = [] from rfl] at l2
    rw [l2]
    simp only [bi_some]
    rw [k2]
    simp only [bi_some]
    have hl2 : L2.length = 32 := by rw [k3, l3]; rfl
    have hd2 : (dots L2).length = 64 := by rw [k4, l4]; rfl
    have hne : L2 ≠ [] := by rintro rfl; cases hl2
    have hj := join_le L2
    rw [join_okM L2 (by omega) (by omega), bi_some, cat_ok (by simp; omega), bi_some, cat_ok (by simp; omega), bi_some]
    refine ⟨_, rfl, congrArg some ?_, ?_⟩
    · exact (join_dots L2 hne [105, 112, 54, 46, 97, 114, 112, 97]).symm
    · simp; omega
end Go.Gk
