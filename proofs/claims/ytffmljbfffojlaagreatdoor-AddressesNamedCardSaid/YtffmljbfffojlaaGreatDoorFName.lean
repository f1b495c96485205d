/-
  The name at which the name of an address is found, told by its labels.
-/
import Derived.Test.YtffmljbfffojlaaGreatDoorFRound
set_option linter.unusedVariables false
set_option linter.unusedSimpArgs false
set_option maxRecDepth 100000
namespace Go.Gk
def decL (x i : Nat) : List Str := (List.range i).map fun j => Lib.decDigits (x / 2 ^ (8 * j) % 2 ^ 8)
def hexL (x i : Nat) : List Str := (List.range i).map fun j => [hexB (x / 2 ^ (4 * j) % 2 ^ 4)]
theorem decL_succ (x i : Nat) : decL x (i + 1) = decL x i ++ [Lib.decDigits (x / 2 ^ (8 * i) % 2 ^ 8)] := by simp [decL, List.range_succ]
theorem hexL_succ (x i : Nat) : hexL x (i + 1) = hexL x i ++ [[hexB (x / 2 ^ (4 * i) % 2 ^ 4)]] := by simp [hexL, List.range_succ]
theorem dec_bn {x : Int} (h0 : 0 ≤ x) (h1 : x < 18446744073709551616) :
    loopM (σ := Str × Int) (ρ := Str) (fun s3 => bif decide ((s3.2 : Int) < 4) then (bi (shrZ .u64 x (wi (8 * s3.2))) fun y13 => bi (m_strconv_Itoa (wi (bitsV .and .u64 y13 255))) fun y15 => bi (catZ y15 [46]) fun y17 => bi (catZ s3.1 y17) fun y19 => some (.go (y19, wi (s3.2 + 1)))) else (some (.out s3.1))) 400 ([], 0) = some (dots (decL x.toNat 4)) ∧ (dots (decL x.toNat 4)).length ≤ 16 := by
  obtain ⟨r, e1, e2, e3⟩ := loopM_inv (f := fun s3 => bif decide ((s3.2 : Int) < 4) then (bi (shrZ .u64 x (wi (8 * s3.2))) fun y13 => bi (m_strconv_Itoa (wi (bitsV .and .u64 y13 255))) fun y15 => bi (catZ y15 [46]) fun y17 => bi (catZ s3.1 y17) fun y19 => some (.go (y19, wi (s3.2 + 1)))) else (some (.out s3.1)))
    (fun (s : Str × Int) => ∃ i : Nat, i ≤ 4 ∧ s = (dots (decL x.toNat i), (i : Int)) ∧ (dots (decL x.toNat i)).length ≤ 4 * i) (fun s => (4 - s.2).toNat) (fun r => r = dots (decL x.toNat 4) ∧ (dots (decL x.toNat 4)).length ≤ 16)
    (by
      rintro s ⟨i, hi, rfl, hM2⟩
      by_cases h16 : i = 4
      · subst h16
        exact .inl ⟨_, rfl, rfl, hM2⟩
      · obtain ⟨y, y1, y2⟩ := part_ok2 h0 h1 8 (by decide) i (by omega)
        have hw : wi (8 * (i : Int)) = ((8 * i : Nat) : Int) := by rw [wi_id (by omega) (by omega)]; omega
        obtain ⟨B, hB⟩ : ∃ B, B = x.toNat / 2 ^ (8 * i) % 2 ^ 8 := ⟨_, rfl⟩
        have y3 : bitsV .and .u64 y 255 = ((x.toNat / 2 ^ (8 * i) % 2 ^ 8 : Nat) : Int) := y2
        have hlt : x.toNat / 2 ^ (8 * i) % 2 ^ 8 < 256 := Nat.mod_lt _ (by decide)
        have hsu := decL_succ x.toNat i
        rw [← hB] at y3 hlt hsu
        clear y2
        have hdl := dd_len _ hlt
        have hnx : wi ((i : Int) + 1) = ((i + 1 : Nat) : Int) := by rw [wi_id (by omega) (by omega)]; omega
        refine .inr ⟨(dots (decL x.toNat i) ++ (Lib.decDigits B ++ [46]), ((i + 1 : Nat) : Int)), ?_, ⟨i + 1, by omega, by rw [hsu, dots_snoc], by rw [hsu, dots_snoc]; simp; omega⟩, by simp only; omega⟩
        simp only
        rw [decide_eq_true (show (i : Int) < 4 by omega), hw]
        simp only [cond_true, y1, bi_some, y3, itoa_ok _ (show B < 1000000 by omega)]
        rw [cat_ok (by simp; omega), bi_some, cat_ok (by simp; omega), bi_some, hnx])
    400 ([], 0) (by decide) ⟨0, by omega, rfl, Nat.le_refl _⟩
  subst e2
  exact ⟨e1, e3⟩
theorem hex_bn {x : Int} (h0 : 0 ≤ x) (h1 : x < 18446744073709551616) (L : List Str) (hd : (dots L).length ≤ 400) :
    loopM (σ := Str × Int) (ρ := Str) (fun s37 => bif decide ((s37.2 : Int) < 16) then (bi (shrZ .u64 x (wi (4 * s37.2))) fun y47 => bi (getZ ([48, 49, 50, 51, 52, 53, 54, 55, 56, 57, 97, 98, 99, 100, 101, 102] : Str) (bitsV .and .u64 y47 15)) fun c49 => bi (catZ (runeS (c49.toNat : Int)) [46]) fun y51 => bi (catZ s37.1 y51) fun y53 => some (.go (y53, wi (s37.2 + 1)))) else (some (.out s37.1))) 400 (dots L, 0) = some (dots (L ++ hexL x.toNat 16)) ∧ (dots (L ++ hexL x.toNat 16)).length = (dots L).length + 32 := by
  obtain ⟨r, e1, e2, e3⟩ := loopM_inv (f := fun s37 => bif decide ((s37.2 : Int) < 16) then (bi (shrZ .u64 x (wi (4 * s37.2))) fun y47 => bi (getZ ([48, 49, 50, 51, 52, 53, 54, 55, 56, 57, 97, 98, 99, 100, 101, 102] : Str) (bitsV .and .u64 y47 15)) fun c49 => bi (catZ (runeS (c49.toNat : Int)) [46]) fun y51 => bi (catZ s37.1 y51) fun y53 => some (.go (y53, wi (s37.2 + 1)))) else (some (.out s37.1)))
    (fun (s : Str × Int) => ∃ i : Nat, i ≤ 16 ∧ s = (dots (L ++ hexL x.toNat i), (i : Int)) ∧ (dots (L ++ hexL x.toNat i)).length = (dots L).length + 2 * i) (fun s => (16 - s.2).toNat) (fun r => r = dots (L ++ hexL x.toNat 16) ∧ (dots (L ++ hexL x.toNat 16)).length = (dots L).length + 32)
    (by
      rintro s ⟨i, hi, rfl, hM2⟩
      by_cases h16 : i = 16
      · subst h16
        exact .inl ⟨_, rfl, rfl, hM2⟩
      · obtain ⟨y, y1, y2⟩ := part_ok2 h0 h1 4 (by decide) i (by omega)
        have hw : wi (4 * (i : Int)) = ((4 * i : Nat) : Int) := by rw [wi_id (by omega) (by omega)]; omega
        obtain ⟨B, hB⟩ : ∃ B, B = x.toNat / 2 ^ (4 * i) % 2 ^ 4 := ⟨_, rfl⟩
        have y3 : bitsV .and .u64 y 15 = ((x.toNat / 2 ^ (4 * i) % 2 ^ 4 : Nat) : Int) := y2
        have hlt : x.toNat / 2 ^ (4 * i) % 2 ^ 4 < 16 := Nat.mod_lt _ (by decide)
        have hsu := hexL_succ x.toNat i
        rw [← hB] at y3 hlt hsu
        clear y2
        obtain ⟨c, c1, c2⟩ := hex_tab _ hlt
        have hnx : wi ((i : Int) + 1) = ((i + 1 : Nat) : Int) := by rw [wi_id (by omega) (by omega)]; omega
        refine .inr ⟨(dots (L ++ hexL x.toNat i) ++ ([hexB B] ++ [46]), ((i + 1 : Nat) : Int)), ?_, ⟨i + 1, by omega, by rw [hsu, ← List.append_assoc L, dots_snoc], by rw [hsu, ← List.append_assoc L, dots_snoc]; simp only [List.length_append, List.length_cons, List.length_nil]; omega⟩, by simp only; omega⟩
        simp only
        rw [decide_eq_true (show (i : Int) < 16 by omega), hw]
        simp only [cond_true, y1, bi_some, y3]
        rw [c1]
        simp only [bi_some, c2]
        rw [cat_ok (by simp), bi_some, cat_ok (by simp only [List.length_append, List.length_cons, List.length_nil]; omega), bi_some, hnx])
    400 (dots L, 0) (show ((16 : Int) - 0).toNat < 400 by decide) ⟨0, by omega, by simp [hexL], by simp [hexL]⟩
  subst e2
  exact ⟨e1, e3⟩
def sfx4 : Str := [105, 110, 45, 97, 100, 100, 114, 46, 97, 114, 112, 97]
def sfx6 : Str := [105, 112, 54, 46, 97, 114, 112, 97]
theorem bn4 {a : T_api_Addr} (h : AOk a) (hs : a.Six = false) : m_laneref1_BackName 400 a = some (dots (decL a.Lo.toNat 4) ++ sfx4) := by
  obtain ⟨e1, e2⟩ := dec_bn h.l0 h.l1
  unfold m_laneref1_BackName
  rw [hs]
  simp only [Bool.not_false, cond_true]
  rw [e1, bi_some, cat_ok (by simp; omega), bi_some]
  rfl
theorem bn6 {a : T_api_Addr} (h : AOk a) (hs : a.Six = true) : m_laneref1_BackName 400 a = some (dots (hexL a.Lo.toNat 16 ++ hexL a.Hi.toNat 16) ++ sfx6) := by
  obtain ⟨e1, e2⟩ := hex_bn h.l0 h.l1 [] (by decide)
  have d0 : (dots ([] : List Str)).length = 0 := rfl
  obtain ⟨k1, k2⟩ := hex_bn h.h0 h.h1 ([] ++ hexL a.Lo.toNat 16) (by omega)
  unfold m_laneref1_BackName
  rw [hs]
  simp only [Bool.not_true, cond_false, rangeF]
  rw [show dots ([] : List Str) = [] from rfl] at e1
  rw [e1]
  simp only [bi_some]
  rw [k1]
  simp only [bi_some]
  rw [cat_ok (by simp only [List.length_cons, List.length_nil]; omega), bi_some]
  rfl
/-! ### Thirty-two digits -/
theorem dig_lo (H L : Nat) (hL : L < 2 ^ 64) (j : Nat) (hj : j < 16) : (H * 2 ^ 64 + L) / 2 ^ (4 * j) % 2 ^ 4 = L / 2 ^ (4 * j) % 2 ^ 4 := by
  apply Nat.eq_of_testBit_eq
  intro k
  rw [Nat.testBit_mod_two_pow, Nat.testBit_mod_two_pow, Nat.testBit_div_two_pow, Nat.testBit_div_two_pow, Nat.mul_comm H, Nat.testBit_two_pow_mul_add _ hL]
  by_cases hk : k < 4
  · rw [if_pos (by omega)]
  · simp [hk]
theorem dig_hi (H L : Nat) (hL : L < 2 ^ 64) (j : Nat) : (H * 2 ^ 64 + L) / 2 ^ (4 * (16 + j)) % 2 ^ 4 = H / 2 ^ (4 * j) % 2 ^ 4 := by
  have : (H * 2 ^ 64 + L) / 2 ^ (4 * (16 + j)) = H / 2 ^ (4 * j) := by
    rw [show 4 * (16 + j) = 64 + 4 * j by omega, Nat.pow_add, ← Nat.div_div_eq_div_mul]
    congr 1
    rw [Nat.mul_comm, Nat.mul_add_div (by decide), Nat.div_eq_of_lt hL, Nat.add_zero]
  rw [this]
theorem hexL_N (H L : Nat) (hL : L < 2 ^ 64) : hexL L 16 ++ hexL H 16 = hexL (H * 2 ^ 64 + L) 32 := by
  apply List.ext_getElem?
  intro k
  by_cases h1 : k < 16
  · rw [List.getElem?_append_left (by simp [hexL]; exact h1)]
    simp only [hexL, List.getElem?_map]
    rw [List.getElem?_range h1, List.getElem?_range (by omega)]
    simp only [Option.map_some]
    rw [dig_lo H L hL k h1]
  · by_cases h2 : k < 32
    · rw [List.getElem?_append_right (by simp [hexL]; omega)]
      simp only [hexL, List.getElem?_map, List.length_map, List.length_range]
      rw [List.getElem?_range (by omega), List.getElem?_range h2]
      simp only [Option.map_some]
      have := dig_hi H L hL (k - 16)
      rw [show 16 + (k - 16) = k by omega] at this
      rw [this]
    · rw [List.getElem?_eq_none (by simp [hexL]; omega), List.getElem?_eq_none (by simp [hexL]; omega)]
theorem dec_nodot : ∀ n : Fin 256, ((Lib.decDigits n.val).all fun c => c != 46) = true := by decide +kernel
theorem hex_nodot : ∀ n : Fin 16, (hexB n.val != 46) = true := by decide +kernel
theorem decL_nodot (x i : Nat) : ∀ y ∈ decL x i, ∀ c ∈ y, c ≠ 46 := fun y hy c hc => by
  obtain ⟨j, _, rfl⟩ := List.mem_map.1 hy
  have := List.all_eq_true.1 (dec_nodot ⟨x / 2 ^ (8 * j) % 2 ^ 8, Nat.mod_lt _ (by decide)⟩) c hc
  simpa using this
theorem hexL_nodot (x i : Nat) : ∀ y ∈ hexL x i, ∀ c ∈ y, c ≠ 46 := fun y hy c hc => by
  obtain ⟨j, _, rfl⟩ := List.mem_map.1 hy
  have := hex_nodot ⟨x / 2 ^ (4 * j) % 2 ^ 4, Nat.mod_lt _ (by decide)⟩
  simp only [List.mem_singleton] at hc
  subst hc
  simpa using this
end Go.Gk
