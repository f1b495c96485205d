/-
  Names: records; what the draws of records give.
-/
import Derived.Test.YtimglghcggljcaaGreatDoorNBase1
import Derived.Test.YtimglghcggljcaaGreatDoorPLoop
set_option linter.unusedVariables false
set_option linter.unusedSimpArgs false
set_option linter.unusedSectionVars false
set_option maxRecDepth 100000
namespace Go.Gk
def wordsT : List Str := [[], [104, 105], [97, 32, 98], [118, 61, 49], [32, 120], [97, 10, 98], [121], [109, 97, 110, 121, 32, 119, 111, 114, 100, 115, 32, 111, 102, 32, 115, 111, 109, 101, 32, 108, 101, 110, 103, 116, 104, 32, 116, 104, 97, 116, 32, 110, 101, 101, 100, 32, 114, 111, 111, 109, 44, 32, 97, 110, 100, 32, 109, 111, 114, 101, 32, 111, 102, 32, 116, 104, 101, 109]]
theorem plain_tab : ∀ w ∈ wordsT, ∃ b, m_kit_IsPlain 400 w = some b ∧ m_laneref1_plain w = some b ∧ w.length ≤ 200 ∧ (w = [] → b = true) := by
  intro w hw
  simp only [wordsT, List.mem_cons, List.not_mem_nil, or_false] at hw
  rcases hw with rfl | rfl | rfl | rfl | rfl | rfl | rfl | rfl <;> exact ⟨_, rfl, rfl, by decide, fun h => by first | rfl | cases h⟩
def okRec (r : T_api_Record) : Prop := r.Name.length ≤ 300 ∧ r.To.length ≤ 300 ∧ r.Words ∈ wordsT ∧ 0 ≤ r.Addr.Hi
theorem addr_ok (a : T_api_Addr) (h : 0 ≤ a.Hi) : ∃ e, m_addr_CheckAddr a = some e ∧ m_laneref2_AddrFault a = some e := by
  unfold m_laneref2_AddrFault m_addr_CheckAddr
  have e1 : (a.Hi != 0) = decide (a.Hi > 0) := by rw [Bool.eq_iff_iff]; simp; omega
  have e2 : decide (a.Lo ≥ 4294967296) = decide (a.Lo > 4294967295) := by rw [Bool.eq_iff_iff]; simp; omega
  rw [e1, e2]
  cases (!a.Six && (decide (a.Hi > 0) || decide (a.Lo > 4294967295))) <;> exact ⟨_, rfl, rfl⟩
def kindB (k : Int) : Bool := k == 1 || (k == 5 || (k == 12 || (k == 16 || k == 28)))
theorem isKind_ok (k : Int) : m_name_isKind k = some (kindB k) := by
  unfold m_name_isKind kindB
  cases (k == 1) <;> cases (k == 5) <;> cases (k == 12) <;> cases (k == 16) <;> cases (k == 28) <;> rfl
theorem kinds_ok (k : Int) : m_slices_Contains_int_int [1, 5, 12, 16, 28] k = some (kindB k) := by
  unfold m_slices_Contains_int_int m_slices_Index_int_int kindB
  simp only [rangeM]
  cases (k == 1) <;> cases (k == 5) <;> cases (k == 12) <;> cases (k == 16) <;> cases (k == 28) <;> rfl
theorem outside_in (n a b : Int) : ∃ c, m_kit_Outside n a b = some c ∧ m_laneref1_in n a b = some (!c) := by
  refine ⟨_, rfl, ?_⟩
  unfold m_laneref1_in
  congr 1
  rw [Bool.eq_iff_iff]
  simp
theorem b3 (e : Int) : (e != 0) = !(e == 0) := rfl
theorem recFault_ok (r : T_api_Record) (h : okRec r) : ∃ e, m_name_recordFault 400 r = some e ∧ m_laneref1_RecordFault r = some e := by
  obtain ⟨h1, h2, h3, h4⟩ := h
  obtain ⟨ab, a1, a2⟩ := addr_ok r.Addr h4
  obtain ⟨pl, p1, p2, p3, p4⟩ := plain_tab _ h3
  obtain ⟨ot, o1, o2⟩ := outside_in r.Life 0 1000000
  have hle := trim_le r.Name [42, 46]
  have d1 := check_ok 398 (Lib.trimPrefix r.Name [42, 46]) (by omega)
  have d2 := fault_ok (Lib.trimPrefix r.Name [42, 46]) (by omega)
  have d3 := check_ok 398 r.To (by omega)
  have d4 := fault_ok r.To (by omega)
  have hw : decide ((r.Words.length : Int) > 200) = false := decide_eq_false (by omega)
  have hb : m_name_bare r.Name = some (Lib.trimPrefix r.Name [42, 46]) := rfl
  have ht : m_strings_TrimPrefix r.Name [42, 46] = some (Lib.trimPrefix r.Name [42, 46]) := rfl
  have hk : m_laneref1_Kinds = some [1, 5, 12, 16, 28] := rfl
  have hha : m_name_hasAddr r.Kind = some ((r.Kind == 1) || (r.Kind == 28)) := rfl
  have hhn : m_name_hasName r.Kind = some ((r.Kind == 5) || (r.Kind == 12)) := rfl
  have hwe : (r.Words == []) = true → pl = true := fun e => p4 (by simpa using e)
  unfold m_name_recordFault m_laneref1_RecordFault
  rw [hb, ht, hk, hha, hhn]
  simp only [bi_some]
  rw [d1, d2, d3, d4, isKind_ok, kinds_ok, a1, a2, p1, p2, o1, o2]
  simp only [bi_some, hw]
  generalize (domF (Lib.trimPrefix r.Name [42, 46]) != 0) = x1
  generalize decide ((r.Name.length : Int) > 253) = x2
  cases x1 <;> cases x2 <;> try exact ⟨_, rfl, rfl⟩
  simp only [Bool.or_false, cond_false]
  cases hkb : kindB r.Kind with
  | false => exact ⟨_, rfl, rfl⟩
  | true =>
    simp only [Bool.not_true, cond_false]
    have hk' : r.Kind = 1 ∨ r.Kind = 5 ∨ r.Kind = 12 ∨ r.Kind = 16 ∨ r.Kind = 28 := by simpa [kindB] using hkb
    generalize (domF r.To != 0) = x3
    generalize (ab != 0) = x4
    generalize (r.Words == []) = x5 at hwe
    generalize (r.To == []) = x6
    generalize ((r.Addr.Six == false) && ((r.Addr.Hi == 0) && ((r.Addr.Lo == 0) && true))) = x7
    generalize r.Addr.Six = x8
    rcases hk' with e | e | e | e | e <;> rw [e] <;> cases x3 <;> cases x4 <;> cases x6 <;> cases x7 <;> cases x8 <;> cases ot <;> cases pl <;> cases x5 <;> first | exact ⟨_, rfl, rfl⟩ | (exfalso; exact absurd (hwe rfl) (by decide))

theorem u64_nn (x : Int) : 0 ≤ IntKind.u64.wrap x := Int.emod_nonneg _ (by decide)
/-- A draw: what comes out is well, and few numbers are used up. -/
def Dr {α : Type} (l : List Int) (a : Int) (n : Int) (m : Option (α × T_lanemake_Stream)) (p : α → Prop) : Prop := ∃ x a', p x ∧ a ≤ a' ∧ a' ≤ a + n ∧ m = some (x, ⟨l, a'⟩)
theorem range_ok (l : List Int) (a lo hi : Int) (hl : l.length ≤ 9223372036854775807) (h0 : 0 ≤ a) (h1 : a < 4611686018427387904) (h2 : lo ≤ hi) (h3 : -1000000000 ≤ lo) (h4 : hi ≤ 1000000000) :
    ∃ r, lo ≤ r ∧ r ≤ hi ∧ m_lanemake_Stream_Range ⟨l, a⟩ lo hi = some (r, ⟨l, a + 1⟩) := by
  unfold m_lanemake_Stream_Range
  have w1 : wi (hi - lo) = hi - lo := wi_id (by omega) (by omega)
  have w2 : wi (hi - lo + 1) = hi - lo + 1 := wi_id (by omega) (by omega)
  obtain ⟨r, r0, r1, hr⟩ := next_ok l a (hi - lo + 1) hl h0 h1 (by omega) (by omega)
  refine ⟨lo + r, by omega, by omega, ?_⟩
  rw [decide_eq_false (show ¬ hi < lo by omega), w1, w2, hr]
  simp only [cond_false, bi_some]
  rw [wi_id (by omega) (by omega)]
def addrR (x : T_api_Addr) : Prop := 0 ≤ x.Hi
theorem addrD (l : List Int) (a : Int) (hl : l.length ≤ 9223372036854775807) (h0 : 0 ≤ a) (h1 : a < 4611686018427380000) : Dr l a 5 (m_lanemake_Stream_Addr ⟨l, a⟩) addrR := by
  obtain ⟨r, r0, r1, hr⟩ := next_ok l a 6 hl h0 (by omega) (by decide) (by decide)
  unfold m_lanemake_Stream_Addr Dr
  rw [hr]
  simp only [bi_some]
  cases (r == 0) with
  | true =>
    obtain ⟨s, s0, s1, hs⟩ := next_ok l (a + 1) 5 hl (by omega) (by omega) (by decide) (by decide)
    obtain ⟨t, t0, t1, ht⟩ := next_ok l (a + 1 + 1) 5 hl (by omega) (by omega) (by decide) (by decide)
    obtain ⟨x, hx, ex⟩ := getZ_in ([0, 18230571291595767808, 2306139568115548160, 9223372036854775808, 18446744073709551615] : List Int) s0 s1
    obtain ⟨y, hy, ey⟩ := getZ_in ([0, 1, 2, 4294967296, 18446744073709551615] : List Int) t0 t1
    simp only [cond_true, hs, ht, bi_some, ex, ey]
    have : ∀ x ∈ ([0, 18230571291595767808, 2306139568115548160, 9223372036854775808, 18446744073709551615] : List Int), 0 ≤ x := by decide
    refine ⟨_, _, ?_, ?_, ?_, rfl⟩; exact this x hx; omega; omega
  | false =>
    cases (r == 1) with
    | true =>
      obtain ⟨t, t0, t1, ht⟩ := next_ok l (a + 1) 5 hl (by omega) (by omega) (by decide) (by decide)
      obtain ⟨y, hy, ey⟩ := getZ_in ([0, 1, 4294967295, 2130706433, 3232235521] : List Int) t0 t1
      simp only [cond_true, cond_false, ht, bi_some, ey]
      refine ⟨_, _, ?_, ?_, ?_, rfl⟩; exact Int.le_refl _; omega; omega
    | false =>
      cases (r == 2) with
      | true =>
        obtain ⟨x, _, _, hx⟩ := range_ok l (a + 1) 0 16777216 hl (by omega) (by omega) (by decide) (by decide) (by decide)
        simp only [cond_true, cond_false, hx, bi_some]
        refine ⟨_, _, ?_, ?_, ?_, rfl⟩; exact Int.le_refl _; omega; omega
      | false =>
        obtain ⟨x, _, _, hx⟩ := range_ok l (a + 1) 0 20 hl (by omega) (by omega) (by decide) (by decide) (by decide)
        simp only [cond_false, hx, bi_some]
        refine ⟨_, _, ?_, ?_, ?_, rfl⟩; exact Int.le_refl _; omega; omega
theorem rawD (l : List Int) (a : Int) (hl : l.length ≤ 9223372036854775807) (h0 : 0 ≤ a) (h1 : a < 4611686018427370000) : Dr l a 10 (m_lanemake_Stream_Raw ⟨l, a⟩) addrR := by
  obtain ⟨x, b, p, q1, q2, e⟩ := addrD l a hl h0 (by omega)
  obtain ⟨f, hf⟩ := flip_ok l b 15 hl (by omega) (by omega) (by decide) (by decide)
  unfold m_lanemake_Stream_Raw Dr
  rw [e]
  simp only [bi_some, hf]
  cases f with
  | false => refine ⟨_, _, ?_, ?_, ?_, rfl⟩; exact p; omega; omega
  | true =>
    obtain ⟨s, s0, s1, hs⟩ := next_ok l (b + 1) 2 hl (by omega) (by omega) (by decide) (by decide)
    obtain ⟨t, t0, t1, ht⟩ := next_ok l (b + 1 + 1) 3 hl (by omega) (by omega) (by decide) (by decide)
    obtain ⟨y, hy, ey⟩ := getZ_in ([4294967296, 5, 1099511627776] : List Int) t0 t1
    simp only [cond_true, hs, ht, bi_some, ey]
    refine ⟨_, _, ?_, ?_, ?_, rfl⟩; exact u64_nn _; omega; omega
theorem oddD (l : List Int) (a lo hi : Int) (hl : l.length ≤ 9223372036854775807) (h0 : 0 ≤ a) (h1 : a < 4611686018427370000) (h2 : lo ≤ hi) (h3 : -1000000000 ≤ lo) (h4 : hi ≤ 1000000000) : Dr l a 5 (m_lanemake_Stream_Odd ⟨l, a⟩ lo hi) fun _ => True := by
  obtain ⟨f, hf⟩ := flip_ok l a 12 hl (by omega) (by omega) (by decide) (by decide)
  unfold m_lanemake_Stream_Odd Dr
  rw [hf]
  simp only [bi_some]
  cases f with
  | true =>
    obtain ⟨x, _, hx⟩ := pick_ok l (a + 1) [wi (lo - 1), wi (hi + 1), lo, hi, -1099511627776, 1099511627776] hl (by omega) (by omega) (by simp) (by simp)
    simp only [cond_true, hx, bi_some]
    refine ⟨_, _, ?_, ?_, ?_, rfl⟩; exact trivial; omega; omega
  | false =>
    obtain ⟨x, _, _, hx⟩ := range_ok l (a + 1) lo hi hl (by omega) (by omega) h2 h3 h4
    simp only [cond_false, hx, bi_some]
    refine ⟨_, _, ?_, ?_, ?_, rfl⟩; exact trivial; omega; omega
theorem toT : ∀ x ∈ ([[97, 46, 110, 101, 116, 46, 120], [98, 46, 110, 101, 116, 46, 120], [99, 46, 110, 101, 116, 46, 120], [113, 46, 108, 97, 98, 46, 110, 101, 116, 46, 120], [100, 46, 110, 101, 116, 46, 120], [111, 116, 104, 101, 114]] : List Str), x.length ≤ 300 := by decide
theorem toT2 : ∀ x ∈ ([[97, 46, 110, 101, 116, 46, 120], [98, 46, 110, 101, 116, 46, 120]] : List Str), x.length ≤ 300 := by decide
theorem toT3 : ∀ x ∈ ([[], [65], [120]] : List Str), x.length ≤ 300 := by decide
theorem woT : ∀ x ∈ ([[], [104, 105], [97, 32, 98], [118, 61, 49]] : List Str), x ∈ wordsT := by decide
theorem woT2 : ∀ x ∈ ([[32, 120], [97, 10, 98], [], [121]] : List Str), x ∈ wordsT := by decide
theorem recD (l : List Int) (a : Int) (name : Str) (hl : l.length ≤ 9223372036854775807) (h0 : 0 ≤ a) (h1 : a < 4611686018427360000) (hn : name.length ≤ 300) : Dr l a 30 (m_lanemake_Stream_record ⟨l, a⟩ name) okRec := by
  obtain ⟨life, _, hlife⟩ := pick_ok l a [0, 5, 60, 1000000] hl (by omega) (by omega) (by decide) (by decide)
  obtain ⟨kd, k0, k1, hkd⟩ := next_ok l (a + 1) 7 hl (by omega) (by omega) (by decide) (by decide)
  unfold m_lanemake_Stream_record Dr
  rw [hlife]
  simp only [bi_some, hkd]
  generalize hX : (bi (bif (kd == 0) then (some (kd == 0)) else (some (kd == 1))) fun q7 => bif q7 then _ else _ : Option (T_lanemake_Stream × T_api_Record)) = X
  have hq : ∃ r b, okRec r ∧ a + 2 ≤ b ∧ b ≤ a + 5 ∧ X = some (⟨l, b⟩, r) := by
    subst hX
    generalize hb01 : (bif (kd == 0) then (some (kd == 0)) else (some (kd == 1))) = b01
    obtain ⟨b, rfl⟩ : ∃ b, b01 = some b := by subst hb01; cases (kd == 0) <;> exact ⟨_, rfl⟩
    simp only [bi_some]
    have w0 : ([] : Str) ∈ wordsT := by decide
    cases b with
    | true =>
      obtain ⟨x, _, _, hx⟩ := range_ok l (a + 1 + 1) 1 3 hl (by omega) (by omega) (by decide) (by decide) (by decide)
      simp only [cond_true, hx, bi_some, m_lanemake_at]
      refine ⟨_, _, ?_, ?_, ?_, rfl⟩; exact ⟨hn, by simp, w0, Int.le_refl _⟩; omega; omega
    | false =>
      cases (kd == 2) with
      | true =>
        obtain ⟨x, _, _, hx⟩ := range_ok l (a + 1 + 1) 1 3 hl (by omega) (by omega) (by decide) (by decide) (by decide)
        simp only [cond_true, cond_false, hx, bi_some, m_lanemake_sixAt]
        refine ⟨_, _, ?_, ?_, ?_, rfl⟩; exact ⟨hn, by simp, w0, (by decide : (0 : Int) ≤ 18230571291595767808)⟩; omega; omega
      | false =>
        cases (kd == 3) with
        | true =>
          obtain ⟨x, hx, e⟩ := some_ok l (a + 1 + 1) [[], [104, 105], [97, 32, 98], [118, 61, 49]] hl (by omega) (by omega) (by decide) (by decide)
          simp only [cond_true, cond_false, e, bi_some]
          refine ⟨_, _, ?_, ?_, ?_, rfl⟩; exact ⟨hn, by simp, woT x hx, Int.le_refl _⟩; omega; omega
        | false =>
          cases (kd == 4) with
          | true =>
            obtain ⟨x, hx, e⟩ := some_ok l (a + 1 + 1) [[97, 46, 110, 101, 116, 46, 120], [98, 46, 110, 101, 116, 46, 120]] hl (by omega) (by omega) (by decide) (by decide)
            simp only [cond_true, cond_false, e, bi_some]
            refine ⟨_, _, ?_, ?_, ?_, rfl⟩; exact ⟨hn, toT2 x hx, w0, Int.le_refl _⟩; omega; omega
          | false =>
            obtain ⟨x, hx, e⟩ := some_ok l (a + 1 + 1) [[97, 46, 110, 101, 116, 46, 120], [98, 46, 110, 101, 116, 46, 120], [99, 46, 110, 101, 116, 46, 120], [113, 46, 108, 97, 98, 46, 110, 101, 116, 46, 120], [100, 46, 110, 101, 116, 46, 120], [111, 116, 104, 101, 114]] hl (by omega) (by omega) (by decide) (by decide)
            simp only [cond_false, e, bi_some]
            refine ⟨_, _, ?_, ?_, ?_, rfl⟩; exact ⟨hn, toT x hx, w0, Int.le_refl _⟩; omega; omega
  obtain ⟨r, b, ⟨p1, p2, p3, p4⟩, q1, q2, rfl⟩ := hq
  obtain ⟨f, hf⟩ := flip_ok l b 40 hl (by omega) (by omega) (by decide) (by decide)
  simp only [bi_some, hf]
  cases f with
  | false => refine ⟨_, _, ?_, ?_, ?_, rfl⟩; exact ⟨p1, p2, p3, p4⟩; omega; omega
  | true =>
    obtain ⟨k, k0, k1, hk⟩ := next_ok l (b + 1) 4 hl (by omega) (by omega) (by decide) (by decide)
    simp only [cond_true, hk, bi_some]
    cases (k == 0) with
    | true =>
      obtain ⟨x, _, e⟩ := pick_ok l (b + 1 + 1) [0, 2, 5] hl (by omega) (by omega) (by decide) (by decide)
      simp only [cond_true, e, bi_some]
      refine ⟨_, _, ?_, ?_, ?_, rfl⟩; exact ⟨p1, p2, p3, p4⟩; omega; omega
    | false =>
      cases (k == 1) with
      | true =>
        obtain ⟨x, c, p, c1, c2, e⟩ := rawD l (b + 1 + 1) hl (by omega) (by omega)
        simp only [cond_true, cond_false, e, bi_some]
        refine ⟨_, _, ?_, ?_, ?_, rfl⟩; exact ⟨p1, p2, p3, p⟩; omega; omega
      | false =>
        cases (k == 2) with
        | true =>
          obtain ⟨x, hx, e⟩ := some_ok l (b + 1 + 1) [[], [65], [120]] hl (by omega) (by omega) (by decide) (by decide)
          simp only [cond_true, cond_false, e, bi_some]
          refine ⟨_, _, ?_, ?_, ?_, rfl⟩; exact ⟨p1, toT3 x hx, p3, p4⟩; omega; omega
        | false =>
          obtain ⟨x, hx, e⟩ := some_ok l (b + 1 + 1) [[32, 120], [97, 10, 98], [], [121]] hl (by omega) (by omega) (by decide) (by decide)
          obtain ⟨y, c, _, c1, c2, e2⟩ := oddD l (b + 1 + 1 + 1) 0 1000000 hl (by omega) (by omega) (by decide) (by decide) (by decide)
          simp only [cond_false, e, bi_some, e2]
          refine ⟨_, _, ?_, ?_, ?_, rfl⟩; exact ⟨p1, p2, woT2 x hx, p4⟩; omega; omega
theorem named_ok : m_lanelaw1_named 400 = some true := by rfl

end Go.Gk
