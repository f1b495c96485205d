/-
  Addresses (AddressesNamed).
-/
import Derived.Test.YtffmljbfffojlaaGreatDoorFBase
set_option linter.unusedVariables false
set_option linter.unusedSimpArgs false
set_option linter.unusedSectionVars false
set_option maxRecDepth 100000
namespace Go.Gk
/-- Bits of x without those of y. -/
def nsub (x y : Nat) : Nat := x ^^^ (x &&& y)
theorem nsub_bit (x y k : Nat) : (nsub x y).testBit k = (x.testBit k && !y.testBit k) := by
  unfold nsub
  rw [Nat.testBit_xor, Nat.testBit_and]
  cases x.testBit k <;> cases y.testBit k <;> rfl
theorem bit_lt {x n : Nat} (h : ∀ k, n ≤ k → x.testBit k = false) : x < 2 ^ n := Nat.lt_pow_two_of_testBit x h
theorem bit_ge {x n k : Nat} (h : x < 2 ^ n) (hk : n ≤ k) : x.testBit k = false := Nat.testBit_lt_two_pow (Nat.lt_of_lt_of_le h (Nat.pow_le_pow_right (by decide) hk))
theorem u64_id {n : Nat} (h : n < 18446744073709551616) : IntKind.u64.wrap (n : Int) = n := by
  show (n : Int) % (2 ^ 64 : Int) = n
  omega
theorem i64_id {n : Nat} (h : n < 9223372036854775808) : IntKind.i64.wrap (n : Int) = n := wi_id (by omega) (by omega)
theorem andNot_bv (x y : Nat) : (BitVec.ofInt 64 (x : Int) &&& ~~~BitVec.ofInt 64 (y : Int)).toNat = nsub (x % 2 ^ 64) (y % 2 ^ 64) := by
  refine Nat.eq_of_testBit_eq fun k => ?_
  rw [BitVec.testBit_toNat, nsub_bit, BitVec.ofInt_natCast, BitVec.ofInt_natCast]
  simp only [BitVec.getLsbD_and, BitVec.getLsbD_not, BitVec.getLsbD_ofNat, Nat.testBit_mod_two_pow]
  by_cases hk : k < 64
  · simp [hk]
  · simp [hk]
theorem and_bv (x y : Nat) : (BitVec.ofInt 64 (x : Int) &&& BitVec.ofInt 64 (y : Int)).toNat = (x % 2 ^ 64) &&& (y % 2 ^ 64) := by
  rw [BitVec.ofInt_natCast, BitVec.ofInt_natCast, BitVec.toNat_and, BitVec.toNat_ofNat, BitVec.toNat_ofNat]
theorem or_bv (x y : Nat) : (BitVec.ofInt 64 (x : Int) ||| BitVec.ofInt 64 (y : Int)).toNat = (x % 2 ^ 64) ||| (y % 2 ^ 64) := by
  rw [BitVec.ofInt_natCast, BitVec.ofInt_natCast, BitVec.toNat_or, BitVec.toNat_ofNat, BitVec.toNat_ofNat]
theorem nsub_le (x y : Nat) {n : Nat} (h : x < 2 ^ n) : nsub x y < 2 ^ n := bit_lt fun k hk => by rw [nsub_bit, bit_ge h hk]; rfl
theorem andNot_u {x y : Nat} (hx : x < 2 ^ 64) (hy : y < 2 ^ 64) : bitsV .andNot .u64 (x : Int) (y : Int) = (nsub x y : Nat) := by
  show IntKind.u64.wrap ((BitVec.ofInt 64 (x : Int) &&& ~~~BitVec.ofInt 64 (y : Int)).toNat : Int) = _
  rw [andNot_bv, Nat.mod_eq_of_lt hx, Nat.mod_eq_of_lt hy]
  exact u64_id (nsub_le x y hx)
theorem andNot_i {x y : Nat} (hx : x < 2 ^ 16) (hy : y < 2 ^ 16) : bitsV .andNot .i64 (x : Int) (y : Int) = (nsub x y : Nat) := by
  show IntKind.i64.wrap ((BitVec.ofInt 64 (x : Int) &&& ~~~BitVec.ofInt 64 (y : Int)).toNat : Int) = _
  rw [andNot_bv, Nat.mod_eq_of_lt (by omega), Nat.mod_eq_of_lt (by omega)]
  exact i64_id (Nat.lt_of_lt_of_le (nsub_le x y hx) (by decide))
theorem or_u {x y : Nat} (hx : x < 2 ^ 64) (hy : y < 2 ^ 64) : bitsV .or .u64 (x : Int) (y : Int) = (x ||| y : Nat) := by
  show IntKind.u64.wrap ((BitVec.ofInt 64 (x : Int) ||| BitVec.ofInt 64 (y : Int)).toNat : Int) = _
  rw [or_bv, Nat.mod_eq_of_lt hx, Nat.mod_eq_of_lt hy]
  exact u64_id (Nat.or_lt_two_pow hx hy)
theorem or_i {x y : Nat} (hx : x < 2 ^ 16) (hy : y < 2 ^ 16) : bitsV .or .i64 (x : Int) (y : Int) = (x ||| y : Nat) := by
  show IntKind.i64.wrap ((BitVec.ofInt 64 (x : Int) ||| BitVec.ofInt 64 (y : Int)).toNat : Int) = _
  rw [or_bv, Nat.mod_eq_of_lt (by omega), Nat.mod_eq_of_lt (by omega)]
  exact i64_id (Nat.lt_of_lt_of_le (Nat.or_lt_two_pow hx hy) (by decide))
theorem and_u {x y : Nat} (hx : x < 2 ^ 64) (hy : y < 2 ^ 64) : bitsV .and .u64 (x : Int) (y : Int) = (x &&& y : Nat) := by
  show IntKind.u64.wrap ((BitVec.ofInt 64 (x : Int) &&& BitVec.ofInt 64 (y : Int)).toNat : Int) = _
  rw [and_bv, Nat.mod_eq_of_lt hx, Nat.mod_eq_of_lt hy]
  exact u64_id (Nat.lt_of_le_of_lt Nat.and_le_left hx)
theorem shr_u (x n : Nat) (hn : n ≤ 64) : shrZ .u64 (x : Int) (n : Int) = some ((x / 2 ^ n : Nat) : Int) := by
  show some (Int.fdiv (x : Int) (2 ^ min n 64)) = _
  rw [Nat.min_eq_left hn, Int.fdiv_eq_ediv_of_nonneg _ (Int.le_of_lt (Int.pow_pos (by decide)))]
  congr 1
theorem shl_u (x n : Nat) (hn : n ≤ 64) (h : x * 2 ^ n < 2 ^ 64) : shlZ .u64 (x : Int) (n : Int) = some ((x * 2 ^ n : Nat) : Int) := by
  show some (IntKind.u64.wrap ((x : Int) * 2 ^ min n 64)) = _
  rw [Nat.min_eq_left hn, show (x : Int) * 2 ^ n = ((x * 2 ^ n : Nat) : Int) by rw [Int.natCast_mul, Int.natCast_pow]; rfl, u64_id h]
theorem shl_i (n : Nat) (hn : n < 16) : shlZ .i64 1 (n : Int) = some ((2 ^ n : Nat) : Int) := by
  show some (IntKind.i64.wrap ((1 : Int) * 2 ^ min n 64)) = _
  have h2 : 2 ^ n < 2 ^ 16 := Nat.pow_lt_pow_right (by decide) hn
  rw [Nat.min_eq_left (by omega), show (1 : Int) * 2 ^ n = ((2 ^ n : Nat) : Int) by rw [Int.one_mul, Int.natCast_pow]; rfl, i64_id (by omega)]
/-! ### Digits of 2^16 -/
def dg (n j : Nat) : Nat := n / 2 ^ (16 * j) % 2 ^ 16
theorem dg_bit (n j k : Nat) : (dg n j).testBit k = (decide (k < 16) && n.testBit (16 * j + k)) := by
  unfold dg
  rw [Nat.testBit_mod_two_pow, Nat.testBit_div_two_pow, Nat.add_comm]
theorem dg_lt (n j : Nat) : dg n j < 2 ^ 16 := Nat.mod_lt _ (by decide)
/-- The low i bits struck, or set. -/
def cl (n i : Nat) : Nat := n / 2 ^ i * 2 ^ i
theorem cl_bit (n i k : Nat) : (cl n i).testBit k = (decide (i ≤ k) && n.testBit k) := by
  unfold cl
  rw [Nat.mul_comm, Nat.testBit_two_pow_mul, Nat.testBit_div_two_pow]
  by_cases h : i ≤ k
  · simp only [h, decide_true, Bool.true_and]; rw [show k - i + i = k by omega]
  · simp [h]
def fl (n i : Nat) : Nat := n ||| (2 ^ i - 1)
theorem fl_bit (n i k : Nat) : (fl n i).testBit k = (n.testBit k || decide (k < i)) := by
  unfold fl
  rw [Nat.testBit_or, Nat.testBit_two_pow_sub_one]
theorem two_bit (b k : Nat) : (2 ^ b).testBit k = decide (b = k) := Nat.testBit_two_pow
theorem dg_cl_same (n i : Nat) : dg (cl n (i + 1)) (i / 16) = nsub (dg (cl n i) (i / 16)) (2 ^ (i % 16)) := by
  refine Nat.eq_of_testBit_eq fun k => ?_
  rw [dg_bit, cl_bit, nsub_bit, dg_bit, cl_bit, two_bit]
  have := Nat.div_add_mod i 16
  by_cases hk : k < 16
  · by_cases he : i % 16 = k
    · have h1 : ¬ i + 1 ≤ 16 * (i / 16) + k := by omega
      simp [hk, he, h1]
    · by_cases h1 : i + 1 ≤ 16 * (i / 16) + k
      · simp [hk, he, h1, show i ≤ 16 * (i / 16) + k by omega]
      · simp [hk, he, h1, show ¬ i ≤ 16 * (i / 16) + k by omega]
  · simp [hk]
theorem dg_cl_other (n i j : Nat) (h : j ≠ i / 16) : dg (cl n (i + 1)) j = dg (cl n i) j := by
  refine Nat.eq_of_testBit_eq fun k => ?_
  rw [dg_bit, cl_bit, dg_bit, cl_bit]
  by_cases hk : k < 16
  · by_cases h1 : i + 1 ≤ 16 * j + k
    · simp [hk, h1, show i ≤ 16 * j + k by omega]
    · simp [hk, h1, show ¬ i ≤ 16 * j + k by omega]
  · simp [hk]
theorem dg_fl_same (n i : Nat) : dg (fl n (i + 1)) (i / 16) = dg (fl n i) (i / 16) ||| 2 ^ (i % 16) := by
  refine Nat.eq_of_testBit_eq fun k => ?_
  rw [dg_bit, fl_bit, Nat.testBit_or, dg_bit, fl_bit, two_bit]
  by_cases hk : k < 16
  · by_cases he : i % 16 = k
    · have h1 : 16 * (i / 16) + k < i + 1 := by omega
      simp [hk, he, h1]
    · by_cases h1 : 16 * (i / 16) + k < i + 1
      · simp [hk, he, h1, show 16 * (i / 16) + k < i by omega]
      · simp [hk, he, h1, show ¬ 16 * (i / 16) + k < i by omega]
  · have : ¬ i % 16 = k := by omega
    simp [hk, this]
theorem dg_fl_other (n i j : Nat) (h : j ≠ i / 16) : dg (fl n (i + 1)) j = dg (fl n i) j := by
  refine Nat.eq_of_testBit_eq fun k => ?_
  rw [dg_bit, fl_bit, dg_bit, fl_bit]
  by_cases hk : k < 16
  · by_cases h1 : 16 * j + k < i + 1
    · simp [hk, h1, show 16 * j + k < i by omega]
    · simp [hk, h1, show ¬ 16 * j + k < i by omega]
  · simp [hk]
/-- An address as the draws and the program make it. -/
structure AOk (a : T_api_Addr) : Prop where
  h0 : 0 ≤ a.Hi
  h1 : a.Hi < 18446744073709551616
  l0 : 0 ≤ a.Lo
  l1 : a.Lo < 18446744073709551616
theorem inT {x : Int} {xs : List Int} (p : Int → Bool) (h : xs.all p = true) (hx : x ∈ xs) : p x = true := List.all_eq_true.1 h x hx
theorem u64_nn (x : Int) : 0 ≤ IntKind.u64.wrap x := Int.emod_nonneg _ (by decide)
theorem u64_lt (x : Int) : IntKind.u64.wrap x < 18446744073709551616 := Int.emod_lt_of_pos _ (by decide)
def u64B (x : Int) : Bool := decide (0 ≤ x ∧ x < 18446744073709551616)
theorem addrD (l : List Int) (hl : l.length ≤ 9223372036854775807) (a : Int) (h0 : 0 ≤ a) (h1 : a < 4611686018427360000) : Dr l a 3 (m_lanemake_Stream_Addr ⟨l, a⟩) AOk := by
  unfold m_lanemake_Stream_Addr Dr
  obtain ⟨r, r0, r1, e⟩ := next_ok l a 6 hl h0 (by omega) (by decide) (by decide)
  rw [e]
  simp only [bi_some]
  cases (r == 0) with
  | true =>
    obtain ⟨r2, s0, s1, e2⟩ := next_ok l (a + 1) 5 hl (by omega) (by omega) (by decide) (by decide)
    obtain ⟨x, hx, e3⟩ := getZ_in ([0, 18230571291595767808, 2306139568115548160, 9223372036854775808, 18446744073709551615] : List Int) s0 (by simpa using s1)
    obtain ⟨r3, t0, t1, e4⟩ := next_ok l (a + 1 + 1) 5 hl (by omega) (by omega) (by decide) (by decide)
    obtain ⟨y, hy, e5⟩ := getZ_in ([0, 1, 2, 4294967296, 18446744073709551615] : List Int) t0 (by simpa using t1)
    simp only [cond_true, e2, e3, e4, e5, bi_some]
    have k1 : 0 ≤ x ∧ x < 18446744073709551616 := of_decide_eq_true (inT u64B (by decide) hx)
    have k2 : 0 ≤ y ∧ y < 18446744073709551616 := of_decide_eq_true (inT u64B (by decide) hy)
    refine ⟨_, _, ⟨k1.1, k1.2, k2.1, k2.2⟩, ?_, ?_, rfl⟩; omega; omega
  | false =>
    simp only [cond_false]
    cases (r == 1) with
    | true =>
      obtain ⟨r3, t0, t1, e4⟩ := next_ok l (a + 1) 5 hl (by omega) (by omega) (by decide) (by decide)
      obtain ⟨y, hy, e5⟩ := getZ_in ([0, 1, 4294967295, 2130706433, 3232235521] : List Int) t0 (by simpa using t1)
      simp only [cond_true, e4, e5, bi_some]
      have k2 : 0 ≤ y ∧ y < 18446744073709551616 := of_decide_eq_true (inT u64B (by decide) hy)
      refine ⟨_, _, ⟨Int.le_refl _, (by decide : (0 : Int) < 18446744073709551616), k2.1, k2.2⟩, ?_, ?_, rfl⟩; omega; omega
    | false =>
      simp only [cond_false]
      cases (r == 2) with
      | true =>
        obtain ⟨r3, t0, t1, e4⟩ := range_ok l (a + 1) 0 16777216 hl (by omega) (by omega) (by decide) (by decide) (by decide)
        simp only [cond_true, e4, bi_some]
        have hn := u64_nn (IntKind.u64.wrap r3 * 251)
        generalize IntKind.u64.wrap (IntKind.u64.wrap r3 * 251) = v at hn
        unfold remZ
        rw [decide_eq_false (show ¬ (4294967296 : Int) = 0 by decide)]
        simp only [cond_false, bi_some]
        have k := Int.tmod_eq_emod_of_nonneg (b := 4294967296) hn
        have k1 : 0 ≤ v.tmod 4294967296 ∧ v.tmod 4294967296 < 18446744073709551616 := by rw [k]; omega
        refine ⟨_, _, ⟨Int.le_refl _, (by decide : (0 : Int) < 18446744073709551616), k1.1, k1.2⟩, ?_, ?_, rfl⟩; omega; omega
      | false =>
        obtain ⟨r3, t0, t1, e4⟩ := range_ok l (a + 1) 0 20 hl (by omega) (by omega) (by decide) (by decide) (by decide)
        simp only [cond_false, e4, bi_some]
        refine ⟨_, _, ⟨Int.le_refl _, (by decide : (0 : Int) < 18446744073709551616), u64_nn _, u64_lt _⟩, ?_, ?_, rfl⟩; omega; omega
theorem rawD (l : List Int) (hl : l.length ≤ 9223372036854775807) (a : Int) (h0 : 0 ≤ a) (h1 : a < 4611686018427350000) : Dr l a 10 (m_lanemake_Stream_Raw ⟨l, a⟩) AOk := by
  unfold m_lanemake_Stream_Raw Dr
  obtain ⟨x, a1, hx, c1, c2, e⟩ := addrD l hl a h0 (by omega)
  obtain ⟨f, hf⟩ := flip_ok l a1 15 hl (by omega) (by omega) (by decide) (by decide)
  rw [e]
  simp only [bi_some]
  rw [hf]
  simp only [bi_some]
  cases f with
  | false => simp only [cond_false]; refine ⟨_, _, hx, ?_, ?_, rfl⟩; omega; omega
  | true =>
    obtain ⟨r2, s0, s1, e2⟩ := next_ok l (a1 + 1) 2 hl (by omega) (by omega) (by decide) (by decide)
    obtain ⟨r3, t0, t1, e4⟩ := next_ok l (a1 + 1 + 1) 3 hl (by omega) (by omega) (by decide) (by decide)
    obtain ⟨y, hy, e5⟩ := getZ_in ([4294967296, 5, 1099511627776] : List Int) t0 (by simpa using t1)
    simp only [cond_true, e2, e4, e5, bi_some]
    have k2 : 0 ≤ y ∧ y < 18446744073709551616 := of_decide_eq_true (inT u64B (by decide) hy)
    refine ⟨_, _, ⟨u64_nn _, u64_lt _, k2.1, k2.2⟩, ?_, ?_, rfl⟩; omega; omega
theorem addr_ok (a : T_api_Addr) (h : 0 ≤ a.Hi) : ∃ e, m_addr_CheckAddr a = some e ∧ m_laneref2_AddrFault a = some e := by
  unfold m_laneref2_AddrFault m_addr_CheckAddr
  have e1 : (a.Hi != 0) = decide (a.Hi > 0) := by rw [Bool.eq_iff_iff]; simp; omega
  have e2 : decide (a.Lo ≥ 4294967296) = decide (a.Lo > 4294967295) := by rw [Bool.eq_iff_iff]; simp; omega
  rw [e1, e2]
  cases (!a.Six && (decide (a.Hi > 0) || decide (a.Lo > 4294967295))) <;> exact ⟨_, rfl, rfl⟩
theorem rune_len (n : Int) : (runeS n).length ≤ 4 := by
  unfold runeS Utf8.encode
  simp only
  repeat' split
  all_goals simp
theorem changedD (l : List Int) (a : Int) (t w : Str) (hl : l.length ≤ 9223372036854775807) (h0 : 0 ≤ a) (h1 : a < 4611686018427300000) (ht : t.length ≤ 300) (hw : 1 ≤ w.length ∧ w.length ≤ 100) :
    ∃ r a', r.length ≤ 1000 ∧ a ≤ a' ∧ a' ≤ a + 3 ∧ m_lanemake_Stream_Changed ⟨l, a⟩ t w = some (r, ⟨l, a'⟩) := by
  unfold m_lanemake_Stream_Changed
  cases he : ((t == []) || (w == [])) with
  | true => exact ⟨w, a, by omega, by omega, by omega, rfl⟩
  | false =>
    rw [Bool.or_eq_false_iff] at he
    have htn : t ≠ [] := by simpa using he.1
    have htl := List.length_pos_iff.2 htn
    obtain ⟨i, i0, i1, hi⟩ := next_ok l a (t.length : Int) hl h0 (by omega) (by omega) (by omega)
    obtain ⟨j, j0, j1, hj⟩ := next_ok l (a + 1) (w.length : Int) hl (by omega) (by omega) (by omega) (by omega)
    obtain ⟨c, _, hc⟩ := getZ_in w j0 j1
    obtain ⟨k, k0, k1, hk⟩ := next_ok l (a + 1 + 1) 3 hl (by omega) (by omega) (by decide) (by decide)
    have hsub : ∀ lo hi : Int, 0 ≤ lo → lo ≤ hi → hi ≤ (t.length : Int) → ∃ z : Str, subZ t lo hi = some z ∧ z.length ≤ 300 := fun lo hi h1 h2 h3 => by
      unfold subZ
      rw [decide_eq_true h1, decide_eq_true h2, decide_eq_true h3]
      refine ⟨_, rfl, ?_⟩
      simp; omega
    have hw1 : wi (i + 1) = i + 1 := wi_id (by omega) (by omega)
    obtain ⟨z1, s1, n1⟩ := hsub 0 i (by omega) i0 (by omega)
    obtain ⟨z2, s2, n2⟩ := hsub (i + 1) (t.length : Int) (by omega) (by omega) (by omega)
    obtain ⟨z3, s3, n3⟩ := hsub i (t.length : Int) (by omega) (by omega) (by omega)
    simp only [cond_false, hi, hj, hc, hk, bi_some, hw1, s1, s2, s3]
    have hr := rune_len (IntKind.i32.wrap (c.toNat : Int))
    generalize runeS (IntKind.i32.wrap (c.toNat : Int)) = q at hr
    cases (k == 0) with
    | true =>
      rw [cond_true, cat_ok (by omega), bi_some, cat_ok (by rw [List.length_append]; omega), bi_some]
      exact ⟨_, a + 1 + 1 + 1, by simp only [List.length_append]; omega, by omega, by omega, rfl⟩
    | false =>
      cases (k == 1) with
      | true =>
        rw [cond_false, cond_true, cat_ok (by omega), bi_some, cat_ok (by rw [List.length_append]; omega), bi_some]
        exact ⟨_, a + 1 + 1 + 1, by simp only [List.length_append]; omega, by omega, by omega, rfl⟩
      | false =>
        rw [cond_false, cond_false, cat_ok (by omega), bi_some]
        exact ⟨_, a + 1 + 1 + 1, by simp only [List.length_append]; omega, by omega, by omega, rfl⟩

end Go.Gk
