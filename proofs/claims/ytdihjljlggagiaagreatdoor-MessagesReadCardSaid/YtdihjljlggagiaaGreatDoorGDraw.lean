/-
  What is drawn for messages that are read.
-/
import Derived.Test.YtdihjljlggagiaaGreatDoorGEnc4
set_option linter.unusedVariables false
set_option linter.unusedSimpArgs false
set_option linter.unusedSectionVars false
set_option maxRecDepth 100000
namespace Go.Gk
theorem rangeF_inv {α σ : Type} {f : Nat → α → σ → Option σ} (n : Nat) (I : Nat → σ → Prop) : ∀ (l : List α) (i : Nat) (s : σ), i + l.length ≤ n → I i s → (∀ j x s, j < n → I j s → x ∈ l → ∃ s', f j x s = some s' ∧ I (j + 1) s') → ∃ r, rangeF f i l s = some r ∧ I (i + l.length) r
  | [], i, s, _, h, _ => ⟨s, rfl, h⟩
  | x :: l, i, s, hn, h, st => by
    simp only [List.length_cons] at hn
    obtain ⟨s', h1, h2⟩ := st i x s (by omega) h (List.mem_cons_self)
    obtain ⟨r, h3, h4⟩ := rangeF_inv n I l (i + 1) s' (by omega) h2 fun j y s hj hI hy => st j y s hj hI (List.mem_cons_of_mem _ hy)
    refine ⟨r, by simp only [rangeF, h1, bi_some, h3], ?_⟩
    rw [List.length_cons, show i + (l.length + 1) = i + 1 + l.length by omega]
    exact h4

theorem below_ok (x n : Int) (hn : 1 ≤ n) (hn2 : n ≤ 4611686018427387904) : ∃ r, 0 ≤ r ∧ r < n ∧ m_lanemake_Below x n = some r := by
  have h1 : x.tmod n < n := Int.tmod_lt_of_pos x (by omega)
  have h2 : -n < x.tmod n := by
    have := Int.tmod_lt_of_pos (-x) (show 0 < n by omega)
    rw [Int.neg_tmod] at this
    omega
  unfold m_lanemake_Below remZ
  rw [decide_eq_false (show ¬ n < 1 by omega), decide_eq_false (show ¬ n = 0 by omega)]
  simp only [cond_false, bi_some]
  by_cases h : x.tmod n < 0
  · rw [decide_eq_true h]
    exact ⟨x.tmod n + n, by omega, by omega, by simp only [cond_true, bi_some]; rw [wi_id (by omega) (by omega)]⟩
  · rw [decide_eq_false h]
    exact ⟨x.tmod n, by omega, h1, rfl⟩

theorem next_ok (l : List Int) (a n : Int) (hl : l.length ≤ 9223372036854775807) (h0 : 0 ≤ a) (h1 : a < 4611686018427387904) (hn : 1 ≤ n) (hn2 : n ≤ 4611686018427387904) :
    ∃ r, 0 ≤ r ∧ r < n ∧ m_lanemake_Stream_Next ⟨l, a⟩ n = some (r, ⟨l, a + 1⟩) := by
  unfold m_lanemake_Stream_Next
  have hw : wi (a + 1) = a + 1 := wi_id (by omega) (by omega)
  have hw1 : wi (a + 1 - 1) = a := by rw [wi_id (by omega) (by omega)]; omega
  simp only [hw, hw1]
  by_cases hne : l.length = 0
  · obtain ⟨r, r0, r1, hr⟩ := below_ok (wi ((a + 1) * 7919)) n hn hn2
    exact ⟨r, r0, r1, by simp [hne, hr]⟩
  · have hk : a.toNat % l.length < l.length := Nat.mod_lt _ (by omega)
    have hkk : a.tmod (l.length : Int) = ((a.toNat % l.length : Nat) : Int) := by
      rw [Int.tmod_eq_emod_of_nonneg h0, Int.natCast_emod, Int.toNat_of_nonneg h0]
    have hne' : ¬ (l.length : Int) = 0 := by omega
    obtain ⟨r1, _, _, e1⟩ := below_ok l[a.toNat % l.length] 1073741824 (by decide) (by decide)
    obtain ⟨r, r0, r1, hr⟩ := below_ok (wi (r1 + wi (wi (a.tdiv (l.length : Int)) * wi (7919 + ((a.toNat % l.length : Nat) : Int))))) n hn hn2
    refine ⟨r, r0, r1, ?_⟩
    have : ((l.length : Int) == 0) = false := by simpa using hne'
    rw [this]
    simp only [cond_false, remZ, divZ, decide_eq_false hne', bi_some, hkk, getZ_cast, List.getElem?_eq_getElem hk, e1]
    rw [show IntKind.i64.wrap (a.tdiv (l.length : Int)) = wi (a.tdiv (l.length : Int)) from rfl, hr]
    rfl
theorem flip_ok (l : List Int) (a n : Int) (hl : l.length ≤ 9223372036854775807) (h0 : 0 ≤ a) (h1 : a < 4611686018427387904) (hn : 1 ≤ n) (hn2 : n ≤ 4611686018427387904) :
    ∃ b, m_lanemake_Stream_Flip ⟨l, a⟩ n = some (b, ⟨l, a + 1⟩) := by
  obtain ⟨r, _, _, h⟩ := next_ok l a n hl h0 h1 hn hn2
  exact ⟨_, by unfold m_lanemake_Stream_Flip; rw [h]; rfl⟩
theorem getZ_in {α : Type} (xs : List α) {r : Int} (h0 : 0 ≤ r) (h1 : r < xs.length) : ∃ x, x ∈ xs ∧ getZ xs r = some x := by
  obtain ⟨k, rfl⟩ := Int.eq_ofNat_of_zero_le h0
  exact ⟨xs[k], List.getElem_mem _, by rw [getZ_cast, List.getElem?_eq_getElem (by omega)]⟩
theorem some_ok (l : List Int) (a : Int) (xs : List Str) (hl : l.length ≤ 9223372036854775807) (h0 : 0 ≤ a) (h1 : a < 4611686018427387904) (hn : 1 ≤ xs.length) (hn2 : xs.length ≤ 1000) :
    ∃ x, x ∈ xs ∧ m_lanemake_Stream_Some ⟨l, a⟩ xs = some (x, ⟨l, a + 1⟩) := by
  obtain ⟨r, r0, r1, h⟩ := next_ok l a xs.length hl h0 h1 (by omega) (by omega)
  obtain ⟨x, hx, e⟩ := getZ_in xs r0 r1
  exact ⟨x, hx, by unfold m_lanemake_Stream_Some; rw [h]; simp only [bi_some, e]⟩
theorem pick_ok (l : List Int) (a : Int) (xs : List Int) (hl : l.length ≤ 9223372036854775807) (h0 : 0 ≤ a) (h1 : a < 4611686018427387904) (hn : 1 ≤ xs.length) (hn2 : xs.length ≤ 1000) :
    ∃ x, x ∈ xs ∧ m_lanemake_Stream_Pick ⟨l, a⟩ xs = some (x, ⟨l, a + 1⟩) := by
  obtain ⟨r, r0, r1, h⟩ := next_ok l a xs.length hl h0 h1 (by omega) (by omega)
  obtain ⟨x, hx, e⟩ := getZ_in xs r0 r1
  exact ⟨x, hx, by unfold m_lanemake_Stream_Pick; rw [h]; simp only [bi_some, e]⟩

def wordsT : List Str := [[], [104, 105], [97, 32, 98], [118, 61, 49], [32, 120], [97, 10, 98], [121], [109, 97, 110, 121, 32, 119, 111, 114, 100, 115, 32, 111, 102, 32, 115, 111, 109, 101, 32, 108, 101, 110, 103, 116, 104, 32, 116, 104, 97, 116, 32, 110, 101, 101, 100, 32, 114, 111, 111, 109, 44, 32, 97, 110, 100, 32, 109, 111, 114, 101, 32, 111, 102, 32, 116, 104, 101, 109]]
def okRec (r : T_api_Record) : Prop := r.Name.length ≤ 300 ∧ r.To.length ≤ 300 ∧ r.Words ∈ wordsT ∧ 0 ≤ r.Addr.Hi
theorem u64_nn (x : Int) : 0 ≤ IntKind.u64.wrap x := Int.emod_nonneg _ (by decide)
/-- A draw: what comes out is well, and few numbers are used up. -/
def Dr {α : Type} (l : List Int) (a : Int) (n : Int) (m : Option (α × T_lanemake_Stream)) (p : α → Prop) : Prop := ∃ x a', p x ∧ a ≤ a' ∧ a' ≤ a + n ∧ m = some (x, ⟨l, a'⟩)
theorem range_ok (l : List Int) (a lo hi : Int) (hl : l.length ≤ 9223372036854775807) (h0 : 0 ≤ a) (h1 : a < 4611686018427387904) (h2 : lo ≤ hi) (h3 : -1000000000 ≤ lo) (h4 : hi ≤ 1000000000) :
    ∃ r, lo ≤ r ∧ r ≤ hi ∧ m_lanemake_Stream_Range ⟨l, a⟩ lo hi = some (r, ⟨l, a + 1⟩) := by
  unfold m_lanemake_Stream_Range
  have w1 : wi (hi - lo) = hi - lo := wi_id (by omega) (by omega)
  have w2 : wi (hi - lo + 1) = hi - lo + 1 := wi_id (by omega) (by omega)
  obtain ⟨r, r0, r1, hr⟩ := next_ok l a (hi - lo + 1) hl h0 h1 (by omega) (by omega)
  refine ⟨lo + r, by omega, by omega, ?_⟩
  rw [decide_eq_false (show ¬ hi < lo by omega), w1, w2, hr]
  simp only [cond_false, bi_some]
  rw [wi_id (by omega) (by omega)]
def addrR (x : T_api_Addr) : Prop := 0 ≤ x.Hi
theorem addrD (l : List Int) (a : Int) (hl : l.length ≤ 9223372036854775807) (h0 : 0 ≤ a) (h1 : a < 4611686018427380000) : Dr l a 5 (m_lanemake_Stream_Addr ⟨l, a⟩) addrR := by
  obtain ⟨r, r0, r1, hr⟩ := next_ok l a 6 hl h0 (by omega) (by decide) (by decide)
  unfold m_lanemake_Stream_Addr Dr
  rw [hr]
  simp only [bi_some]
  cases (r == 0) with
  | true =>
    obtain ⟨s, s0, s1, hs⟩ := next_ok l (a + 1) 5 hl (by omega) (by omega) (by decide) (by decide)
    obtain ⟨t, t0, t1, ht⟩ := next_ok l (a + 1 + 1) 5 hl (by omega) (by omega) (by decide) (by decide)
    obtain ⟨x, hx, ex⟩ := getZ_in ([0, 18230571291595767808, 2306139568115548160, 9223372036854775808, 18446744073709551615] : List Int) s0 s1
    obtain ⟨y, hy, ey⟩ := getZ_in ([0, 1, 2, 4294967296, 18446744073709551615] : List Int) t0 t1
    simp only [cond_true, hs, ht, bi_some, ex, ey]
    have : ∀ x ∈ ([0, 18230571291595767808, 2306139568115548160, 9223372036854775808, 18446744073709551615] : List Int), 0 ≤ x := by decide
    refine ⟨_, _, ?_, ?_, ?_, rfl⟩; exact this x hx; omega; omega
  | false =>
    cases (r == 1) with
    | true =>
      obtain ⟨t, t0, t1, ht⟩ := next_ok l (a + 1) 5 hl (by omega) (by omega) (by decide) (by decide)
      obtain ⟨y, hy, ey⟩ := getZ_in ([0, 1, 4294967295, 2130706433, 3232235521] : List Int) t0 t1
      simp only [cond_true, cond_false, ht, bi_some, ey]
      refine ⟨_, _, ?_, ?_, ?_, rfl⟩; exact Int.le_refl _; omega; omega
    | false =>
      cases (r == 2) with
      | true =>
        obtain ⟨x, _, _, hx⟩ := range_ok l (a + 1) 0 16777216 hl (by omega) (by omega) (by decide) (by decide) (by decide)
        simp only [cond_true, cond_false, hx, bi_some]
        refine ⟨_, _, ?_, ?_, ?_, rfl⟩; exact Int.le_refl _; omega; omega
      | false =>
        obtain ⟨x, _, _, hx⟩ := range_ok l (a + 1) 0 20 hl (by omega) (by omega) (by decide) (by decide) (by decide)
        simp only [cond_false, hx, bi_some]
        refine ⟨_, _, ?_, ?_, ?_, rfl⟩; exact Int.le_refl _; omega; omega
theorem rawD (l : List Int) (a : Int) (hl : l.length ≤ 9223372036854775807) (h0 : 0 ≤ a) (h1 : a < 4611686018427370000) : Dr l a 10 (m_lanemake_Stream_Raw ⟨l, a⟩) addrR := by
  obtain ⟨x, b, p, q1, q2, e⟩ := addrD l a hl h0 (by omega)
  obtain ⟨f, hf⟩ := flip_ok l b 15 hl (by omega) (by omega) (by decide) (by decide)
  unfold m_lanemake_Stream_Raw Dr
  rw [e]
  simp only [bi_some, hf]
  cases f with
  | false => refine ⟨_, _, ?_, ?_, ?_, rfl⟩; exact p; omega; omega
  | true =>
    obtain ⟨s, s0, s1, hs⟩ := next_ok l (b + 1) 2 hl (by omega) (by omega) (by decide) (by decide)
    obtain ⟨t, t0, t1, ht⟩ := next_ok l (b + 1 + 1) 3 hl (by omega) (by omega) (by decide) (by decide)
    obtain ⟨y, hy, ey⟩ := getZ_in ([4294967296, 5, 1099511627776] : List Int) t0 t1
    simp only [cond_true, hs, ht, bi_some, ey]
    refine ⟨_, _, ?_, ?_, ?_, rfl⟩; exact u64_nn _; omega; omega
theorem oddD (l : List Int) (a lo hi : Int) (hl : l.length ≤ 9223372036854775807) (h0 : 0 ≤ a) (h1 : a < 4611686018427370000) (h2 : lo ≤ hi) (h3 : -1000000000 ≤ lo) (h4 : hi ≤ 1000000000) : Dr l a 5 (m_lanemake_Stream_Odd ⟨l, a⟩ lo hi) fun _ => True := by
  obtain ⟨f, hf⟩ := flip_ok l a 12 hl (by omega) (by omega) (by decide) (by decide)
  unfold m_lanemake_Stream_Odd Dr
  rw [hf]
  simp only [bi_some]
  cases f with
  | true =>
    obtain ⟨x, _, hx⟩ := pick_ok l (a + 1) [wi (lo - 1), wi (hi + 1), lo, hi, -1099511627776, 1099511627776] hl (by omega) (by omega) (by simp) (by simp)
    simp only [cond_true, hx, bi_some]
    refine ⟨_, _, ?_, ?_, ?_, rfl⟩; exact trivial; omega; omega
  | false =>
    obtain ⟨x, _, _, hx⟩ := range_ok l (a + 1) lo hi hl (by omega) (by omega) h2 h3 h4
    simp only [cond_false, hx, bi_some]
    refine ⟨_, _, ?_, ?_, ?_, rfl⟩; exact trivial; omega; omega
theorem toT : ∀ x ∈ ([[97, 46, 110, 101, 116, 46, 120], [98, 46, 110, 101, 116, 46, 120], [99, 46, 110, 101, 116, 46, 120], [113, 46, 108, 97, 98, 46, 110, 101, 116, 46, 120], [100, 46, 110, 101, 116, 46, 120], [111, 116, 104, 101, 114]] : List Str), x.length ≤ 300 := by decide
theorem toT2 : ∀ x ∈ ([[97, 46, 110, 101, 116, 46, 120], [98, 46, 110, 101, 116, 46, 120]] : List Str), x.length ≤ 300 := by decide
theorem toT3 : ∀ x ∈ ([[], [65], [120]] : List Str), x.length ≤ 300 := by decide
theorem woT : ∀ x ∈ ([[], [104, 105], [97, 32, 98], [118, 61, 49]] : List Str), x ∈ wordsT := by decide
theorem woT2 : ∀ x ∈ ([[32, 120], [97, 10, 98], [], [121]] : List Str), x ∈ wordsT := by decide
theorem recD (l : List Int) (a : Int) (name : Str) (hl : l.length ≤ 9223372036854775807) (h0 : 0 ≤ a) (h1 : a < 4611686018427360000) (hn : name.length ≤ 300) : Dr l a 30 (m_lanemake_Stream_record ⟨l, a⟩ name) okRec := by
  obtain ⟨life, _, hlife⟩ := pick_ok l a [0, 5, 60, 1000000] hl (by omega) (by omega) (by decide) (by decide)
  obtain ⟨kd, k0, k1, hkd⟩ := next_ok l (a + 1) 7 hl (by omega) (by omega) (by decide) (by decide)
  unfold m_lanemake_Stream_record Dr
  rw [hlife]
  simp only [bi_some, hkd]
  generalize hX : (bi (bif (kd == 0) then (some (kd == 0)) else (some (kd == 1))) fun q7 => bif q7 then _ else _ : Option (T_lanemake_Stream × T_api_Record)) = X
  have hq : ∃ r b, okRec r ∧ a + 2 ≤ b ∧ b ≤ a + 5 ∧ X = some (⟨l, b⟩, r) := by
    subst hX
    generalize hb01 : (bif (kd == 0) then (some (kd == 0)) else (some (kd == 1))) = b01
    obtain ⟨b, rfl⟩ : ∃ b, b01 = some b := by subst hb01; cases (kd == 0) <;> exact ⟨_, rfl⟩
    simp only [bi_some]
    have w0 : ([] : Str) ∈ wordsT := by decide
    cases b with
    | true =>
      obtain ⟨x, _, _, hx⟩ := range_ok l (a + 1 + 1) 1 3 hl (by omega) (by omega) (by decide) (by decide) (by decide)
      simp only [cond_true, hx, bi_some, m_lanemake_at]
      refine ⟨_, _, ?_, ?_, ?_, rfl⟩; exact ⟨hn, by simp, w0, Int.le_refl _⟩; omega; omega
    | false =>
      cases (kd == 2) with
      | true =>
        obtain ⟨x, _, _, hx⟩ := range_ok l (a + 1 + 1) 1 3 hl (by omega) (by omega) (by decide) (by decide) (by decide)
        simp only [cond_true, cond_false, hx, bi_some, m_lanemake_sixAt]
        refine ⟨_, _, ?_, ?_, ?_, rfl⟩; exact ⟨hn, by simp, w0, (by decide : (0 : Int) ≤ 18230571291595767808)⟩; omega; omega
      | false =>
        cases (kd == 3) with
        | true =>
          obtain ⟨x, hx, e⟩ := some_ok l (a + 1 + 1) [[], [104, 105], [97, 32, 98], [118, 61, 49]] hl (by omega) (by omega) (by decide) (by decide)
          simp only [cond_true, cond_false, e, bi_some]
          refine ⟨_, _, ?_, ?_, ?_, rfl⟩; exact ⟨hn, by simp, woT x hx, Int.le_refl _⟩; omega; omega
        | false =>
          cases (kd == 4) with
          | true =>
            obtain ⟨x, hx, e⟩ := some_ok l (a + 1 + 1) [[97, 46, 110, 101, 116, 46, 120], [98, 46, 110, 101, 116, 46, 120]] hl (by omega) (by omega) (by decide) (by decide)
            simp only [cond_true, cond_false, e, bi_some]
            refine ⟨_, _, ?_, ?_, ?_, rfl⟩; exact ⟨hn, toT2 x hx, w0, Int.le_refl _⟩; omega; omega
          | false =>
            obtain ⟨x, hx, e⟩ := some_ok l (a + 1 + 1) [[97, 46, 110, 101, 116, 46, 120], [98, 46, 110, 101, 116, 46, 120], [99, 46, 110, 101, 116, 46, 120], [113, 46, 108, 97, 98, 46, 110, 101, 116, 46, 120], [100, 46, 110, 101, 116, 46, 120], [111, 116, 104, 101, 114]] hl (by omega) (by omega) (by decide) (by decide)
            simp only [cond_false, e, bi_some]
            refine ⟨_, _, ?_, ?_, ?_, rfl⟩; exact ⟨hn, toT x hx, w0, Int.le_refl _⟩; omega; omega
  obtain ⟨r, b, ⟨p1, p2, p3, p4⟩, q1, q2, rfl⟩ := hq
  obtain ⟨f, hf⟩ := flip_ok l b 40 hl (by omega) (by omega) (by decide) (by decide)
  simp only [bi_some, hf]
  cases f with
  | false => refine ⟨_, _, ?_, ?_, ?_, rfl⟩; exact ⟨p1, p2, p3, p4⟩; omega; omega
  | true =>
    obtain ⟨k, k0, k1, hk⟩ := next_ok l (b + 1) 4 hl (by omega) (by omega) (by decide) (by decide)
    simp only [cond_true, hk, bi_some]
    cases (k == 0) with
    | true =>
      obtain ⟨x, _, e⟩ := pick_ok l (b + 1 + 1) [0, 2, 5] hl (by omega) (by omega) (by decide) (by decide)
      simp only [cond_true, e, bi_some]
      refine ⟨_, _, ?_, ?_, ?_, rfl⟩; exact ⟨p1, p2, p3, p4⟩; omega; omega
    | false =>
      cases (k == 1) with
      | true =>
        obtain ⟨x, c, p, c1, c2, e⟩ := rawD l (b + 1 + 1) hl (by omega) (by omega)
        simp only [cond_true, cond_false, e, bi_some]
        refine ⟨_, _, ?_, ?_, ?_, rfl⟩; exact ⟨p1, p2, p3, p⟩; omega; omega
      | false =>
        cases (k == 2) with
        | true =>
          obtain ⟨x, hx, e⟩ := some_ok l (b + 1 + 1) [[], [65], [120]] hl (by omega) (by omega) (by decide) (by decide)
          simp only [cond_true, cond_false, e, bi_some]
          refine ⟨_, _, ?_, ?_, ?_, rfl⟩; exact ⟨p1, toT3 x hx, p3, p4⟩; omega; omega
        | false =>
          obtain ⟨x, hx, e⟩ := some_ok l (b + 1 + 1) [[32, 120], [97, 10, 98], [], [121]] hl (by omega) (by omega) (by decide) (by decide)
          obtain ⟨y, c, _, c1, c2, e2⟩ := oddD l (b + 1 + 1 + 1) 0 1000000 hl (by omega) (by omega) (by decide) (by decide) (by decide)
          simp only [cond_false, e, bi_some, e2]
          refine ⟨_, _, ?_, ?_, ?_, rfl⟩; exact ⟨p1, p2, woT2 x hx, p4⟩; omega; omega
theorem named_ok : m_lanelaw1_named 400 = some true := by rfl

theorem recsD (l : List Int) (a many : Int) (hl : l.length ≤ 9223372036854775807) (h0 : 0 ≤ a) (h1 : a < 4611686018427300000) (h2 : 0 ≤ many) (h3 : many ≤ 5) : Dr l a 400 (m_lanemake_Stream_Records ⟨l, a⟩ many) fun x => (∀ r ∈ x, okRec r) ∧ x.length ≤ 5 := by
  unfold m_lanemake_Stream_Records Dr
  rw [decide_eq_true (show many ≤ 9223372036854775807 by omega)]
  simp only [gd_true]
  obtain ⟨r, hr, a1, b1, b2, b3, b4, b5⟩ := rangeG_at (n := many) (s := ((⟨l, a⟩ : T_lanemake_Stream), ([] : List T_api_Record))) (f := fun i1 s2 => bi (m_lanemake_Stream_Some s2.1 [[97, 46, 110, 101, 116, 46, 120], [98, 46, 110, 101, 116, 46, 120], [99, 46, 110, 101, 116, 46, 120], [120, 46, 121]]) fun y13 => bi (m_lanemake_Stream_record y13.2 y13.1) fun y15 => bi (apd s2.2 [y15.1]) fun y17 => some (y15.2, y17))
    (fun i s => ∃ a', s.1 = ⟨l, a'⟩ ∧ a ≤ a' ∧ a' ≤ a + 31 * i ∧ (∀ x ∈ s.2, okRec x) ∧ s.2.length ≤ i) ⟨a, rfl, by omega, by omega, (fun x hx => by cases hx), by simp⟩ (by
      rintro i ⟨s, out⟩ hi ⟨a', e1, e2, e3, e4, e5⟩
      simp only at e1 e2 e3 e4 e5 ⊢
      subst e1
      obtain ⟨x, hx, p1⟩ := some_ok l a' [[97, 46, 110, 101, 116, 46, 120], [98, 46, 110, 101, 116, 46, 120], [99, 46, 110, 101, 116, 46, 120], [120, 46, 121]] hl (by omega) (by omega) (by simp) (by simp)
      rw [p1]
      simp only [bi_some]
      have hxl : x.length ≤ 300 := by
        simp only [List.mem_cons, List.not_mem_nil, or_false] at hx
        rcases hx with rfl | rfl | rfl | rfl <;> decide
      obtain ⟨y, a2, q1, q2, q3, q4⟩ := recD l (a' + 1) x hl (by omega) (by omega) hxl
      rw [q4]
      simp only [bi_some]
      rw [apd_some (by simp; omega)]
      refine ⟨_, rfl, a2, rfl, by omega, by omega, fun w hw => ?_, by simp; omega⟩
      rcases List.mem_append.1 hw with hw | hw
      · exact e4 w hw
      · simp only [List.mem_singleton] at hw
        subst hw
        exact q1)
  rw [hr]
  obtain ⟨s, out⟩ := r
  simp only at b1 b2 b3 b4 b5 ⊢
  subst b1
  have hmt : many.toNat ≤ 5 := by omega
  refine ⟨_, _, ⟨b4, ?_⟩, ?_, ?_, rfl⟩ <;> omega
theorem messageD (l : List Int) (a : Int) (hl : l.length ≤ 9223372036854775807) (h0 : 0 ≤ a) (h1 : a < 4611686018427200000) : Dr l a 2000 (m_lanemake_Stream_Message ⟨l, a⟩) fun m => (∀ q ∈ m.Asked, q.Name.length ≤ 300) ∧ m.Asked.length ≤ 2 ∧ (∀ r ∈ m.Got, okRec r) ∧ m.Got.length ≤ 6 := by
  unfold m_lanemake_Stream_Message Dr
  obtain ⟨i1, _, p1⟩ := pick_ok l a [0, 1, 258, 65535] hl (by omega) (by omega) (by simp) (by simp)
  obtain ⟨f1, p2⟩ := flip_ok l (a + 1) 2 hl (by omega) (by omega) (by decide) (by decide)
  obtain ⟨i2, _, p3⟩ := pick_ok l (a + 1 + 1) [0, 0, 3, 15] hl (by omega) (by omega) (by simp) (by simp)
  obtain ⟨n, hn, p4⟩ := pick_ok l (a + 1 + 1 + 1) [0, 1, 1, 2] hl (by omega) (by omega) (by simp) (by simp)
  have hn2 : 0 ≤ n ∧ n ≤ 2 := by
    simp only [List.mem_cons, List.not_mem_nil, or_false] at hn
    rcases hn with h | h | h | h <;> omega
  rw [p1]
  simp only [bi_some, p2, p3, p4]
  rw [decide_eq_true (show n ≤ 9223372036854775807 by omega)]
  simp only [gd_true]
  obtain ⟨r, hr, a1, b1, b2, b3, b4, b5⟩ := rangeG_at (n := n) (s := ((⟨l, a + 1 + 1 + 1 + 1⟩ : T_lanemake_Stream), ([] : List T_api_Question))) (f := fun i9 s10 => bi (m_lanemake_Stream_Some s10.1 [[97, 46, 110, 101, 116, 46, 120], [110, 101, 116, 46, 120], [100, 101, 101, 112, 46, 97, 46, 110, 101, 116, 46, 120], [111, 116, 104, 101, 114], [120, 46, 97, 46, 110, 101, 116]]) fun y21 => bi (m_lanemake_Stream_Pick y21.2 [1, 5, 28, 12, 16]) fun y23 => bi (apd s10.2 [(⟨y21.1, y23.1⟩ : T_api_Question)]) fun y25 => some (y23.2, y25))
    (fun i s => ∃ a', s.1 = ⟨l, a'⟩ ∧ a + 1 + 1 + 1 + 1 ≤ a' ∧ a' ≤ a + 1 + 1 + 1 + 1 + 2 * i ∧ (∀ x ∈ s.2, x.Name.length ≤ 300) ∧ s.2.length ≤ i) ⟨_, rfl, by omega, by omega, (fun x hx => by cases hx), by simp⟩ (by
      rintro i ⟨s, out⟩ hi ⟨a', e1, e2, e3, e4, e5⟩
      simp only at e1 e2 e3 e4 e5 ⊢
      subst e1
      obtain ⟨x, hx, q1⟩ := some_ok l a' [[97, 46, 110, 101, 116, 46, 120], [110, 101, 116, 46, 120], [100, 101, 101, 112, 46, 97, 46, 110, 101, 116, 46, 120], [111, 116, 104, 101, 114], [120, 46, 97, 46, 110, 101, 116]] hl (by omega) (by omega) (by simp) (by simp)
      obtain ⟨y, _, q2⟩ := pick_ok l (a' + 1) [1, 5, 28, 12, 16] hl (by omega) (by omega) (by simp) (by simp)
      rw [q1]
      simp only [bi_some, q2]
      rw [apd_some (by simp; omega)]
      refine ⟨_, rfl, a' + 1 + 1, rfl, by omega, by omega, fun w hw => ?_, by simp; omega⟩
      rcases List.mem_append.1 hw with hw | hw
      · exact e4 w hw
      · simp only [List.mem_singleton] at hw
        subst hw
        simp only [List.mem_cons, List.not_mem_nil, or_false] at hx
        rcases hx with rfl | rfl | rfl | rfl | rfl <;> simp)
  rw [hr]
  obtain ⟨s, out⟩ := r
  simp only at b1 b2 b3 b4 b5 ⊢
  subst b1
  have hnt : n.toNat ≤ 2 := by omega
  simp only [bi_some]
  obtain ⟨g, g0, g1, p5⟩ := range_ok l a1 0 3 hl (by omega) (by omega) (by omega) (by omega) (by omega)
  rw [p5]
  simp only [bi_some]
  obtain ⟨R, a2, ⟨R1, R2⟩, c1, c2, p6⟩ := recsD l (a1 + 1) g hl (by omega) (by omega) g0 (by omega)
  rw [p6]
  simp only [bi_some]
  obtain ⟨f2, p7⟩ := flip_ok l a2 20 hl (by omega) (by omega) (by decide) (by decide)
  rw [p7]
  simp only [bi_some]
  have step : ∃ x y a3, (bif f2 then (bi (m_lanemake_Stream_Odd (⟨l, a2 + 1⟩ : T_lanemake_Stream) 0 65535) fun y36 => bi (m_lanemake_Stream_Odd y36.2 0 15) fun y38 => some (y38.2, y36.1, y38.1)) else (some ((⟨l, a2 + 1⟩ : T_lanemake_Stream), i1, i2))) = some ((⟨l, a3⟩ : T_lanemake_Stream), x, y) ∧ a2 + 1 ≤ a3 ∧ a3 ≤ a2 + 20 := by
    cases f2 with
    | false => exact ⟨i1, i2, a2 + 1, rfl, by omega, by omega⟩
    | true =>
      obtain ⟨x, a3, _, d1, d2, d3⟩ := oddD l (a2 + 1) 0 65535 hl (by omega) (by omega) (by omega) (by omega) (by omega)
      obtain ⟨y, a4, _, d4, d5, d6⟩ := oddD l a3 0 15 hl (by omega) (by omega) (by omega) (by omega) (by omega)
      exact ⟨x, y, a4, by simp only [cond_true, d3, d6, bi_some], by omega, by omega⟩
  obtain ⟨x, y, a3, s1, s2, s3⟩ := step
  rw [s1]
  simp only [bi_some]
  obtain ⟨f3, p8⟩ := flip_ok l a3 20 hl (by omega) (by omega) (by decide) (by decide)
  rw [p8]
  simp only [bi_some]
  cases f3 with
  | false =>
    simp only [cond_false, bi_some]
    refine ⟨_, _, ⟨b4, ?_, R1, ?_⟩, ?_, ?_, rfl⟩
    · simp only; omega
    · simp only; omega
    · omega
    · omega
  | true =>
    obtain ⟨nm, hnm, p9⟩ := some_ok l (a3 + 1) [[42, 46, 110, 101, 116, 46, 120], [], [65]] hl (by omega) (by omega) (by simp) (by simp)
    have hnl : nm.length ≤ 300 := by
      simp only [List.mem_cons, List.not_mem_nil, or_false] at hnm
      rcases hnm with rfl | rfl | rfl <;> decide
    obtain ⟨z, a4, q1, q2, q3, q4⟩ := recD l (a3 + 1 + 1) nm hl (by omega) (by omega) hnl
    simp only [cond_true, p9, q4, bi_some]
    rw [apd_some (by simp; omega)]
    simp only [bi_some]
    refine ⟨_, _, ⟨b4, ?_, fun w hw => ?_, ?_⟩, ?_, ?_, rfl⟩
    · simp only; omega
    · rcases List.mem_append.1 hw with hw | hw
      · exact R1 w hw
      · simp only [List.mem_singleton] at hw
        subst hw
        exact q1
    · simp; omega
    · omega
    · omega
abbrev manyW : Str := [109, 97, 110, 121, 32, 119, 111, 114, 100, 115, 32, 111, 102, 32, 115, 111, 109, 101, 32, 108, 101, 110, 103, 116, 104, 32, 116, 104, 97, 116, 32, 110, 101, 101, 100, 32, 114, 111, 111, 109, 44, 32, 97, 110, 100, 32, 109, 111, 114, 101, 32, 111, 102, 32, 116, 104, 101, 109]
theorem manyW_in : manyW ∈ wordsT := by decide
end Go.Gk
