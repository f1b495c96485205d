/-
  The plain law, part 1: loops in general; what the draws give.
-/
import Derived.Test.YtjhoahdlehkfaaaDoorXSM
set_option linter.unusedVariables false
set_option linter.unusedSimpArgs false
set_option maxRecDepth 100000
namespace Go.Gk

theorem wi_id {n : Int} (h1 : -9223372036854775808 ≤ n) (h2 : n ≤ 9223372036854775807) : wi n = n := w64 ⟨h1, h2⟩

theorem rangeF_inv {α σ : Type} {f : Nat → α → σ → Option σ} (n : Nat) (I : Nat → σ → Prop) : ∀ (l : List α) (i : Nat) (s : σ), i + l.length ≤ n → I i s → (∀ j x s, j < n → I j s → x ∈ l → ∃ s', f j x s = some s' ∧ I (j + 1) s') → ∃ r, rangeF f i l s = some r ∧ I (i + l.length) r
  | [], i, s, _, h, _ => ⟨s, rfl, h⟩
  | x :: l, i, s, hn, h, st => by
    simp only [List.length_cons] at hn
    obtain ⟨s', h1, h2⟩ := st i x s (by omega) h (List.mem_cons_self)
    obtain ⟨r, h3, h4⟩ := rangeF_inv n I l (i + 1) s' (by omega) h2 fun j y s hj hI hy => st j y s hj hI (List.mem_cons_of_mem _ hy)
    refine ⟨r, by simp only [rangeF, h1, bi_some, h3], ?_⟩
    rw [List.length_cons, show i + (l.length + 1) = i + 1 + l.length by omega]
    exact h4

theorem below_ok (x n : Int) (hn : 1 ≤ n) (hn2 : n ≤ 4611686018427387904) : ∃ r, 0 ≤ r ∧ r < n ∧ m_lanemake_Below x n = some r := by
  have h1 : x.tmod n < n := Int.tmod_lt_of_pos x (by omega)
  have h2 : -n < x.tmod n := by
    have := Int.tmod_lt_of_pos (-x) (show 0 < n by omega)
    rw [Int.neg_tmod] at this
    omega
  unfold m_lanemake_Below remZ
  rw [decide_eq_false (show ¬ n < 1 by omega), decide_eq_false (show ¬ n = 0 by omega)]
  simp only [cond_false, bi_some]
  by_cases h : x.tmod n < 0
  · rw [decide_eq_true h]
    exact ⟨x.tmod n + n, by omega, by omega, by simp only [cond_true, bi_some]; rw [wi_id (by omega) (by omega)]⟩
  · rw [decide_eq_false h]
    exact ⟨x.tmod n, by omega, h1, rfl⟩

theorem next_ok (l : List Int) (a n : Int) (hl : l.length ≤ 9223372036854775807) (h0 : 0 ≤ a) (h1 : a < 4611686018427387904) (hn : 1 ≤ n) (hn2 : n ≤ 4611686018427387904) :
    ∃ r, 0 ≤ r ∧ r < n ∧ m_lanemake_Stream_Next ⟨l, a⟩ n = some (r, ⟨l, a + 1⟩) := by
  unfold m_lanemake_Stream_Next
  have hw : wi (a + 1) = a + 1 := wi_id (by omega) (by omega)
  have hw1 : wi (a + 1 - 1) = a := by rw [wi_id (by omega) (by omega)]; omega
  simp only [hw, hw1]
  by_cases hne : l.length = 0
  · obtain ⟨r, r0, r1, hr⟩ := below_ok (wi ((a + 1) * 7919)) n hn hn2
    exact ⟨r, r0, r1, by simp [hne, hr]⟩
  · have hk : a.toNat % l.length < l.length := Nat.mod_lt _ (by omega)
    have hkk : a.tmod (l.length : Int) = ((a.toNat % l.length : Nat) : Int) := by
      rw [Int.tmod_eq_emod_of_nonneg h0, Int.natCast_emod, Int.toNat_of_nonneg h0]
    have hne' : ¬ (l.length : Int) = 0 := by omega
    obtain ⟨r1, _, _, e1⟩ := below_ok l[a.toNat % l.length] 1073741824 (by decide) (by decide)
    obtain ⟨r, r0, r1, hr⟩ := below_ok (wi (r1 + wi (wi (a.tdiv (l.length : Int)) * wi (7919 + ((a.toNat % l.length : Nat) : Int))))) n hn hn2
    refine ⟨r, r0, r1, ?_⟩
    have : ((l.length : Int) == 0) = false := by simpa using hne'
    rw [this]
    simp only [cond_false, remZ, divZ, decide_eq_false hne', bi_some, hkk, getZ_cast, List.getElem?_eq_getElem hk, e1]
    rw [show IntKind.i64.wrap (a.tdiv (l.length : Int)) = wi (a.tdiv (l.length : Int)) from rfl, hr]
    rfl
theorem flip_ok (l : List Int) (a n : Int) (hl : l.length ≤ 9223372036854775807) (h0 : 0 ≤ a) (h1 : a < 4611686018427387904) (hn : 1 ≤ n) (hn2 : n ≤ 4611686018427387904) :
    ∃ b, m_lanemake_Stream_Flip ⟨l, a⟩ n = some (b, ⟨l, a + 1⟩) := by
  obtain ⟨r, _, _, h⟩ := next_ok l a n hl h0 h1 hn hn2
  exact ⟨_, by unfold m_lanemake_Stream_Flip; rw [h]; rfl⟩
theorem getZ_in {α : Type} (xs : List α) {r : Int} (h0 : 0 ≤ r) (h1 : r < xs.length) : ∃ x, x ∈ xs ∧ getZ xs r = some x := by
  obtain ⟨k, rfl⟩ := Int.eq_ofNat_of_zero_le h0
  exact ⟨xs[k], List.getElem_mem _, by rw [getZ_cast, List.getElem?_eq_getElem (by omega)]⟩
theorem some_ok (l : List Int) (a : Int) (xs : List Str) (hl : l.length ≤ 9223372036854775807) (h0 : 0 ≤ a) (h1 : a < 4611686018427387904) (hn : 1 ≤ xs.length) (hn2 : xs.length ≤ 1000) :
    ∃ x, x ∈ xs ∧ m_lanemake_Stream_Some ⟨l, a⟩ xs = some (x, ⟨l, a + 1⟩) := by
  obtain ⟨r, r0, r1, h⟩ := next_ok l a xs.length hl h0 h1 (by omega) (by omega)
  obtain ⟨x, hx, e⟩ := getZ_in xs r0 r1
  exact ⟨x, hx, by unfold m_lanemake_Stream_Some; rw [h]; simp only [bi_some, e]⟩
theorem pick_ok (l : List Int) (a : Int) (xs : List Int) (hl : l.length ≤ 9223372036854775807) (h0 : 0 ≤ a) (h1 : a < 4611686018427387904) (hn : 1 ≤ xs.length) (hn2 : xs.length ≤ 1000) :
    ∃ x, x ∈ xs ∧ m_lanemake_Stream_Pick ⟨l, a⟩ xs = some (x, ⟨l, a + 1⟩) := by
  obtain ⟨r, r0, r1, h⟩ := next_ok l a xs.length hl h0 h1 (by omega) (by omega)
  obtain ⟨x, hx, e⟩ := getZ_in xs r0 r1
  exact ⟨x, hx, by unfold m_lanemake_Stream_Pick; rw [h]; simp only [bi_some, e]⟩

def dom1 : List Str := [[], [46], [97, 46, 46, 98], [45, 97], [65, 46, 98], [97, 95, 98], [95, 120, 46, 121], Lib.repeatL [97] 64, Lib.repeatL [97, 98, 99, 46] 63 ++ [120], Lib.repeatL [97, 98, 99, 46] 63 ++ [120, 121], [97, 46]]
theorem dom1_ok : ∀ x ∈ dom1, x.length ≤ 300 := by decide +kernel
theorem rep1 : m_strings_Repeat [97] 64 = some (Lib.repeatL [97] 64) := by rfl
theorem rep2 : m_strings_Repeat [97, 98, 99, 46] 63 = some (Lib.repeatL [97, 98, 99, 46] 63) := by rfl
theorem cat_ok {a b : Str} (h : a.length + b.length ≤ 9223372036854775807) : catZ a b = some (a ++ b) := by unfold catZ; rw [Nat.ble_eq_true_of_le h]; rfl
theorem apd_some {α : Type} {a b : List α} (h : a.length + b.length ≤ 4294967296) : apd a b = some (a ++ b) := by unfold apd; rw [Nat.ble_eq_true_of_le h]; rfl
theorem domain_ok (l : List Int) (a : Int) (hl : l.length ≤ 9223372036854775807) (h0 : 0 ≤ a) (h1 : a < 4611686018427387000) :
    ∃ d : Str, d.length ≤ 300 ∧ m_lanemake_Stream_Domain ⟨l, a⟩ = some (d, ⟨l, a + 2⟩) := by
  obtain ⟨b, hb⟩ := flip_ok l a 12 hl h0 (by omega) (by decide) (by decide)
  have e2 : a + 1 + 1 = a + 2 := by omega
  unfold m_lanemake_Stream_Domain
  rw [hb]
  simp only [bi_some]
  cases b with
  | true =>
    obtain ⟨x, hx, h⟩ := some_ok l (a + 1) dom1 hl (by omega) (by omega) (by decide) (by decide)
    refine ⟨x, dom1_ok x hx, ?_⟩
    have l2 : (Lib.repeatL [97, 98, 99, 46] 63).length = 252 := by rw [Lib.repeatL_length]; rfl
    simp only [cond_true, rep1, rep2, bi_some]
    rw [cat_ok (by rw [l2]; decide), bi_some, cat_ok (by rw [l2]; decide), bi_some]
    have := h
    unfold dom1 at this
    rw [this, e2]
    rfl
  | false =>
    simp only [cond_false]
    generalize hxs : ([[110, 101, 116, 46, 120], [97, 46, 110, 101, 116, 46, 120], [98, 46, 110, 101, 116, 46, 120], [99, 46, 110, 101, 116, 46, 120], [97, 46, 98, 46, 110, 101, 116, 46, 120], [108, 97, 98, 46, 110, 101, 116, 46, 120], [113, 46, 108, 97, 98, 46, 110, 101, 116, 46, 120], [120], [97, 110, 101, 116, 46, 120], [111, 116, 104, 101, 114], [97], [98]] : List Str) = xs
    have hlen : xs.length = 12 := by rw [← hxs]; rfl
    have hall : ∀ x ∈ xs, x.length ≤ 300 := by rw [← hxs]; decide
    obtain ⟨x, hx, h⟩ := some_ok l (a + 1) xs hl (by omega) (by omega) (by omega) (by omega)
    exact ⟨x, hall x hx, by rw [h, e2]; rfl⟩

/-- The lists of servers that are drawn. -/
def srvs : List (List Str) := [[[105, 110]], [[110, 111, 110, 101], [105, 110]], [[111, 117, 116], [105, 110]], [[111, 117, 116]], [], [[]], [[97], [97]], [[97]]]
theorem srv1 : ∀ x ∈ ([[[105, 110]], [[110, 111, 110, 101], [105, 110]], [[111, 117, 116], [105, 110]], [[111, 117, 116]]] : List (List Str)), x ∈ srvs := by decide
theorem srv2 : ∀ x ∈ ([[], [[]], [[97], [97]], [[97]]] : List (List Str)), x ∈ srvs := by decide
theorem suf1 : ∀ x ∈ ([[], [97, 46, 110, 101, 116, 46, 120], [110, 101, 116, 46, 120], [111, 116, 104, 101, 114]] : List Str), x.length ≤ 300 := by decide
def okSplits (x : List T_api_Split) : Prop := ∀ p ∈ x, p.Suffix.length ≤ 300 ∧ p.Servers ∈ srvs
theorem okSplits_snoc {x : List T_api_Split} {p : T_api_Split} (h : okSplits x) (h1 : p.Suffix.length ≤ 300) (h2 : p.Servers ∈ srvs) : okSplits (x ++ [p]) := by
  intro q hq
  rcases List.mem_append.1 hq with h' | h'
  · exact h q h'
  · obtain rfl := List.mem_singleton.1 h'
    exact ⟨h1, h2⟩
theorem splits_ok (l : List Int) (a : Int) (hl : l.length ≤ 9223372036854775807) (h0 : 0 ≤ a) (h1 : a < 4611686018427380000) :
    ∃ x a', okSplits x ∧ x.length ≤ 5 ∧ a ≤ a' ∧ a' ≤ a + 20 ∧ m_lanemake_Stream_Splits ⟨l, a⟩ = some (x, ⟨l, a'⟩) := by
  unfold m_lanemake_Stream_Splits
  generalize hf : (fun (i1 : Nat) (x3 : Str) (s2 : T_lanemake_Stream × List T_api_Split) => _) = f
  obtain ⟨r, hr, hI⟩ := rangeF_inv (f := f) 4 (fun i s => ∃ a', s.1 = ⟨l, a'⟩ ∧ a ≤ a' ∧ a' ≤ a + 2 * i ∧ s.2.length ≤ i ∧ okSplits s.2) [[], [97, 46, 110, 101, 116, 46, 120], [110, 101, 116, 46, 120], [111, 116, 104, 101, 114]] 0 (⟨l, a⟩, []) (by decide) ⟨a, rfl, Int.le_refl _, by omega, by simp, fun p hp => by cases hp⟩ (by
    rintro j x ⟨s, y⟩ hj ⟨a', rfl, q1, q2, q3, q4⟩ hx
    subst hf
    obtain ⟨b, hb⟩ := flip_ok l a' 4 hl (by omega) (by omega) (by decide) (by decide)
    simp only [hb, bi_some]
    cases b with
    | true => exact ⟨_, rfl, a' + 1, rfl, by omega, by push_cast; omega, by simp only at q3 ⊢; omega, q4⟩
    | false =>
      obtain ⟨r, r0, r1, hn⟩ := next_ok l (a' + 1) 4 hl (by omega) (by omega) (by decide) (by decide)
      obtain ⟨z, hz, e⟩ := getZ_in ([[[105, 110]], [[110, 111, 110, 101], [105, 110]], [[111, 117, 116], [105, 110]], [[111, 117, 116]]] : List (List Str)) r0 r1
      simp only [Bool.not_false, cond_true, hn, bi_some, e]
      rw [apd_some (by simp only [List.length_cons, List.length_nil]; simp only at q3; omega)]
      exact ⟨_, rfl, a' + 1 + 1, rfl, by omega, by push_cast; omega, by simp only [List.length_append, List.length_cons, List.length_nil]; simp only at q3; omega, okSplits_snoc q4 (suf1 x hx) (srv1 z hz)⟩)
  obtain ⟨s, y⟩ := r
  obtain ⟨a', e, q1, q2, q3, q4⟩ := hI
  simp only at e q3 q4
  subst e
  simp only [List.length_cons, List.length_nil] at q2 q3
  obtain ⟨b, hb⟩ := flip_ok l a' 20 hl (by omega) (by omega) (by decide) (by decide)
  rw [hr]
  simp only [bi_some, hb]
  cases b with
  | false => exact ⟨y, a' + 1, q4, by omega, by omega, by omega, rfl⟩
  | true =>
    obtain ⟨d, hd, e1⟩ := domain_ok l (a' + 1) hl (by omega) (by omega)
    obtain ⟨r, r0, r1, hn⟩ := next_ok l (a' + 1 + 2) 4 hl (by omega) (by omega) (by decide) (by decide)
    obtain ⟨z, hz, e2⟩ := getZ_in ([[], [[]], [[97], [97]], [[97]]] : List (List Str)) r0 r1
    simp only [cond_true, e1, bi_some, hn, e2]
    rw [apd_some (by simp only [List.length_cons, List.length_nil]; omega)]
    exact ⟨y ++ [⟨d, z⟩], a' + 1 + 2 + 1, okSplits_snoc q4 hd (srv2 z hz), by simp only [List.length_append, List.length_cons, List.length_nil]; omega, by omega, by omega, rfl⟩

theorem search_ok (l : List Int) (a : Int) (hl : l.length ≤ 9223372036854775807) (h0 : 0 ≤ a) (h1 : a < 4611686018427380000) :
    ∃ x a', (∀ d ∈ x, d.length ≤ 300) ∧ x.length ≤ 3 ∧ a ≤ a' ∧ a' ≤ a + 20 ∧ m_lanemake_Stream_Search ⟨l, a⟩ = some (x, ⟨l, a'⟩) := by
  obtain ⟨r, r0, r1, hn⟩ := next_ok l a 5 hl h0 (by omega) (by decide) (by decide)
  unfold m_lanemake_Stream_Search
  generalize hxs : ([[], [[110, 101, 116, 46, 120]], [[108, 97, 98, 46, 110, 101, 116, 46, 120], [110, 101, 116, 46, 120]], [[110, 101, 116, 46, 120], [110, 101, 116, 46, 120]], [[110, 101, 116, 46, 120], [111, 116, 104, 101, 114]]] : List (List Str)) = xs
  have hlen : xs.length = 5 := by rw [← hxs]; rfl
  have hall : ∀ x ∈ xs, x.length ≤ 2 ∧ ∀ d ∈ x, d.length ≤ 300 := by rw [← hxs]; decide
  obtain ⟨z, hz, e⟩ := getZ_in xs r0 (by omega)
  obtain ⟨z1, z2⟩ := hall z hz
  obtain ⟨b, hb⟩ := flip_ok l (a + 1) 20 hl (by omega) (by omega) (by decide) (by decide)
  simp only [hn, bi_some, e, hb]
  cases b with
  | false => exact ⟨z, a + 1 + 1, z2, by omega, by omega, by omega, rfl⟩
  | true =>
    obtain ⟨d, hd, e1⟩ := domain_ok l (a + 1 + 1) hl (by omega) (by omega)
    have hc : m_slices_Clone_string_string z = some z := by unfold m_slices_Clone_string_string; rw [apd_some (by simp; omega)]; rfl
    simp only [cond_true, hc, e1, bi_some]
    rw [apd_some (by simp only [List.length_cons, List.length_nil]; omega)]
    refine ⟨z ++ [d], a + 1 + 1 + 2, fun x hx => ?_, by simp only [List.length_append, List.length_cons, List.length_nil]; omega, by omega, by omega, rfl⟩
    rcases List.mem_append.1 hx with h | h
    · exact z2 x h
    · obtain rfl := List.mem_singleton.1 h
      exact hd
end Go.Gk
