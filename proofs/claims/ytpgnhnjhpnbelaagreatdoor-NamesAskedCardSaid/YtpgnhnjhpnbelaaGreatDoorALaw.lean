/-
  The plain law, part 1: loops in general; what the draws give.
  The plain law, part 2: labels and domains.
  The plain law, part 3: splits and lists of suffixes.
  The plain law, part 4: the servers of a name.
  The plain law, part 5: names that are tried; ServersSplit.
  The plain law: records, one by one and in order.
  The plain law: zones, and what is found in them.
  The plain law: the zones that are drawn.
  The plain law: sorting and thinning what was drawn; the zone.
  The plain law: nets that are drawn, and what is wrong with them.
  The plain law: NamesAsked.
-/
import Derived.Test.YtpgnhnjhpnbelaaGreatDoorXAM
set_option linter.unusedVariables false
set_option linter.unusedSimpArgs false
set_option maxRecDepth 100000
namespace Go.Gk

theorem wi_id {n : Int} (h1 : -9223372036854775808 ≤ n) (h2 : n ≤ 9223372036854775807) : wi n = n := w64 ⟨h1, h2⟩

theorem rangeF_inv {α σ : Type} {f : Nat → α → σ → Option σ} (n : Nat) (I : Nat → σ → Prop) : ∀ (l : List α) (i : Nat) (s : σ), i + l.length ≤ n → I i s → (∀ j x s, j < n → I j s → x ∈ l → ∃ s', f j x s = some s' ∧ I (j + 1) s') → ∃ r, rangeF f i l s = some r ∧ I (i + l.length) r
  | [], i, s, _, h, _ => ⟨s, rfl, h⟩
  | x :: l, i, s, hn, h, st => by
    simp only [List.length_cons] at hn
    obtain ⟨s', h1, h2⟩ := st i x s (by omega) h (List.mem_cons_self)
    obtain ⟨r, h3, h4⟩ := rangeF_inv n I l (i + 1) s' (by omega) h2 fun j y s hj hI hy => st j y s hj hI (List.mem_cons_of_mem _ hy)
    refine ⟨r, by simp only [rangeF, h1, bi_some, h3], ?_⟩
    rw [List.length_cons, show i + (l.length + 1) = i + 1 + l.length by omega]
    exact h4

theorem below_ok (x n : Int) (hn : 1 ≤ n) (hn2 : n ≤ 4611686018427387904) : ∃ r, 0 ≤ r ∧ r < n ∧ m_lanemake_Below x n = some r := by
  have h1 : x.tmod n < n := Int.tmod_lt_of_pos x (by omega)
  have h2 : -n < x.tmod n := by
    have := Int.tmod_lt_of_pos (-x) (show 0 < n by omega)
    rw [Int.neg_tmod] at this
    omega
  unfold m_lanemake_Below remZ
  rw [decide_eq_false (show ¬ n < 1 by omega), decide_eq_false (show ¬ n = 0 by omega)]
  simp only [cond_false, bi_some]
  by_cases h : x.tmod n < 0
  · rw [decide_eq_true h]
    exact ⟨x.tmod n + n, by omega, by omega, by simp only [cond_true, bi_some]; rw [wi_id (by omega) (by omega)]⟩
  · rw [decide_eq_false h]
    exact ⟨x.tmod n, by omega, h1, rfl⟩

theorem next_ok (l : List Int) (a n : Int) (hl : l.length ≤ 9223372036854775807) (h0 : 0 ≤ a) (h1 : a < 4611686018427387904) (hn : 1 ≤ n) (hn2 : n ≤ 4611686018427387904) :
    ∃ r, 0 ≤ r ∧ r < n ∧ m_lanemake_Stream_Next ⟨l, a⟩ n = some (r, ⟨l, a + 1⟩) := by
  unfold m_lanemake_Stream_Next
  have hw : wi (a + 1) = a + 1 := wi_id (by omega) (by omega)
  have hw1 : wi (a + 1 - 1) = a := by rw [wi_id (by omega) (by omega)]; omega
  simp only [hw, hw1]
  by_cases hne : l.length = 0
  · obtain ⟨r, r0, r1, hr⟩ := below_ok (wi ((a + 1) * 7919)) n hn hn2
    exact ⟨r, r0, r1, by simp [hne, hr]⟩
  · have hk : a.toNat % l.length < l.length := Nat.mod_lt _ (by omega)
    have hkk : a.tmod (l.length : Int) = ((a.toNat % l.length : Nat) : Int) := by
      rw [Int.tmod_eq_emod_of_nonneg h0, Int.natCast_emod, Int.toNat_of_nonneg h0]
    have hne' : ¬ (l.length : Int) = 0 := by omega
    obtain ⟨r1, _, _, e1⟩ := below_ok l[a.toNat % l.length] 1073741824 (by decide) (by decide)
    obtain ⟨r, r0, r1, hr⟩ := below_ok (wi (r1 + wi (wi (a.tdiv (l.length : Int)) * wi (7919 + ((a.toNat % l.length : Nat) : Int))))) n hn hn2
    refine ⟨r, r0, r1, ?_⟩
    have : ((l.length : Int) == 0) = false := by simpa using hne'
    rw [this]
    simp only [cond_false, remZ, divZ, decide_eq_false hne', bi_some, hkk, getZ_cast, List.getElem?_eq_getElem hk, e1]
    rw [show IntKind.i64.wrap (a.tdiv (l.length : Int)) = wi (a.tdiv (l.length : Int)) from rfl, hr]
    rfl
theorem flip_ok (l : List Int) (a n : Int) (hl : l.length ≤ 9223372036854775807) (h0 : 0 ≤ a) (h1 : a < 4611686018427387904) (hn : 1 ≤ n) (hn2 : n ≤ 4611686018427387904) :
    ∃ b, m_lanemake_Stream_Flip ⟨l, a⟩ n = some (b, ⟨l, a + 1⟩) := by
  obtain ⟨r, _, _, h⟩ := next_ok l a n hl h0 h1 hn hn2
  exact ⟨_, by unfold m_lanemake_Stream_Flip; rw [h]; rfl⟩
theorem getZ_in {α : Type} (xs : List α) {r : Int} (h0 : 0 ≤ r) (h1 : r < xs.length) : ∃ x, x ∈ xs ∧ getZ xs r = some x := by
  obtain ⟨k, rfl⟩ := Int.eq_ofNat_of_zero_le h0
  exact ⟨xs[k], List.getElem_mem _, by rw [getZ_cast, List.getElem?_eq_getElem (by omega)]⟩
theorem some_ok (l : List Int) (a : Int) (xs : List Str) (hl : l.length ≤ 9223372036854775807) (h0 : 0 ≤ a) (h1 : a < 4611686018427387904) (hn : 1 ≤ xs.length) (hn2 : xs.length ≤ 1000) :
    ∃ x, x ∈ xs ∧ m_lanemake_Stream_Some ⟨l, a⟩ xs = some (x, ⟨l, a + 1⟩) := by
  obtain ⟨r, r0, r1, h⟩ := next_ok l a xs.length hl h0 h1 (by omega) (by omega)
  obtain ⟨x, hx, e⟩ := getZ_in xs r0 r1
  exact ⟨x, hx, by unfold m_lanemake_Stream_Some; rw [h]; simp only [bi_some, e]⟩
theorem pick_ok (l : List Int) (a : Int) (xs : List Int) (hl : l.length ≤ 9223372036854775807) (h0 : 0 ≤ a) (h1 : a < 4611686018427387904) (hn : 1 ≤ xs.length) (hn2 : xs.length ≤ 1000) :
    ∃ x, x ∈ xs ∧ m_lanemake_Stream_Pick ⟨l, a⟩ xs = some (x, ⟨l, a + 1⟩) := by
  obtain ⟨r, r0, r1, h⟩ := next_ok l a xs.length hl h0 h1 (by omega) (by omega)
  obtain ⟨x, hx, e⟩ := getZ_in xs r0 r1
  exact ⟨x, hx, by unfold m_lanemake_Stream_Pick; rw [h]; simp only [bi_some, e]⟩

def dom1 : List Str := [[], [46], [97, 46, 46, 98], [45, 97], [65, 46, 98], [97, 95, 98], [95, 120, 46, 121], Lib.repeatL [97] 64, Lib.repeatL [97, 98, 99, 46] 63 ++ [120], Lib.repeatL [97, 98, 99, 46] 63 ++ [120, 121], [97, 46]]
theorem dom1_ok : ∀ x ∈ dom1, x.length ≤ 300 := by decide +kernel
theorem rep1 : m_strings_Repeat [97] 64 = some (Lib.repeatL [97] 64) := by rfl
theorem rep2 : m_strings_Repeat [97, 98, 99, 46] 63 = some (Lib.repeatL [97, 98, 99, 46] 63) := by rfl
theorem cat_ok {a b : Str} (h : a.length + b.length ≤ 9223372036854775807) : catZ a b = some (a ++ b) := by unfold catZ; rw [Nat.ble_eq_true_of_le h]; rfl
theorem apd_some {α : Type} {a b : List α} (h : a.length + b.length ≤ 4294967296) : apd a b = some (a ++ b) := by unfold apd; rw [Nat.ble_eq_true_of_le h]; rfl
theorem domain_ok (l : List Int) (a : Int) (hl : l.length ≤ 9223372036854775807) (h0 : 0 ≤ a) (h1 : a < 4611686018427387000) :
    ∃ d : Str, d.length ≤ 300 ∧ m_lanemake_Stream_Domain ⟨l, a⟩ = some (d, ⟨l, a + 2⟩) := by
  obtain ⟨b, hb⟩ := flip_ok l a 12 hl h0 (by omega) (by decide) (by decide)
  have e2 : a + 1 + 1 = a + 2 := by omega
  unfold m_lanemake_Stream_Domain
  rw [hb]
  simp only [bi_some]
  cases b with
  | true =>
    obtain ⟨x, hx, h⟩ := some_ok l (a + 1) dom1 hl (by omega) (by omega) (by decide) (by decide)
    refine ⟨x, dom1_ok x hx, ?_⟩
    have l2 : (Lib.repeatL [97, 98, 99, 46] 63).length = 252 := by rw [Lib.repeatL_length]; rfl
    simp only [cond_true, rep1, rep2, bi_some]
    rw [cat_ok (by rw [l2]; decide), bi_some, cat_ok (by rw [l2]; decide), bi_some]
    have := h
    unfold dom1 at this
    rw [this, e2]
    rfl
  | false =>
    simp only [cond_false]
    generalize hxs : ([[110, 101, 116, 46, 120], [97, 46, 110, 101, 116, 46, 120], [98, 46, 110, 101, 116, 46, 120], [99, 46, 110, 101, 116, 46, 120], [97, 46, 98, 46, 110, 101, 116, 46, 120], [108, 97, 98, 46, 110, 101, 116, 46, 120], [113, 46, 108, 97, 98, 46, 110, 101, 116, 46, 120], [120], [97, 110, 101, 116, 46, 120], [111, 116, 104, 101, 114], [97], [98]] : List Str) = xs
    have hlen : xs.length = 12 := by rw [← hxs]; rfl
    have hall : ∀ x ∈ xs, x.length ≤ 300 := by rw [← hxs]; decide
    obtain ⟨x, hx, h⟩ := some_ok l (a + 1) xs hl (by omega) (by omega) (by omega) (by omega)
    exact ⟨x, hall x hx, by rw [h, e2]; rfl⟩

/-- The lists of servers that are drawn. -/
def srvs : List (List Str) := [[[105, 110]], [[110, 111, 110, 101], [105, 110]], [[111, 117, 116], [105, 110]], [[111, 117, 116]], [], [[]], [[97], [97]], [[97]]]
theorem srv1 : ∀ x ∈ ([[[105, 110]], [[110, 111, 110, 101], [105, 110]], [[111, 117, 116], [105, 110]], [[111, 117, 116]]] : List (List Str)), x ∈ srvs := by decide
theorem srv2 : ∀ x ∈ ([[], [[]], [[97], [97]], [[97]]] : List (List Str)), x ∈ srvs := by decide
theorem suf1 : ∀ x ∈ ([[], [97, 46, 110, 101, 116, 46, 120], [110, 101, 116, 46, 120], [111, 116, 104, 101, 114]] : List Str), x.length ≤ 300 := by decide
def okSplits (x : List T_api_Split) : Prop := ∀ p ∈ x, p.Suffix.length ≤ 300 ∧ p.Servers ∈ srvs
theorem okSplits_snoc {x : List T_api_Split} {p : T_api_Split} (h : okSplits x) (h1 : p.Suffix.length ≤ 300) (h2 : p.Servers ∈ srvs) : okSplits (x ++ [p]) := by
  intro q hq
  rcases List.mem_append.1 hq with h' | h'
  · exact h q h'
  · obtain rfl := List.mem_singleton.1 h'
    exact ⟨h1, h2⟩
theorem splits_ok (l : List Int) (a : Int) (hl : l.length ≤ 9223372036854775807) (h0 : 0 ≤ a) (h1 : a < 4611686018427380000) :
    ∃ x a', okSplits x ∧ x.length ≤ 5 ∧ a ≤ a' ∧ a' ≤ a + 20 ∧ m_lanemake_Stream_Splits ⟨l, a⟩ = some (x, ⟨l, a'⟩) := by
  unfold m_lanemake_Stream_Splits
  generalize hf : (fun (i1 : Nat) (x3 : Str) (s2 : T_lanemake_Stream × List T_api_Split) => _) = f
  obtain ⟨r, hr, hI⟩ := rangeF_inv (f := f) 4 (fun i s => ∃ a', s.1 = ⟨l, a'⟩ ∧ a ≤ a' ∧ a' ≤ a + 2 * i ∧ s.2.length ≤ i ∧ okSplits s.2) [[], [97, 46, 110, 101, 116, 46, 120], [110, 101, 116, 46, 120], [111, 116, 104, 101, 114]] 0 (⟨l, a⟩, []) (by decide) ⟨a, rfl, Int.le_refl _, by omega, by simp, fun p hp => by cases hp⟩ (by
    rintro j x ⟨s, y⟩ hj ⟨a', rfl, q1, q2, q3, q4⟩ hx
    subst hf
    obtain ⟨b, hb⟩ := flip_ok l a' 4 hl (by omega) (by omega) (by decide) (by decide)
    simp only [hb, bi_some]
    cases b with
    | true => exact ⟨_, rfl, a' + 1, rfl, by omega, by push_cast; omega, by simp only at q3 ⊢; omega, q4⟩
    | false =>
      obtain ⟨r, r0, r1, hn⟩ := next_ok l (a' + 1) 4 hl (by omega) (by omega) (by decide) (by decide)
      obtain ⟨z, hz, e⟩ := getZ_in ([[[105, 110]], [[110, 111, 110, 101], [105, 110]], [[111, 117, 116], [105, 110]], [[111, 117, 116]]] : List (List Str)) r0 r1
      simp only [Bool.not_false, cond_true, hn, bi_some, e]
      rw [apd_some (by simp only [List.length_cons, List.length_nil]; simp only at q3; omega)]
      exact ⟨_, rfl, a' + 1 + 1, rfl, by omega, by push_cast; omega, by simp only [List.length_append, List.length_cons, List.length_nil]; simp only at q3; omega, okSplits_snoc q4 (suf1 x hx) (srv1 z hz)⟩)
  obtain ⟨s, y⟩ := r
  obtain ⟨a', e, q1, q2, q3, q4⟩ := hI
  simp only at e q3 q4
  subst e
  simp only [List.length_cons, List.length_nil] at q2 q3
  obtain ⟨b, hb⟩ := flip_ok l a' 20 hl (by omega) (by omega) (by decide) (by decide)
  rw [hr]
  simp only [bi_some, hb]
  cases b with
  | false => exact ⟨y, a' + 1, q4, by omega, by omega, by omega, rfl⟩
  | true =>
    obtain ⟨d, hd, e1⟩ := domain_ok l (a' + 1) hl (by omega) (by omega)
    obtain ⟨r, r0, r1, hn⟩ := next_ok l (a' + 1 + 2) 4 hl (by omega) (by omega) (by decide) (by decide)
    obtain ⟨z, hz, e2⟩ := getZ_in ([[], [[]], [[97], [97]], [[97]]] : List (List Str)) r0 r1
    simp only [cond_true, e1, bi_some, hn, e2]
    rw [apd_some (by simp only [List.length_cons, List.length_nil]; omega)]
    exact ⟨y ++ [⟨d, z⟩], a' + 1 + 2 + 1, okSplits_snoc q4 hd (srv2 z hz), by simp only [List.length_append, List.length_cons, List.length_nil]; omega, by omega, by omega, rfl⟩

theorem search_ok (l : List Int) (a : Int) (hl : l.length ≤ 9223372036854775807) (h0 : 0 ≤ a) (h1 : a < 4611686018427380000) :
    ∃ x a', (∀ d ∈ x, d.length ≤ 300) ∧ x.length ≤ 3 ∧ a ≤ a' ∧ a' ≤ a + 20 ∧ m_lanemake_Stream_Search ⟨l, a⟩ = some (x, ⟨l, a'⟩) := by
  obtain ⟨r, r0, r1, hn⟩ := next_ok l a 5 hl h0 (by omega) (by decide) (by decide)
  unfold m_lanemake_Stream_Search
  generalize hxs : ([[], [[110, 101, 116, 46, 120]], [[108, 97, 98, 46, 110, 101, 116, 46, 120], [110, 101, 116, 46, 120]], [[110, 101, 116, 46, 120], [110, 101, 116, 46, 120]], [[110, 101, 116, 46, 120], [111, 116, 104, 101, 114]]] : List (List Str)) = xs
  have hlen : xs.length = 5 := by rw [← hxs]; rfl
  have hall : ∀ x ∈ xs, x.length ≤ 2 ∧ ∀ d ∈ x, d.length ≤ 300 := by rw [← hxs]; decide
  obtain ⟨z, hz, e⟩ := getZ_in xs r0 (by omega)
  obtain ⟨z1, z2⟩ := hall z hz
  obtain ⟨b, hb⟩ := flip_ok l (a + 1) 20 hl (by omega) (by omega) (by decide) (by decide)
  simp only [hn, bi_some, e, hb]
  cases b with
  | false => exact ⟨z, a + 1 + 1, z2, by omega, by omega, by omega, rfl⟩
  | true =>
    obtain ⟨d, hd, e1⟩ := domain_ok l (a + 1 + 1) hl (by omega) (by omega)
    have hc : m_slices_Clone_string_string z = some z := by unfold m_slices_Clone_string_string; rw [apd_some (by simp; omega)]; rfl
    simp only [cond_true, hc, e1, bi_some]
    rw [apd_some (by simp only [List.length_cons, List.length_nil]; omega)]
    refine ⟨z ++ [d], a + 1 + 1 + 2, fun x hx => ?_, by simp only [List.length_append, List.length_cons, List.length_nil]; omega, by omega, by omega, rfl⟩
    rcases List.mem_append.1 hx with h | h
    · exact z2 x h
    · obtain rfl := List.mem_singleton.1 h
      exact hd


theorem rangeM_congr {α σ ρ : Type} {f g : Nat → α → σ → Option (LS σ ρ)} : ∀ (l : List α) (i : Nat) (s : σ), (∀ j x s, x ∈ l → f j x s = g j x s) → rangeM f i l s = rangeM g i l s
  | [], i, s, _ => rfl
  | x :: l, i, s, h => by
    simp only [rangeM, h i x s List.mem_cons_self]
    cases g i x s with
    | none => rfl
    | some y =>
      cases y with
      | out r => rfl
      | go s' => exact rangeM_congr l (i + 1) s' fun j y s hy => h j y s (List.mem_cons_of_mem _ hy)
theorem rangeM_ex {α ρ : Type} {f : Nat → α → Unit → Option (LS Unit ρ)} : ∀ (l : List α) (i : Nat), (∀ j x, j < i + l.length → x ∈ l → ∃ y, f j x () = some y) → ∃ r, rangeM f i l () = some r
  | [], i, _ => ⟨_, rfl⟩
  | x :: l, i, h => by
    obtain ⟨y, hy⟩ := h i x (by simp) List.mem_cons_self
    simp only [rangeM, hy]
    cases y with
    | out r => exact ⟨_, rfl⟩
    | go s' => exact rangeM_ex l (i + 1) fun j y hj hy => h j y (by simp only [List.length_cons]; omega) (List.mem_cons_of_mem _ hy)
/-- All is well, or the first that is not tells. -/
theorem rangeM_all {α ρ : Type} {f : Nat → α → Unit → Option (LS Unit ρ)} (p : α → Bool) (v : ρ) : ∀ (l : List α) (i : Nat), (∀ j x, l[j]? = some x → f (i + j) x () = some (if p x then .go () else .out v)) → rangeM f i l () = some (if l.all p then .go () else .out v)
  | [], i, _ => rfl
  | x :: l, i, h => by
    have h0 := h 0 x (by simp)
    have ih := rangeM_all p v l (i + 1) fun j y hy => by rw [show i + 1 + j = i + (j + 1) by omega]; exact h (j + 1) y (by simpa using hy)
    rw [Nat.add_zero] at h0
    simp only [rangeM, h0, List.all_cons]
    by_cases hp : p x = true
    · simp only [hp, if_true, Bool.true_and]; exact ih
    · simp only [Bool.not_eq_true] at hp; simp [hp]
theorem rangeI_all {α ρ : Type} {f : Nat → Unit → Option (LS Unit ρ)} (p : α → Bool) (v : ρ) (s : List α) (h : ∀ i x, s[i]? = some x → f i () = some (if p x then .go () else .out v)) : rangeI f (s.length : Int) () = some (if s.all p then .go () else .out v) := by
  have key : ∀ (l : List α) (i : Nat), (∀ j x, l[j]? = some x → f (i + j) () = some (if p x then .go () else .out v)) → rangeM (fun i (_ : Unit) s => f i s) i (List.replicate l.length ()) () = some (if l.all p then .go () else .out v) := by
    intro l
    induction l with
    | nil => intro i _; rfl
    | cons x l ih0 =>
      intro i h
      have h0 := h 0 x (by simp)
      have ih := ih0 (i + 1) fun j y hy => by rw [show i + 1 + j = i + (j + 1) by omega]; exact h (j + 1) y (by simpa using hy)
      rw [Nat.add_zero] at h0
      simp only [List.length_cons, List.replicate_succ, rangeM, h0, List.all_cons]
      by_cases hp : p x = true
      · simp only [hp, if_true, Bool.true_and]; exact ih
      · simp only [Bool.not_eq_true] at hp; simp [hp]
  unfold rangeI
  rw [Int.toNat_natCast]
  exact key s 0 fun j x hx => by rw [Nat.zero_add]; exact h j x hx

def letB (c : UInt8) : Bool := (decide (97 ≤ c.toNat) && decide (c.toNat ≤ 122)) || (decide (48 ≤ c.toNat) && decide (c.toNat ≤ 57))
theorem letter_ok (c : UInt8) : m_name_isLetter (c.toNat : Int) = some (letB c) := by
  unfold m_name_isLetter letB
  congr 1
  rw [Bool.eq_iff_iff]
  simp
  omega
def labB (s : Str) : Bool := (s.all fun c => letB c || decide (c.toNat = 45)) && (decide (s ≠ []) && decide (s.length ≤ 63)) && (decide (s[0]? ≠ some 45) && decide (s[s.length - 1]? ≠ some 45))
def lbs : Str := [97, 98, 99, 100, 101, 102, 103, 104, 105, 106, 107, 108, 109, 110, 111, 112, 113, 114, 115, 116, 117, 118, 119, 120, 121, 122, 48, 49, 50, 51, 52, 53, 54, 55, 56, 57, 45]
def isLabB (s : Str) : Bool := if Lib.hasPrefix s [95] then !Lib.hasPrefix (Lib.trimPrefix s [95]) [95] && labB (Lib.trimPrefix s [95]) && decide (s.length ≤ 63) else labB s
theorem lbs_has (c : UInt8) : (letB c || decide (c.toNat = 45)) = lbs.contains c := by
  have h : ∀ n, n < 256 → (letB (UInt8.ofNat n) || decide ((UInt8.ofNat n).toNat = 45)) = lbs.contains (UInt8.ofNat n) := by decide +kernel
  have := h c.toNat c.toNat_lt
  simpa using this
theorem dw_nil (p : UInt8 → Bool) : ∀ l : Str, l.dropWhile p = [] ↔ ∀ x ∈ l, p x = true
  | [] => by simp
  | c :: l => by
    have ih := dw_nil p l
    rw [List.dropWhile_cons]
    split
    · rename_i h; rw [ih]; simp [h]
    · rename_i h; simp [h]
theorem trimS_nil (t cs : Str) : (Lib.trimS t cs == []) = t.all fun c => cs.contains c := by
  rw [Bool.eq_iff_iff, beq_iff_eq, List.all_eq_true]
  unfold Lib.trimS Lib.trimLeftS
  rw [dw_nil]
  unfold Lib.trimRightS
  constructor
  · intro h x hx
    have hs : t.reverse = t.reverse.takeWhile (cs.contains ·) ++ t.reverse.dropWhile (cs.contains ·) := (List.takeWhile_append_dropWhile).symm
    have hx' : x ∈ t.reverse := List.mem_reverse.2 hx
    rw [hs, List.mem_append] at hx'
    rcases hx' with hx' | hx'
    · have := List.all_eq_true.1 (List.all_takeWhile (p := (cs.contains ·)) (l := t.reverse)) x hx'
      exact this
    · exact h x (List.mem_reverse.2 hx')
  · intro h x hx
    have := (List.dropWhile_sublist (cs.contains ·)).subset (List.mem_reverse.1 hx)
    exact h x (List.mem_reverse.1 this)
theorem labB_pre (t : Str) (h : Lib.hasPrefix t [95] = true) : labB t = false := by
  cases t with
  | nil => rfl
  | cons c t =>
    have : c = 95 := by
      simp [Lib.hasPrefix] at h
      first | exact h | exact h.symm
    subst this
    simp [labB, letB]
theorem isLab_form (s : Str) (h : s.length ≤ 63) : isLabB s = labB (Lib.trimPrefix s [95]) := by
  unfold isLabB
  split
  · cases hp2 : Lib.hasPrefix (Lib.trimPrefix s [95]) [95] with
    | true => rw [labB_pre _ hp2]; rfl
    | false => rw [decide_eq_true h]; simp only [Bool.not_false, Bool.true_and, Bool.and_true]
  · rename_i hn
    rw [Lib.trimPrefix, if_neg hn]
theorem isLab_long (s : Str) (h : ¬ s.length ≤ 63) : isLabB s = false := by
  unfold isLabB labB
  split <;> simp [h]
theorem trim_le (s p : Str) : (Lib.trimPrefix s p).length ≤ s.length := by
  unfold Lib.trimPrefix
  split <;> simp

theorem ends_ok (s : Str) (hs : s.length ≤ 1099511627776) : (bi (bif ((!((s : Str) == [])) && (decide (((s.length : Int) : Int) ≤ 63))) then (bi (getZ s 0) fun c42 => some (((c42.toNat : Int) : Int) != 45)) else (some false)) fun q39 => bi (bif q39 then (bi (getZ s (wi ((s.length : Int) - 1))) fun c48 => some (((c48.toNat : Int) : Int) != 45)) else (some false)) fun q45 => some q45) = some ((decide (s ≠ []) && decide (s.length ≤ 63)) && (decide (s[0]? ≠ some 45) && decide (s[s.length - 1]? ≠ some 45))) := by
  by_cases he : s = []
  · subst he; rfl
  · have hpos : 0 < s.length := List.length_pos_iff.2 he
    have hb : (s == []) = false := by simpa using he
    rw [hb, wi_id (by omega) (by omega), show ((s.length : Int) - 1) = ((s.length - 1 : Nat) : Int) by omega, show (0 : Int) = ((0 : Nat) : Int) from rfl, getZ_cast, getZ_cast]
    have hc0 := List.getElem?_eq_getElem hpos
    have hcl := List.getElem?_eq_getElem (show s.length - 1 < s.length by omega)
    generalize s[0] = c0 at hc0
    generalize s[s.length - 1] = cl at hcl
    rw [hc0, hcl]
    have k0 : ((c0.toNat : Int) != 45) = decide ((some c0 : Option UInt8) ≠ some 45) := by
      rw [Bool.eq_iff_iff]; simp [← UInt8.toNat_inj]; omega
    have k1 : ((cl.toNat : Int) != 45) = decide ((some cl : Option UInt8) ≠ some 45) := by
      rw [Bool.eq_iff_iff]; simp [← UInt8.toNat_inj]; omega
    have k2 : decide ((s.length : Int) ≤ 63) = decide (s.length ≤ 63) := by rw [Bool.eq_iff_iff]; simp; omega
    simp only [bi_some, k0, k1, k2, decide_eq_true (show s ≠ [] from he), Bool.not_false, Bool.true_and]
    cases decide (s.length ≤ 63) <;> cases decide ((some c0 : Option UInt8) ≠ some 45) <;> cases decide ((some cl : Option UInt8) ≠ some 45) <;> rfl

theorem isLabel1 (k : Nat) (s : Str) (hs : s.length ≤ 1099511627776) (hp : Lib.hasPrefix s [95] = false) : m_name_isLabel (k + 1) s = some (labB s) := by
  unfold m_name_isLabel m_strings_CutPrefix
  simp only [bi_some, hp, cond_false]
  rw [rangeI_all (fun c => letB c || decide (c.toNat = 45)) false s (fun i c hc => by
    rw [getZ_cast, hc]
    simp only [bi_some, letter_ok]
    have k0 : ((c.toNat : Int) != 45) = !decide (c.toNat = 45) := by
      rw [Bool.eq_iff_iff]; simp; omega
    rw [k0]
    cases letB c <;> cases decide (c.toNat = 45) <;> rfl)]
  rw [decide_eq_true (show (s.length : Int) ≤ 9223372036854775807 by omega), gd_true, bi_some]
  cases hall : (s.all fun c => letB c || decide (c.toNat = 45)) with
  | false => simp [goI, labB, hall]
  | true =>
    simp only [if_true, goI]
    rw [ends_ok s hs]
    simp [labB, hall]
theorem isLabel_ok (k : Nat) (s : Str) (hs : s.length ≤ 1099511627776) : m_name_isLabel (k + 2) s = some (isLabB s) := by
  cases hp : Lib.hasPrefix s [95] with
  | false => rw [isLabel1 (k + 1) s hs hp]; simp [isLabB, hp]
  | true =>
    have hle := trim_le s [95]
    unfold m_name_isLabel m_strings_CutPrefix m_strings_HasPrefix
    simp only [bi_some, hp, cond_true, isLabB, if_true]
    have k2 : decide ((s.length : Int) ≤ 63) = decide (s.length ≤ 63) := by rw [Bool.eq_iff_iff]; simp; omega
    rw [k2]
    cases hp2 : Lib.hasPrefix (Lib.trimPrefix s [95]) [95] with
    | true => rfl
    | false =>
      rw [isLabel1 k _ (by omega) hp2]
      rfl
theorem labelForm_ok (s : Str) (hs : s.length ≤ 1099511627776) : m_laneref1_LabelForm s = some (isLabB s) := by
  unfold m_laneref1_LabelForm m_strings_TrimPrefix
  by_cases hl : s.length ≤ 63
  · rw [isLab_form s hl, decide_eq_false (show ¬ (s.length : Int) > 63 by omega)]
    have hle := trim_le s [95]
    simp only [cond_false, bi_some]
    generalize Lib.trimPrefix s [95] = t at hle
    have ht : m_strings_Trim t [97, 98, 99, 100, 101, 102, 103, 104, 105, 106, 107, 108, 109, 110, 111, 112, 113, 114, 115, 116, 117, 118, 119, 120, 121, 122, 48, 49, 50, 51, 52, 53, 54, 55, 56, 57, 45] = some (Lib.trimS t lbs) := by
      unfold m_strings_Trim
      rw [Nat.ble_eq_true_of_le (show t.length ≤ 1099511627776 by omega)]
      rfl
    have hall : (t.all fun c => letB c || decide (c.toNat = 45)) = (Lib.trimS t lbs == []) := by rw [trimS_nil]; congr 1; funext c; exact lbs_has c
    have := ends_ok t (by omega)
    rw [ht]
    simp only [bi_some]
    by_cases he : t = []
    · subst he; rfl
    · have hb : (t == []) = false := by simpa using he
      rw [hb] at this ⊢
      rw [decide_eq_true (show (t.length : Int) ≤ 63 by omega)] at this
      simp only [Bool.not_false, cond_true, Bool.true_and, bi_some] at this ⊢
      simp only [labB, hall, decide_eq_true (show t ≠ [] from he), decide_eq_true (show t.length ≤ 63 by omega), Bool.true_and] at this ⊢
      cases hc : (Lib.trimS t lbs == []) with
      | false => rfl
      | true => simp only [cond_true]; exact this
  · rw [isLab_long s hl, decide_eq_true (show (s.length : Int) > 63 by omega)]
    rfl

/-! ### Domains -/
def domF (s : Str) : Int := if s.length > 253 then 2 else if (Lib.split s [46]).all isLabB then 0 else 5
theorem splitK_le (sep : List UInt8) : ∀ (k : Nat) (s : List UInt8) (x : List UInt8), x ∈ Lib.splitK sep 0 k s → x.length ≤ s.length
  | 0, s, x, h => by simp [Lib.splitK] at h; rw [h]; exact Nat.le_refl _
  | k + 1, s, x, h => by
    unfold Lib.splitK at h
    split at h
    · simp at h; rw [h]; exact Nat.le_refl _
    · rcases List.mem_cons.1 h with rfl | h
      · simp; omega
      · have := splitK_le sep k _ x h
        simp at this
        omega
theorem flat_eS (l : List (List UInt8)) : (l.map fun x => Value.string ⟨x.toArray⟩).map D.v = l.flatMap eS := by
  induction l with
  | nil => rfl
  | cons x l ih => simp only [List.map_cons, List.flatMap_cons, ih]; rfl
theorem split_le (s : Str) : ∀ x ∈ Lib.split s [46], x.length ≤ s.length := fun x hx => splitK_le [46] _ s x hx
theorem check_ok (k : Nat) (s : Str) (hs : s.length ≤ 1000000) : m_name_CheckDomain (k + 2) s = some (domF s) := by
  unfold m_name_CheckDomain m_strings_Split domF
  by_cases hl : s.length > 253
  · rw [if_pos hl, decide_eq_true (show (s.length : Int) > 253 by omega)]; rfl
  · rw [if_neg hl, decide_eq_false (show ¬ (s.length : Int) > 253 by omega)]
    simp only [cond_false]
    rw [nblt.2 (show s.length < 4294967281 by omega)]
    simp only [gd_true, bi_some]
    rw [rangeM_all isLabB 5 _ 0 (fun j x hx => by
      have := split_le s x (List.mem_of_getElem? hx)
      rw [isLabel_ok k x (by omega)]
      cases isLabB x <;> rfl)]
    cases (Lib.split s [46]).all isLabB <;> rfl
theorem fault_ok (s : Str) (hs : s.length ≤ 1000000) : m_laneref1_DomainFault s = some (domF s) := by
  unfold m_laneref1_DomainFault m_strings_Split domF
  by_cases hl : s.length > 253
  · rw [if_pos hl, decide_eq_true (show (s.length : Int) > 253 by omega)]; rfl
  · rw [if_neg hl, decide_eq_false (show ¬ (s.length : Int) > 253 by omega)]
    simp only [cond_false]
    rw [nblt.2 (show s.length < 4294967281 by omega)]
    simp only [gd_true, bi_some]
    rw [rangeM_all isLabB 5 _ 0 (fun j x hx => by
      have := split_le s x (List.mem_of_getElem? hx)
      rw [labelForm_ok x (by omega)]
      cases isLabB x <;> rfl)]
    cases (Lib.split s [46]).all isLabB <;> rfl


theorem rangeM_ex2 {α ρ : Type} {f g : Nat → α → Unit → Option (LS Unit ρ)} : ∀ (l : List α) (i : Nat), (∀ j x, j < i + l.length → x ∈ l → ∃ y, f j x () = some y ∧ g j x () = some y) → ∃ r, rangeM f i l () = some r ∧ rangeM g i l () = some r
  | [], i, _ => ⟨_, rfl, rfl⟩
  | x :: l, i, h => by
    obtain ⟨y, h1, h2⟩ := h i x (by simp) List.mem_cons_self
    simp only [rangeM, h1, h2]
    cases y with
    | out r => exact ⟨_, rfl, rfl⟩
    | go s' => exact rangeM_ex2 l (i + 1) fun j y hj hy => h j y (by simp only [List.length_cons]; omega) (List.mem_cons_of_mem _ hy)

theorem rangeM_ex3 {α ρ : Type} {f g : Nat → α → Unit → Option (LS Unit ρ)} (p : ρ → Prop) : ∀ (l : List α) (i : Nat), (∀ j x, j < i + l.length → x ∈ l → ∃ y, f j x () = some y ∧ g j x () = some y ∧ ∀ v, y = .out v → p v) → ∃ r, rangeM f i l () = some r ∧ rangeM g i l () = some r ∧ ∀ v, r = .out v → p v
  | [], i, _ => ⟨_, rfl, rfl, fun v h => by cases h⟩
  | x :: l, i, h => by
    obtain ⟨y, h1, h2, h3⟩ := h i x (by simp) List.mem_cons_self
    simp only [rangeM, h1, h2]
    cases y with
    | out r => exact ⟨_, rfl, rfl, fun v h => by cases h; exact h3 _ rfl⟩
    | go s' => exact rangeM_ex3 p l (i + 1) fun j y hj hy => h j y (by simp only [List.length_cons]; omega) (List.mem_cons_of_mem _ hy)

/-- What the servers of a split say, to the one and to the other. -/
def restF (S : List Str) : Option (LS Unit Int) := bi (rangeM (σ := Unit) (ρ := LS Unit Int) (fun i45 x47 s46 => bi (m_kit_IsKey 400 x47) fun y56 => bif !y56 then (bi (bi (some 5) fun v => some (.out v)) fun v => some (.out v)) else (bi (subZ S 0 (i45 : Int)) fun z64 => bi (m_slices_Contains_string_string z64 x47) fun y66 => bif y66 then (bi (bi (some 6) fun v => some (.out v)) fun v => some (.out v)) else (some (.go ())))) 0 S ()) fun q => goI q fun a50 => some (.go ())
def restG (S : List Str) : Option (LS Unit Int) := bi (m_slices_ContainsFunc_string_string S) fun y45 => bif y45 then (bi (some 5) fun v => some (.out v)) else (bi (rangeM (σ := Unit) (ρ := LS Unit Int) (fun i51 x53 s52 => bi (subZ S 0 (i51 : Int)) fun z62 => bi (m_slices_Contains_string_string z62 x53) fun y64 => bif y64 then (bi (bi (some 6) fun v => some (.out v)) fun v => some (.out v)) else (some (.go ()))) 0 S ()) fun q => goI q fun a56 => some (.go ()))
theorem rest_tab : ∀ S ∈ srvs, ∃ y, restF S = some y ∧ restG S = some y := by
  intro S hS
  simp only [srvs, List.mem_cons, List.not_mem_nil, or_false] at hS
  rcases hS with rfl | rfl | rfl | rfl | rfl | rfl | rfl | rfl <;> exact ⟨_, rfl, rfl⟩

theorem splitsFault_ok (l : List T_api_Split) (h : okSplits l) (hl : l.length ≤ 5) : ∃ r, m_name_CheckSplits 400 l = some r ∧ m_laneref1_SplitsFault l = some r := by
  unfold m_name_CheckSplits m_laneref1_SplitsFault
  rw [decide_eq_false (show ¬ (l.length : Int) > 50 by omega)]
  simp only [cond_false]
  generalize hf : (fun (i3 : Nat) (x5 : T_api_Split) (s4 : Unit) => _) = f
  generalize hg : (fun (i3 : Nat) (x5 : T_api_Split) (s4 : Unit) => _) = g
  obtain ⟨r, h1, h2⟩ := rangeM_ex2 (f := f) (g := g) l 0 (by
    intro j x hj hx
    obtain ⟨hs, hS⟩ := h x hx
    obtain ⟨y, hF, hG⟩ := rest_tab _ hS
    subst hf; subst hg
    simp only
    unfold restF at hF
    unfold restG at hG
    rw [check_ok 398 _ (by omega), fault_ok _ (by omega), hF, hG]
    have hord : ∃ b, (bif decide (((j : Int) : Int) > 0) then (bi (getZ l (wi ((j : Int) - 1))) fun x30 => some (Op.bytesLess x.Suffix x30.Suffix || (x.Suffix : Str) == x30.Suffix)) else (some false)) = some b := by
      cases hd : decide ((j : Int) > 0) with
      | false => exact ⟨_, rfl⟩
      | true =>
        have hj0 : (j : Int) > 0 := of_decide_eq_true hd
        obtain ⟨z, _, hz⟩ := getZ_in l (r := wi ((j : Int) - 1)) (by rw [wi_id (by omega) (by omega)]; omega) (by rw [wi_id (by omega) (by omega)]; omega)
        rw [hz]
        exact ⟨_, rfl⟩
    obtain ⟨b, hb⟩ := hord
    rw [hb]
    simp only [and_self, bi_some]
    cases (x.Suffix == []) <;> cases (domF x.Suffix != 0) <;> cases b <;> cases ((x.Servers.length : Int) == 0) <;> cases decide ((x.Servers.length : Int) > 10) <;> exact ⟨_, rfl⟩)
  rw [h1, h2]
  cases r <;> exact ⟨_, rfl, rfl⟩

/-! ### Suffixes to be tried -/
theorem searchFault_ok (l : List Str) (dots : Int) (h : ∀ d ∈ l, d.length ≤ 300) (hl : l.length ≤ 10) : ∃ r, m_name_searchFault 400 l dots = some r ∧ m_laneref1_SearchFault l dots = some r := by
  unfold m_name_searchFault m_laneref1_SearchFault m_name_checkDomains
  rw [decide_eq_false (show ¬ (l.length : Int) > 10 by omega)]
  simp only [cond_false]
  generalize hf : (fun (i3 : Nat) (x5 : Str) (s4 : Unit) => _) = f
  generalize hg : (fun (i3 : Nat) (x5 : Str) (s4 : Unit) => _) = g
  obtain ⟨r, h1, h2, h3⟩ := rangeM_ex3 (f := f) (g := g) (fun v => (v != 0) = true) l 0 (by
    intro j x hj hx
    have hs := h x hx
    subst hf; subst hg
    simp only
    rw [check_ok 398 _ (by omega), fault_ok _ (by omega)]
    simp only [bi_some]
    cases hd : (domF x != 0) with
    | true => exact ⟨_, rfl, rfl, fun v e => by cases e; exact hd⟩
    | false => exact ⟨_, rfl, rfl, fun v e => by cases e⟩)
  have ho : ∃ b, m_kit_Outside dots 0 15 = some b ∧ m_laneref1_in dots 0 15 = some (!b) := by
    refine ⟨_, rfl, ?_⟩
    unfold m_laneref1_in
    congr 1
    rw [Bool.eq_iff_iff]
    simp
  obtain ⟨b, o1, o2⟩ := ho
  rw [h1, h2, o1, o2]
  cases r with
  | out r =>
    have := h3 r rfl
    refine ⟨r, ?_, rfl⟩
    simp only [bi_some, goI, this, cond_true]
  | go _ => cases b <;> exact ⟨_, rfl, rfl⟩


/-- z is name, or above it. -/
def UP (name z : Str) : Prop := z = [] ∨ name = z ∨ ∃ u, name = u ++ 46 :: z
theorem UP.suf {name z : Str} (h : UP name z) : z <:+ name := by
  rcases h with rfl | rfl | ⟨u, rfl⟩
  · exact List.nil_suffix
  · exact List.suffix_refl _
  · exact ⟨u ++ [46], by simp⟩
theorem UP.eq {name a b : Str} (ha : UP name a) (hb : UP name b) (h : a.length = b.length) : a = b :=
  (List.suffix_of_suffix_length_le ha.suf hb.suf (Nat.le_of_eq h)).eq_of_length h
def after (s : Str) : Str := (cut1 s 46).2.1
theorem after_spec : ∀ s : Str, (∃ w, s = w ++ 46 :: after s ∧ 46 ∉ w) ∨ (46 ∉ s ∧ after s = []) := by
  have key : ∀ s : Str, (∃ w : Str, Lib.indexByte s 46 = (w.length : Int) ∧ s = w ++ 46 :: s.drop (w.length + 1) ∧ (46 : UInt8) ∉ w) ∨ (Lib.indexByte s 46 = -1 ∧ (46 : UInt8) ∉ s) := by
    intro s
    induction s with
    | nil => exact .inr ⟨rfl, by simp⟩
    | cons b s ih =>
      by_cases hb : b = 46
      · subst hb
        exact .inl ⟨[], by simp [Lib.indexByte], by simp, by simp⟩
      · have hb' : (b == 46) = false := by simpa using hb
        have hb2 : (46 : UInt8) ≠ b := fun e => hb e.symm
        unfold Lib.indexByte
        rw [hb']
        rcases ih with ⟨w, h1, h2, h3⟩ | ⟨h1, h2⟩
        · left
          refine ⟨b :: w, ?_, ?_, ?_⟩
          · rw [h1]
            have : ((w.length : Int) == -1) = false := by
              rw [beq_eq_false_iff_ne]; omega
            simp [this]
          · simpa using h2
          · simp [hb2, h3]
        · right
          rw [h1]
          exact ⟨by simp, by simp [hb2, h2]⟩
  intro s
  unfold after cut1
  rcases key s with ⟨w, h1, h2, h3⟩ | ⟨h1, h2⟩
  · left
    rw [h1, if_pos (by omega)]
    exact ⟨w, by simpa using h2, h3⟩
  · right
    rw [h1, if_neg (by omega)]
    exact ⟨h2, rfl⟩
theorem UP.after {name s : Str} (h : UP name s) (hs : s ≠ []) : UP name (after s) := by
  rcases after_spec s with ⟨w, e, hw⟩ | ⟨_, e⟩
  · rcases h with rfl | rfl | ⟨u, rfl⟩
    · exact absurd rfl hs
    · exact .inr (.inr ⟨w, e⟩)
    · exact .inr (.inr ⟨u ++ 46 :: w, by rw [List.append_assoc, List.cons_append, ← e]⟩)
  · rw [e]; exact .inl rfl
theorem UP.next {name s z : Str} (h : UP name s) (hz : UP name z) (hl : z.length < s.length) : z.length ≤ (Gk.after s).length := by
  rcases hz with rfl | rfl | ⟨u, e⟩
  · exact Nat.zero_le _
  · have := h.suf.length_le; omega
  · have h1 : 46 :: z <:+ s := List.suffix_of_suffix_length_le ⟨u, e.symm⟩ h.suf (by simp; omega)
    obtain ⟨v, hv⟩ := h1
    rcases after_spec s with ⟨w, e2, hw⟩ | ⟨hn, _⟩
    · have hle : w.length ≤ v.length := by
        rcases Nat.lt_or_ge v.length w.length with hlt | hge
        · exfalso
          apply hw
          have g1 : s[v.length]? = some 46 := by rw [← hv, List.getElem?_append_right (Nat.le_refl _)]; simp
          rw [e2, List.getElem?_append_left hlt] at g1
          exact List.mem_of_getElem? g1
        · exact hge
      have l1 := congrArg List.length hv
      have l2 := congrArg List.length e2
      simp only [List.length_append, List.length_cons] at l1 l2
      omega
    · exact absurd (by rw [← hv]; simp) hn
theorem after_lt {s : Str} (hs : s ≠ []) : (after s).length < s.length := by
  rcases after_spec s with ⟨w, e, _⟩ | ⟨_, e⟩
  · have := congrArg List.length e
    simp only [List.length_append, List.length_cons] at this
    omega
  · rw [e]; exact List.length_pos_iff.2 hs

theorem under_ok (name z : Str) (h1 : name.length ≤ 1000000) (h2 : z.length ≤ 1000000) : ∃ b, m_name_under name z = some b ∧ (z = [] ∨ b = true ↔ UP name z) := by
  unfold m_name_under m_strings_HasSuffix
  rw [cat_ok (by simp; omega)]
  simp only [bi_some, Nat.ble_eq_true_of_le (show name.length ≤ 1099511627776 by omega), gd_true]
  cases he : (name == z) with
  | true =>
    have : name = z := by simpa using he
    exact ⟨true, rfl, fun _ => .inr (.inl this), fun _ => .inr rfl⟩
  | false =>
    have hne : name ≠ z := by simpa using he
    refine ⟨_, rfl, ?_⟩
    simp only [Lib.hasSuffix, List.isSuffixOf_iff_suffix]
    constructor
    · rintro (rfl | ⟨u, e⟩)
      · exact .inl rfl
      · exact .inr (.inr ⟨u, by simpa using e.symm⟩)
    · rintro (rfl | e | ⟨u, e⟩)
      · exact .inl rfl
      · exact absurd e hne
      · exact .inr ⟨u, by simpa using e.symm⟩

theorem rangeF_at {α σ : Type} {f : Nat → α → σ → Option σ} (I : Nat → σ → Prop) (l0 : List α) (s : σ) (h0 : I 0 s) (st : ∀ j x s, l0[j]? = some x → I j s → ∃ s', f j x s = some s' ∧ I (j + 1) s') : ∃ r, rangeF f 0 l0 s = some r ∧ I l0.length r := by
  have key : ∀ (l : List α) (i : Nat) (s : σ), (∀ j, l[j]? = l0[i + j]?) → I i s → ∃ r, rangeF f i l s = some r ∧ I (i + l.length) r := by
    intro l
    induction l with
    | nil => intro i s _ h; exact ⟨s, rfl, h⟩
    | cons x l ih =>
      intro i s hl h
      obtain ⟨s', h1, h2⟩ := st i x s (by have := hl 0; simpa using this.symm) h
      obtain ⟨r, h3, h4⟩ := ih (i + 1) s' (fun j => by have := hl (j + 1); rw [List.getElem?_cons_succ] at this; rw [this]; congr 1; omega) h2
      refine ⟨r, by simp only [rangeF, h1, bi_some, h3], ?_⟩
      rw [List.length_cons, show i + (l.length + 1) = i + 1 + l.length by omega]
      exact h4
  obtain ⟨r, h1, h2⟩ := key l0 0 s (fun j => by rw [Nat.zero_add]) h0
  exact ⟨r, h1, by rwa [Nat.zero_add] at h2⟩

/-- The best so far. -/
def Best (l : List T_api_Split) (name : Str) (i : Nat) (s : Int) : Prop :=
  (s = -1 ∧ ∀ j p, j < i → l[j]? = some p → ¬ UP name p.Suffix) ∨
  ∃ (j : Nat) (p : T_api_Split), s = (j : Int) ∧ j < i ∧ l[j]? = some p ∧ UP name p.Suffix ∧ ∀ j' p', j' < i → l[j']? = some p' → UP name p'.Suffix → p'.Suffix.length ≤ p.Suffix.length ∧ (j' < j → p'.Suffix.length < p.Suffix.length)

theorem best_ok (l : List T_api_Split) (name : Str) (hn : name.length ≤ 1000000) (hl : ∀ p ∈ l, p.Suffix.length ≤ 1000000) : ∃ s, Best l name l.length s ∧
    m_name_servers l name = bif decide (s < 0) then some ([], false) else bi (getZ l s) fun x32 => bi (m_slices_Clone_string_string x32.Servers) fun y34 => some (y34, true) := by
  unfold m_name_servers
  generalize hf : (fun (i1 : Nat) (x3 : T_api_Split) (s2 : Int) => _) = f
  obtain ⟨r, h1, h2⟩ := rangeF_at (f := f) (Best l name) l (-1) (.inl ⟨rfl, fun j p h => by omega⟩) (by
    intro j x s hx hB
    subst hf
    simp only
    obtain ⟨b, hb, hU⟩ := under_ok name x.Suffix hn (hl x (List.mem_of_getElem? hx))
    rw [hb]
    simp only [bi_some]
    -- the test against the best so far
    obtain ⟨c, hc, hcc⟩ : ∃ c, (bif decide (s < 0) then (some true) else (bi (getZ l s) fun x17 => some (decide ((x.Suffix.length : Int) > (x17.Suffix.length : Int))))) = some c ∧ (UP name x.Suffix → Best l name (j + 1) (if c then (j : Int) else s)) := by
      rcases hB with ⟨rfl, hno⟩ | ⟨j0, p, rfl, hj0, hp, hpU, hbest⟩
      · refine ⟨true, rfl, fun hUx => .inr ⟨j, x, rfl, by omega, hx, hUx, fun j' p' hj' hp' hU' => ?_⟩⟩
        rcases Nat.lt_or_ge j' j with h | h
        · exact absurd hU' (hno j' p' h hp')
        · obtain rfl : j' = j := by omega
          rw [hx] at hp'; cases hp'
          exact ⟨Nat.le_refl _, fun h => by omega⟩
      · rw [decide_eq_false (show ¬ ((j0 : Int) < 0) by omega), getZ_cast, hp]
        simp only [cond_false, bi_some]
        by_cases hgt : x.Suffix.length > p.Suffix.length
        · refine ⟨true, by rw [decide_eq_true (show (x.Suffix.length : Int) > (p.Suffix.length : Int) by omega)], fun hUx => .inr ⟨j, x, rfl, by omega, hx, hUx, fun j' p' hj' hp' hU' => ?_⟩⟩
          rcases Nat.lt_or_ge j' j with h | h
          · have := (hbest j' p' h hp' hU').1
            exact ⟨by omega, fun _ => by omega⟩
          · obtain rfl : j' = j := by omega
            rw [hx] at hp'; cases hp'
            exact ⟨Nat.le_refl _, fun h => by omega⟩
        · refine ⟨false, by rw [decide_eq_false (show ¬ (x.Suffix.length : Int) > (p.Suffix.length : Int) by omega)], fun hUx => .inr ⟨j0, p, rfl, by omega, hp, hpU, fun j' p' hj' hp' hU' => ?_⟩⟩
          rcases Nat.lt_or_ge j' j with h | h
          · exact hbest j' p' h hp' hU'
          · obtain rfl : j' = j := by omega
            rw [hx] at hp'; cases hp'
            exact ⟨by omega, fun h => by omega⟩
    have hskip : ¬ UP name x.Suffix → Best l name (j + 1) s := fun hnU => by
      rcases hB with ⟨rfl, hno⟩ | ⟨j0, p, rfl, hj0, hp, hpU, hbest⟩
      · refine .inl ⟨rfl, fun j' p' hj' hp' => ?_⟩
        rcases Nat.lt_or_ge j' j with h | h
        · exact hno j' p' h hp'
        · obtain rfl : j' = j := by omega
          rw [hx] at hp'; cases hp'
          exact hnU
      · refine .inr ⟨j0, p, rfl, by omega, hp, hpU, fun j' p' hj' hp' hU' => ?_⟩
        rcases Nat.lt_or_ge j' j with h | h
        · exact hbest j' p' h hp' hU'
        · obtain rfl : j' = j := by omega
          rw [hx] at hp'; cases hp'
          exact absurd hU' hnU
    rw [hc]
    cases he : (x.Suffix == []) with
    | true =>
      have he' : x.Suffix = [] := by simpa using he
      have hUx := hU.1 (.inl he')
      have := hcc hUx
      cases c with
      | true => exact ⟨_, rfl, this⟩
      | false => exact ⟨_, rfl, this⟩
    | false =>
      have he' : x.Suffix ≠ [] := by simpa using he
      cases b with
      | true =>
        have := hcc (hU.1 (.inr rfl))
        cases c with
        | true => exact ⟨_, rfl, this⟩
        | false => exact ⟨_, rfl, this⟩
      | false =>
        have hnU : ¬ UP name x.Suffix := fun h => by
          rcases hU.2 h with h | h
          · exact he' h
          · cases h
        exact ⟨_, rfl, hskip hnU⟩)
  rw [h1]
  exact ⟨r, h2, rfl⟩

theorem clone_ok (l : List Str) (h : l.length ≤ 4294967296) : m_slices_Clone_string_string l = some l := by
  unfold m_slices_Clone_string_string
  rw [apd_some (by simpa using h)]
  rfl
theorem inner_ok {ρ : Type} (z : Str) (mk : List Str → ρ) (f : Nat → T_api_Split → Unit → Option (LS Unit ρ)) : ∀ (l : List T_api_Split) (i : Nat), (∀ i p, p ∈ l → f i p () = some (if p.Suffix = z then .out (mk p.Servers) else .go ())) →
    rangeM f i l () = some (match l.find? (fun p => p.Suffix == z) with | some p => .out (mk p.Servers) | none => .go ())
  | [], i, _ => rfl
  | p :: l, i, h => by
    have ih := inner_ok z mk f l (i + 1) fun i q hq => h i q (List.mem_cons_of_mem _ hq)
    simp only [rangeM, List.find?_cons, h i p List.mem_cons_self]
    by_cases hp : p.Suffix = z
    · have : (p.Suffix == z) = true := by simpa using hp
      simp only [hp, if_true, beq_self_eq_true]
    · have : (p.Suffix == z) = false := by simpa using hp
      simp only [hp, if_false, this]; exact ih

theorem servers_loop (l : List T_api_Split) (name : Str) (hn : name.length ≤ 1000000) (hl : ∀ p ∈ l, p.Servers.length ≤ 1000) {b : Int} (hB : Best l name l.length b) (f : Str → Option (LS Str (List Str × Bool)))
    (hf : ∀ s : Str, s.length ≤ 1000000 → f s = match l.find? (fun p => p.Suffix == s) with | some p => some (.out (p.Servers, true)) | none => if s = [] then some (.out ([], false)) else some (.go (after s))) :
    ∀ (k : Nat) (s : Str), s.length < k → s.length ≤ 1000000 → UP name s → (∀ p ∈ l, UP name p.Suffix → p.Suffix.length ≤ s.length) → loopM f k s = if b < 0 then some ([], false) else (getZ l b).map fun p => (p.Servers, true)
  | 0, s, h, _, _, _ => by omega
  | k + 1, s, h, hs, hU, hm => by
    simp only [loopM, hf s hs]
    cases hfind : l.find? (fun p => p.Suffix == s) with
    | some p =>
      simp only
      have hps : p.Suffix = s := by have := List.find?_some hfind; simpa using this
      obtain ⟨i, hi⟩ := List.getElem?_of_mem (List.mem_of_find?_eq_some hfind)
      rcases hB with ⟨rfl, hno⟩ | ⟨j, q, rfl, hj, hq, hqU, hbest⟩
      · exact absurd (hps ▸ hU) (hno i p (List.getElem?_eq_some_iff.1 hi).1 hi)
      · have h1 := (hbest i p (List.getElem?_eq_some_iff.1 hi).1 hi (hps ▸ hU)).1
        have h2 := hm q (List.mem_of_getElem? hq) hqU
        have hqs : q.Suffix = s := UP.eq hqU hU (by rw [hps] at h1; omega)
        rw [if_neg (by omega), getZ_cast, hq]
        -- the first one that is s is q
        have : p = q := by
          obtain ⟨as1, bs, e, hne⟩ := List.find?_eq_some_iff_append.1 hfind |>.2
          have hi' : l[as1.length]? = some p := by rw [e]; simp
          rcases Nat.lt_trichotomy j as1.length with hlt | heq | hgt
          · have hjq : as1[j]? = some q := by rw [e, List.getElem?_append_left hlt] at hq; exact hq
            have := hne q (List.mem_of_getElem? hjq)
            simp [hqs] at this
          · rw [heq] at hq; rw [hq] at hi'; cases hi'; rfl
          · have := (hbest as1.length p (List.getElem?_eq_some_iff.1 hi').1 hi' (hps ▸ hU)).2 hgt
            rw [hps, hqs] at this
            omega
        rw [this]
        rfl
    | none =>
      have hnone : ∀ p ∈ l, p.Suffix ≠ s := fun p hp e => by
        have := List.find?_eq_none.1 hfind p hp
        simp [e] at this
      by_cases he : s = []
      · subst he
        simp only [if_true]
        rcases hB with ⟨rfl, hno⟩ | ⟨j, q, rfl, hj, hq, hqU, hbest⟩
        · rfl
        · have h2 := hm q (List.mem_of_getElem? hq) hqU
          exact absurd (List.eq_nil_of_length_eq_zero (by simpa using h2)) (hnone q (List.mem_of_getElem? hq))
      · simp only [if_neg he]
        have hlt := after_lt he
        refine servers_loop l name hn hl hB f hf k (after s) (by omega) (by omega) (hU.after he) fun p hp hpU => ?_
        refine UP.next hU hpU ?_
        have h1 := hm p hp hpU
        rcases Nat.lt_or_ge p.Suffix.length s.length with h | h
        · exact h
        · exact absurd (UP.eq hpU hU (by omega)) (hnone p hp)

theorem servers_ok (l : List T_api_Split) (name : Str) (k : Nat) (hn : name.length ≤ 1000000) (hk : name.length < k) (hl : ∀ p ∈ l, p.Suffix.length ≤ 1000000 ∧ p.Servers.length ≤ 1000) : ∃ r, m_name_servers l name = some r ∧ m_laneref1_ServersOf k l name = some r := by
  obtain ⟨b, hB, e1⟩ := best_ok l name hn fun p hp => (hl p hp).1
  have e2 : m_laneref1_ServersOf k l name = if b < 0 then some ([], false) else (getZ l b).map fun p => (p.Servers, true) := by
    unfold m_laneref1_ServersOf
    rw [servers_loop l name hn (fun p hp => (hl p hp).2) hB _ (fun s hs => ?_) k name hk hn (.inr (.inl rfl)) (fun p hp hpU => hpU.suf.length_le)]
    · cases (if b < 0 then some ([], false) else (getZ l b).map fun p => (p.Servers, true)) <;> rfl
    · rw [inner_ok s (fun S => (LS.out (S, true) : LS Str (List Str × Bool))) _ l 0 (fun i p hp => by
        rw [clone_ok _ (show p.Servers.length ≤ 4294967296 by have := (hl p hp).2; omega)]
        by_cases he : p.Suffix = s
        · have : (p.Suffix == s) = true := by simpa using he
          rw [this, if_pos he]; rfl
        · have : (p.Suffix == s) = false := by simpa using he
          rw [this, if_neg he]; rfl)]
      simp only [bi_some]
      cases l.find? (fun p => p.Suffix == s) with
      | some p => rfl
      | none =>
        simp only [goI]
        by_cases he : s = []
        · subst he; rfl
        · have hb : (s == []) = false := by simpa using he
          rw [hb, if_neg he]
          simp only [cond_false, m_strings_Cut, Nat.ble_eq_true_of_le (show s.length ≤ 1099511627776 by omega), gd_true, bi_some]
          rfl
  rw [e1, e2]
  by_cases hb : b < 0
  · rw [if_pos hb, decide_eq_true hb]
    exact ⟨_, rfl, rfl⟩
  · rw [if_neg hb, decide_eq_false hb]
    rcases hB with ⟨rfl, _⟩ | ⟨j, q, rfl, hj, hq, _, _⟩
    · exact absurd (by decide) hb
    · rw [getZ_cast, hq]
      simp only [cond_false, bi_some]
      rw [clone_ok _ (by have := (hl q (List.mem_of_getElem? hq)).2; omega)]
      exact ⟨_, rfl, rfl⟩


theorem rangeF_apd {α β : Type} (g : α → β) (f : Nat → α → List β → Option (List β)) : ∀ (l : List α) (i : Nat) (s : List β), (∀ i x s, x ∈ l → f i x s = bi (apd s [g x]) fun y => some y) → s.length + l.length ≤ 4294967296 → rangeF f i l s = some (s ++ l.map g)
  | [], i, s, _, _ => by simp [rangeF]
  | x :: l, i, s, h, hb => by
    simp only [List.length_cons] at hb
    simp only [rangeF, h i x s List.mem_cons_self]
    rw [apd_some (by simp only [List.length_cons, List.length_nil]; omega)]
    simp only [bi_some]
    rw [rangeF_apd g f l (i + 1) _ (fun i y s hy => h i y s (List.mem_cons_of_mem _ hy)) (by simp only [List.length_append, List.length_cons, List.length_nil]; omega)]
    simp
theorem rangeG_F {α σ : Type} {f : Nat → σ → Option σ} {g : Nat → α → σ → Option σ} (l0 : List α) (s : σ) (h : ∀ i x s, l0[i]? = some x → f i s = g i x s) : rangeG f (l0.length : Int) s = rangeF g 0 l0 s := by
  have key : ∀ (l : List α) (i : Nat) (s : σ), (∀ j, l[j]? = l0[i + j]?) → rangeF (fun i (_ : Unit) s => f i s) i (List.replicate l.length ()) s = rangeF g i l s := by
    intro l
    induction l with
    | nil => intro i s _; rfl
    | cons x l ih =>
      intro i s hl
      simp only [List.length_cons, List.replicate_succ, rangeF]
      rw [h i x s (by have := hl 0; simpa using this.symm)]
      congr 1
      funext s'
      exact ih (i + 1) s' fun j => by have := hl (j + 1); rw [List.getElem?_cons_succ] at this; rw [this]; congr 1; omega
  unfold rangeG
  rw [Int.toNat_natCast]
  exact key l0 0 s fun j => by rw [Nat.zero_add]

theorem contains_ok (s : List Str) (v : Str) : ∃ b, m_slices_Contains_string_string s v = some b := by
  unfold m_slices_Contains_string_string m_slices_Index_string_string
  generalize hf : (fun (i1 : Nat) (x3 : Str) (s2 : Unit) => _) = f
  obtain ⟨r, h⟩ := rangeM_ex (f := f) s 0 (by
    intro j x _ _
    subst hf
    simp only
    cases (v == x) <;> exact ⟨_, rfl⟩)
  rw [h]
  cases r <;> exact ⟨_, rfl⟩

theorem names_ok (search : List Str) (dots : Int) (name : Str) (h : ∀ d ∈ search, d.length ≤ 1000000) (hl : search.length ≤ 1000) (hn : name.length ≤ 1000000) :
    ∃ r, m_name_names search dots name = some r ∧ m_laneref1_NamesTried search dots name = some r ∧ ∀ x ∈ r, x.length ≤ 253 := by
  unfold m_name_names m_laneref1_NamesTried
  have hstep : ∀ (x : Str) (s : List Str), x ∈ search → (bi (catZ name [46]) fun y12 => bi (catZ y12 x) fun y14 => bi (apd s [y14]) fun y16 => some y16) = bi (apd s [(name ++ [46]) ++ x]) fun y => some y := fun x s hx => by
    have := h x hx
    rw [cat_ok (by simp only [List.length_cons, List.length_nil]; omega), bi_some, cat_ok (by simp only [List.length_append, List.length_cons, List.length_nil]; omega), bi_some]
  rw [rangeF_apd (fun x => (name ++ [46]) ++ x) _ search 0 [] (fun i x s hx => hstep x s hx) (by simp; omega), rangeF_apd (fun x => (name ++ [46]) ++ x) _ search 0 [name] (fun i x s hx => hstep x s hx) (by simp; omega)]
  simp only [List.nil_append, bi_some]
  generalize hq : search.map (fun x => (name ++ [46]) ++ x) = q
  have hql : q.length ≤ 1000 := by rw [← hq]; simpa using hl
  have hc : m_strings_Count name [46] = some ((Lib.countByte name 46 : Nat) : Int) := rfl
  rw [hc, bi_some, bi_some]
  -- what is tried
  obtain ⟨t, ht, e1, e2⟩ : ∃ t : List Str, t.length ≤ 1001 ∧ (bif decide (((Lib.countByte name 46 : Nat) : Int) < dots) then (bi (apd q [name]) fun y23 => some y23) else (bi (apd [name] q) fun y26 => some y26)) = some t ∧
      (bif decide (((Lib.countByte name 46 : Nat) : Int) < dots) then (bi (subZ ([name] ++ q) 1 ((([name] ++ q).length : Nat) : Int)) fun z23 => bi (apd z23 [name]) fun y25 => some y25) else (some ([name] ++ q))) = some t := by
    cases decide (((Lib.countByte name 46 : Nat) : Int) < dots) with
    | true =>
      refine ⟨q ++ [name], by simp; omega, ?_, ?_⟩
      · simp only [cond_true]; rw [apd_some (by simp; omega)]; rfl
      · have : subZ ([name] ++ q) 1 ((([name] ++ q).length : Nat) : Int) = some q := by
          unfold subZ
          rw [decide_eq_true (show (0 : Int) ≤ 1 by decide), decide_eq_true (show (1 : Int) ≤ (([name] ++ q).length : Nat) by simp; omega), decide_eq_true (Int.le_refl _)]
          simp
        simp only [cond_true, this, bi_some]
        rw [apd_some (by simp; omega)]; rfl
    | false =>
      refine ⟨[name] ++ q, by simp; omega, ?_, rfl⟩
      simp only [cond_false]; rw [apd_some (by simp; omega)]; rfl
  rw [e1, e2]
  rw [bi_some, bi_some]
  rw [decide_eq_true (show (t.length : Int) ≤ 9223372036854775807 by omega), gd_true]
  generalize hg : (fun (i28 : Nat) (x30 : Str) (s29 : List Str) => _) = g
  rw [rangeG_F (g := g) t [] (fun i x s hx => by
    subst hg
    simp only
    rw [getZ_cast, hx]
    rfl)]
  obtain ⟨r, h1, _, hr2⟩ := rangeF_inv (f := g) t.length (fun i s => s.length ≤ i ∧ ∀ x ∈ s, x.length ≤ 253) t 0 [] (by omega) ⟨by simp, fun x hx => by cases hx⟩ (by
    rintro j x s hj ⟨hI, hI2⟩ hx
    subst hg
    simp only
    obtain ⟨b, hb⟩ := contains_ok s x
    rw [hb]
    cases hd : decide ((x.length : Int) ≤ 253) with
    | false => exact ⟨s, rfl, by omega, hI2⟩
    | true =>
      have hd' := of_decide_eq_true hd
      cases b with
      | true => exact ⟨s, rfl, by omega, hI2⟩
      | false =>
        refine ⟨s ++ [x], ?_, by simp; omega, fun y hy => by
          rcases List.mem_append.1 hy with h | h
          · exact hI2 y h
          · obtain rfl := List.mem_singleton.1 h; omega⟩
        simp only [cond_true, bi_some, Bool.not_false]
        rw [apd_some (by simp; omega)]
        rfl)
  rw [h1]
  exact ⟨r, rfl, rfl, hr2⟩

theorem named_ok : m_lanelaw1_named 400 = some true := by rfl

theorem or2 (a b : Int) : m_cmp_Or_api_Errno [a, b] = some (if a = 0 then b else a) := by
  unfold m_cmp_Or_api_Errno
  by_cases h : a = 0
  · subst h
    by_cases h2 : b = 0
    · subst h2; rfl
    · have : (b != 0) = true := by simpa using h2
      simp [rangeM, this, goI]
  · have : (a != 0) = true := by simpa using h
    simp [rangeM, this, goI, h]


def wordsT : List Str := [[], [104, 105], [97, 32, 98], [118, 61, 49], [32, 120], [97, 10, 98], [121]]
theorem plain_tab : ∀ w ∈ wordsT, ∃ b, m_kit_IsPlain 400 w = some b ∧ m_laneref1_plain w = some b ∧ w.length ≤ 200 ∧ (w = [] → b = true) := by
  intro w hw
  simp only [wordsT, List.mem_cons, List.not_mem_nil, or_false] at hw
  rcases hw with rfl | rfl | rfl | rfl | rfl | rfl | rfl <;> exact ⟨_, rfl, rfl, by decide, fun h => by first | rfl | cases h⟩
def okRec (r : T_api_Record) : Prop := r.Name.length ≤ 300 ∧ r.To.length ≤ 300 ∧ r.Words ∈ wordsT ∧ 0 ≤ r.Addr.Hi
theorem addr_ok (a : T_api_Addr) (h : 0 ≤ a.Hi) : ∃ e, m_addr_CheckAddr a = some e ∧ m_laneref2_AddrFault a = some e := by
  unfold m_laneref2_AddrFault m_addr_CheckAddr
  have e1 : (a.Hi != 0) = decide (a.Hi > 0) := by rw [Bool.eq_iff_iff]; simp; omega
  have e2 : decide (a.Lo ≥ 4294967296) = decide (a.Lo > 4294967295) := by rw [Bool.eq_iff_iff]; simp; omega
  rw [e1, e2]
  cases (!a.Six && (decide (a.Hi > 0) || decide (a.Lo > 4294967295))) <;> exact ⟨_, rfl, rfl⟩
def kindB (k : Int) : Bool := k == 1 || (k == 5 || (k == 12 || (k == 16 || k == 28)))
theorem isKind_ok (k : Int) : m_name_isKind k = some (kindB k) := by
  unfold m_name_isKind kindB
  cases (k == 1) <;> cases (k == 5) <;> cases (k == 12) <;> cases (k == 16) <;> cases (k == 28) <;> rfl
theorem kinds_ok (k : Int) : m_slices_Contains_int_int [1, 5, 12, 16, 28] k = some (kindB k) := by
  unfold m_slices_Contains_int_int m_slices_Index_int_int kindB
  simp only [rangeM]
  cases (k == 1) <;> cases (k == 5) <;> cases (k == 12) <;> cases (k == 16) <;> cases (k == 28) <;> rfl
theorem outside_in (n a b : Int) : ∃ c, m_kit_Outside n a b = some c ∧ m_laneref1_in n a b = some (!c) := by
  refine ⟨_, rfl, ?_⟩
  unfold m_laneref1_in
  congr 1
  rw [Bool.eq_iff_iff]
  simp
theorem b3 (e : Int) : (e != 0) = !(e == 0) := rfl
theorem recFault_ok (r : T_api_Record) (h : okRec r) : ∃ e, m_name_recordFault 400 r = some e ∧ m_laneref1_RecordFault r = some e := by
  obtain ⟨h1, h2, h3, h4⟩ := h
  obtain ⟨ab, a1, a2⟩ := addr_ok r.Addr h4
  obtain ⟨pl, p1, p2, p3, p4⟩ := plain_tab _ h3
  obtain ⟨ot, o1, o2⟩ := outside_in r.Life 0 1000000
  have hle := trim_le r.Name [42, 46]
  have d1 := check_ok 398 (Lib.trimPrefix r.Name [42, 46]) (by omega)
  have d2 := fault_ok (Lib.trimPrefix r.Name [42, 46]) (by omega)
  have d3 := check_ok 398 r.To (by omega)
  have d4 := fault_ok r.To (by omega)
  have hw : decide ((r.Words.length : Int) > 200) = false := decide_eq_false (by omega)
  have hb : m_name_bare r.Name = some (Lib.trimPrefix r.Name [42, 46]) := rfl
  have ht : m_strings_TrimPrefix r.Name [42, 46] = some (Lib.trimPrefix r.Name [42, 46]) := rfl
  have hk : m_laneref1_Kinds = some [1, 5, 12, 16, 28] := rfl
  have hha : m_name_hasAddr r.Kind = some ((r.Kind == 1) || (r.Kind == 28)) := rfl
  have hhn : m_name_hasName r.Kind = some ((r.Kind == 5) || (r.Kind == 12)) := rfl
  have hwe : (r.Words == []) = true → pl = true := fun e => p4 (by simpa using e)
  unfold m_name_recordFault m_laneref1_RecordFault
  rw [hb, ht, hk, hha, hhn]
  simp only [bi_some]
  rw [d1, d2, d3, d4, isKind_ok, kinds_ok, a1, a2, p1, p2, o1, o2]
  simp only [bi_some, hw]
  generalize (domF (Lib.trimPrefix r.Name [42, 46]) != 0) = x1
  generalize decide ((r.Name.length : Int) > 253) = x2
  cases x1 <;> cases x2 <;> try exact ⟨_, rfl, rfl⟩
  simp only [Bool.or_false, cond_false]
  cases hkb : kindB r.Kind with
  | false => exact ⟨_, rfl, rfl⟩
  | true =>
    simp only [Bool.not_true, cond_false]
    have hk' : r.Kind = 1 ∨ r.Kind = 5 ∨ r.Kind = 12 ∨ r.Kind = 16 ∨ r.Kind = 28 := by simpa [kindB] using hkb
    generalize (domF r.To != 0) = x3
    generalize (ab != 0) = x4
    generalize (r.Words == []) = x5 at hwe
    generalize (r.To == []) = x6
    generalize ((r.Addr.Six == false) && ((r.Addr.Hi == 0) && ((r.Addr.Lo == 0) && true))) = x7
    generalize r.Addr.Six = x8
    rcases hk' with e | e | e | e | e <;> rw [e] <;> cases x3 <;> cases x4 <;> cases x6 <;> cases x7 <;> cases x8 <;> cases ot <;> cases pl <;> cases x5 <;> first | exact ⟨_, rfl, rfl⟩ | (exfalso; exact absurd (hwe rfl) (by decide))

/-! ### The order of records -/
def cmpI (x y : Int) : Int := if x < y then -1 else if x > y then 1 else 0
theorem cmpInt_ok (x y : Int) : m_cmp_Compare_int x y = some (cmpI x y) := by
  unfold m_cmp_Compare_int m_cmp_isNaN_int cmpI
  have : ∀ z : Int, (z != z) = false := fun z => by simp
  rw [this, this]
  by_cases h : x < y
  · simp [h]
  · by_cases h2 : y < x <;> simp [h, h2]
theorem cmpU_ok (x y : Int) : m_cmp_Compare_uint64 x y = some (cmpI x y) := by
  unfold m_cmp_Compare_uint64 m_cmp_isNaN_uint64 cmpI
  have : ∀ z : Int, (z != z) = false := fun z => by simp
  rw [this, this]
  by_cases h : x < y
  · simp [h]
  · by_cases h2 : y < x <;> simp [h, h2]
theorem orInt_ok (x : Int) (l : List Int) : ∃ c, m_cmp_Or_int (x :: l) = some c ∧ (x ≠ 0 → c = x) := by
  unfold m_cmp_Or_int
  by_cases h : x = 0
  · generalize hf : (fun (i1 : Nat) (x3 : Int) (s2 : Unit) => _) = f
    obtain ⟨r, hr⟩ := rangeM_ex (f := f) (x :: l) 0 (by
      intro j x _ _
      subst hf
      simp only
      cases (x != 0) <;> exact ⟨_, rfl⟩)
    rw [hr]
    cases r <;> exact ⟨_, rfl, fun h2 => absurd h h2⟩
  · have : (x != 0) = true := by simpa using h
    exact ⟨x, by simp [rangeM, this, goI], fun _ => rfl⟩
theorem order_ok (a b : T_api_Record) : ∃ c, m_name_compareRecords a b = some c ∧ m_laneref1_recordOrder a b = some c ∧ (c < 0 → Lib.compareBytes a.Name b.Name ≤ 0) := by
  unfold m_name_compareRecords m_laneref1_recordOrder
  have hc : ∀ s t : Str, m_strings_Compare s t = some (Lib.compareBytes s t) := fun _ _ => rfl
  simp only [hc, bi_some, cmpInt_ok, cmpU_ok]
  obtain ⟨c, h1, h2⟩ := orInt_ok (Lib.compareBytes a.Name b.Name) [cmpI a.Kind b.Kind, cmpI a.Addr.Hi b.Addr.Hi, cmpI a.Addr.Lo b.Addr.Lo, Lib.compareBytes a.To b.To, Lib.compareBytes a.Words b.Words]
  rw [h1]
  refine ⟨c, rfl, rfl, fun hc => ?_⟩
  by_cases h0 : Lib.compareBytes a.Name b.Name = 0
  · omega
  · rw [h2 h0] at hc; omega
theorem cb_refl : ∀ a : Str, Lib.compareBytes a a = 0
  | [] => rfl
  | x :: a => by
    have := cb_refl a
    simp [Lib.compareBytes, this]
theorem cb_trans : ∀ a b c : Str, Lib.compareBytes a b ≤ 0 → Lib.compareBytes b c ≤ 0 → Lib.compareBytes a c ≤ 0
  | [], _, [], _, _ => by decide
  | [], _, _ :: _, _, _ => by simp [Lib.compareBytes]
  | _ :: _, [], _, h, _ => by simp [Lib.compareBytes] at h
  | _ :: _, _ :: _, [], _, h => by simp [Lib.compareBytes] at h
  | x :: a, y :: b, z :: c, h1, h2 => by
    have ih := cb_trans a b c
    simp only [Lib.compareBytes, UInt8.lt_iff_toNat_lt] at h1 h2 ⊢
    split at h1 <;> split at h2 <;> rename_i h3 h4
    · rw [if_pos (by omega)]; decide
    · split at h2
      · omega
      · rw [if_pos (by omega)]; decide
    · split at h1
      · omega
      · rw [if_pos (by omega)]; decide
    · split at h1
      · omega
      · split at h2
        · omega
        · rw [if_neg (by omega), if_neg (by omega)]
          exact ih h1 h2
theorem cb_anti : ∀ a b : Str, Lib.compareBytes a b ≤ 0 → Lib.compareBytes b a ≤ 0 → a = b
  | [], [], _, _ => rfl
  | [], _ :: _, _, h => by simp [Lib.compareBytes] at h
  | _ :: _, [], h, _ => by simp [Lib.compareBytes] at h
  | x :: a, y :: b, h1, h2 => by
    have ih := cb_anti a b
    simp only [Lib.compareBytes, UInt8.lt_iff_toNat_lt] at h1 h2
    by_cases h3 : x.toNat < y.toNat
    · rw [if_neg (by omega), if_pos h3] at h2; omega
    · by_cases h4 : y.toNat < x.toNat
      · rw [if_neg h3, if_pos h4] at h1; omega
      · rw [if_neg h3, if_neg h4] at h1
        rw [if_neg h4, if_neg h3] at h2
        have : x = y := UInt8.toNat_inj.1 (by omega)
        rw [this, ih h1 h2]

/-- No two records of one name, one of them an alias. -/
def Calm (R : List T_api_Record) : Prop := ∀ (i : Nat) (a b : T_api_Record), R[i]? = some a → R[i + 1]? = some b → Lib.compareBytes a.Name b.Name ≤ 0 ∧ (a.Name = b.Name → a.Kind ≠ 5 ∧ b.Kind ≠ 5)
theorem Calm.mono {R : List T_api_Record} (h : Calm R) : ∀ (n i : Nat) (a b : T_api_Record), R[i]? = some a → R[i + n]? = some b → Lib.compareBytes a.Name b.Name ≤ 0
  | 0, i, a, b, ha, hb => by
    rw [Nat.add_zero, ha] at hb
    cases hb
    rw [cb_refl]; exact Int.le_refl _
  | n + 1, i, a, b, ha, hb => by
    have hlt := (List.getElem?_eq_some_iff.1 hb).1
    have hc : R[i + n]? = some (R[i + n]'(by omega)) := List.getElem?_eq_getElem (by omega)
    exact cb_trans _ _ _ (h.mono n i a _ ha hc) (h (i + n) _ b hc (by rw [← hb]; rfl)).1
theorem Calm.pair {R : List T_api_Record} (h : Calm R) : R.Pairwise fun a b => a.Name = b.Name → a.Kind ≠ 5 ∧ b.Kind ≠ 5 := by
  rw [List.pairwise_iff_getElem]
  intro i j hi hj hij e
  have ha : R[i]? = some R[i] := List.getElem?_eq_getElem hi
  have hb : R[j]? = some R[j] := List.getElem?_eq_getElem hj
  have hc : R[i + 1]? = some (R[i + 1]'(by omega)) := List.getElem?_eq_getElem (by omega)
  have hd : R[j - 1]? = some (R[j - 1]'(by omega)) := List.getElem?_eq_getElem (by omega)
  constructor
  · obtain ⟨k1, k2⟩ := h i _ _ ha hc
    have k3 := h.mono (j - (i + 1)) (i + 1) _ _ hc (by rw [show i + 1 + (j - (i + 1)) = j by omega]; exact hb)
    exact (k2 (cb_anti _ _ k1 (by rw [e]; exact k3))).1
  · obtain ⟨k1, k2⟩ := h (j - 1) _ _ hd (by rw [show j - 1 + 1 = j by omega]; exact hb)
    have k3 := h.mono (j - 1 - i) i _ _ ha (by rw [show i + (j - 1 - i) = j - 1 by omega]; exact hd)
    exact (k2 (cb_anti _ _ k1 (by rw [← e]; exact k3))).2
/-- One record, or no alias. -/
def OneOr (l : List T_api_Record) : Prop := (∃ x, l = [x]) ∨ ∀ x ∈ l, x.Kind ≠ 5
theorem Calm.one {R : List T_api_Record} (h : Calm R) (want : Str) : OneOr (R.filter fun r => r.Name == want) := by
  have hp := h.pair.sublist (List.filter_sublist (p := fun r => r.Name == want))
  have hn : ∀ x ∈ R.filter (fun r => r.Name == want), x.Name = want := fun x hx => by have := (List.mem_filter.1 hx).2; simpa using this
  generalize R.filter (fun r => r.Name == want) = l at hp hn
  match l with
  | [] => exact .inr fun x hx => by cases hx
  | [x] => exact .inl ⟨x, rfl⟩
  | x :: y :: t =>
    right
    intro z hz
    rw [List.pairwise_cons] at hp
    have nx := hn x List.mem_cons_self
    rcases List.mem_cons.1 hz with rfl | hz'
    · exact (hp.1 y List.mem_cons_self (nx.trans (hn y (by simp)).symm)).1
    · exact (hp.1 z hz' (nx.trans (hn z hz).symm)).2

def okZone (z : T_api_Zone) : Prop := z.Root.length ≤ 300 ∧ z.Records.length ≤ 100 ∧ ∀ r ∈ z.Records, okRec r
theorem rangeM_go {α ρ : Type} {f : Nat → α → Unit → Option (LS Unit ρ)} : ∀ (l : List α) (i : Nat) {s : Unit}, rangeM f i l () = some (.go s) → ∀ j x, l[j]? = some x → f (i + j) x () = some (.go ())
  | [], i, s, _, j, x, h => by simp at h
  | y :: l, i, s, h, j, x, hx => by
    simp only [rangeM] at h
    cases hf : f i y () with
    | none => rw [hf] at h; cases h
    | some q =>
      rw [hf] at h
      cases q with
      | out r => cases h
      | go u =>
        cases j with
        | zero => simp at hx; subst hx; exact hf
        | succ j => have := rangeM_go l (i + 1) h j x (by simpa using hx); rw [show i + (j + 1) = i + 1 + j by omega]; exact this
theorem under_eq (n z : Str) : m_laneref1_IsUnder n z = m_name_under n z := rfl
theorem bare_len (r : T_api_Record) (h : okRec r) : (Lib.trimPrefix r.Name [42, 46]).length ≤ 300 := by
  have := trim_le r.Name [42, 46]
  have := h.1
  omega

theorem zone_ok (z : T_api_Zone) (h : okZone z) : ∃ e, m_name_CheckZone 400 z = some e ∧ m_laneref1_ZoneFault z = some e ∧ (e = 0 → domF z.Root = 0 ∧ Calm z.Records) := by
  obtain ⟨h1, h2, h3⟩ := h
  unfold m_name_CheckZone m_laneref1_ZoneFault
  rw [check_ok 398 _ (by omega), fault_ok _ (by omega), decide_eq_false (show ¬ (z.Records.length : Int) > 2000 by omega)]
  simp only [bi_some, cond_false]
  cases hd : (domF z.Root != 0) with
  | true => exact ⟨_, rfl, rfl, fun e => by rw [e] at hd; cases hd⟩
  | false =>
    have hd0 : domF z.Root = 0 := by simpa using hd
    simp only [cond_false]
    generalize hf : (fun (i7 : Nat) (x9 : T_api_Record) (s8 : Unit) => _) = f
    generalize hg : (fun (i7 : Nat) (x9 : T_api_Record) (s8 : Unit) => _) = g
    obtain ⟨r, e1, e2, e3⟩ := rangeM_ex3 (f := f) (g := g) (fun v => v ≠ 0) z.Records 0 (by
      intro j x hj hx
      obtain ⟨rf, r1, r2⟩ := recFault_ok x (h3 x hx)
      have hb := bare_len x (h3 x hx)
      obtain ⟨u, u1, _⟩ := under_ok (Lib.trimPrefix x.Name [42, 46]) z.Root (by omega) (by omega)
      have hb1 : m_name_bare x.Name = some (Lib.trimPrefix x.Name [42, 46]) := rfl
      have hb2 : m_laneref1_bare x.Name = some (Lib.trimPrefix x.Name [42, 46]) := rfl
      subst hf; subst hg
      simp only [r1, r2, bi_some, hb1, hb2, under_eq, u1]
      cases hrf : (rf != 0) with
      | true => exact ⟨_, rfl, rfl, fun v e => by cases e; simpa using hrf⟩
      | false =>
        simp only [cond_false]
        cases u with
        | false => exact ⟨_, rfl, rfl, fun v e => by cases e; decide⟩
        | true =>
          simp only [Bool.not_true, cond_false]
          cases hj0 : ((j : Int) == 0) with
          | true => exact ⟨_, rfl, rfl, fun v e => by cases e⟩
          | false =>
            have hj1 : (j : Int) ≠ 0 := by simpa using hj0
            obtain ⟨o, _, ho⟩ := getZ_in z.Records (r := wi ((j : Int) - 1)) (by rw [wi_id (by omega) (by omega)]; omega) (by rw [wi_id (by omega) (by omega)]; omega)
            obtain ⟨c, c1, c2, _⟩ := order_ok o x
            simp only [cond_false, ho, bi_some, c1, c2]
            have hcomm : ((x.Kind == 5) || (o.Kind == 5)) = ((o.Kind == 5) || (x.Kind == 5)) := Bool.or_comm _ _
            rw [hcomm]
            cases (c == 0) with
            | true => exact ⟨_, rfl, rfl, fun v e => by cases e; decide⟩
            | false =>
              cases decide (c > 0) with
              | true => exact ⟨_, rfl, rfl, fun v e => by cases e; decide⟩
              | false =>
                cases ((o.Name == x.Name) && ((o.Kind == 5) || (x.Kind == 5))) with
                | true => exact ⟨_, rfl, rfl, fun v e => by cases e; decide⟩
                | false => exact ⟨_, rfl, rfl, fun v e => by cases e⟩)
    rw [e1, e2]
    cases r with
    | out v => exact ⟨v, rfl, rfl, fun e => absurd e (e3 v rfl)⟩
    | go u =>
      refine ⟨0, rfl, rfl, fun _ => ⟨hd0, fun i a b ha hb => ?_⟩⟩
      have hlt := (List.getElem?_eq_some_iff.1 hb).1
      have hx := h3 b (List.mem_of_getElem? hb)
      have := rangeM_go z.Records 0 e1 (i + 1) b hb
      rw [Nat.zero_add] at this
      subst hf
      simp only at this
      obtain ⟨rf, r1, r2⟩ := recFault_ok b hx
      have hbl := bare_len b hx
      obtain ⟨un, u1, _⟩ := under_ok (Lib.trimPrefix b.Name [42, 46]) z.Root (by omega) (by omega)
      have hb1 : m_name_bare b.Name = some (Lib.trimPrefix b.Name [42, 46]) := rfl
      obtain ⟨c, c1, c2, c3⟩ := order_ok a b
      have hj0 : (((i + 1 : Nat) : Int) == 0) = false := by simp; omega
      have hgz : getZ z.Records (wi (((i + 1 : Nat) : Int) - 1)) = some a := by
        rw [wi_id (by omega) (by omega), show ((i + 1 : Nat) : Int) - 1 = ((i : Nat) : Int) by omega, getZ_cast, ha]
      simp only [r1, bi_some, hb1, u1, hj0, cond_false, hgz, c1] at this
      cases hrf : (rf != 0) with
      | true => rw [hrf] at this; cases this
      | false =>
        rw [hrf] at this
        cases un with
        | false => cases this
        | true =>
          simp only [Bool.not_true, cond_false] at this
          cases hc0 : (c == 0) with
          | true => rw [hc0] at this; cases this
          | false =>
            rw [hc0] at this
            cases hcp : decide (c > 0) with
            | true => rw [hcp] at this; cases this
            | false =>
              rw [hcp] at this
              have k1 : ¬ c > 0 := of_decide_eq_false hcp
              have k2 : c ≠ 0 := by simpa using hc0
              refine ⟨c3 (by omega), fun en => ?_⟩
              simp only [cond_false, en, beq_self_eq_true, Bool.true_and] at this
              cases h5 : ((a.Kind == 5) || (b.Kind == 5)) with
              | true => rw [h5] at this; cases this
              | false =>
                rw [Bool.or_eq_false_iff] at h5
                exact ⟨by simpa using h5.1, by simpa using h5.2⟩

/-! ### What is at a name -/
theorem there_eq (z : T_api_Zone) (n : Str) : m_laneref1_there z n = m_name_there z n := rfl
theorem there_ok (z : T_api_Zone) (n : Str) (h : okZone z) (hn : n.length ≤ 300) : ∃ b, m_name_there z n = some b := by
  unfold m_name_there m_slices_ContainsFunc_api_Record_api_Record m_slices_IndexFunc_api_Record_api_Record
  generalize hf : (fun (i1 : Nat) (x3 : T_api_Record) (s2 : Unit) => _) = f
  obtain ⟨r, hr⟩ := rangeM_ex (f := f) z.Records 0 (by
    intro j x _ hx
    subst hf
    have hbl := bare_len x (h.2.2 x hx)
    obtain ⟨u, u1, _⟩ := under_ok (Lib.trimPrefix x.Name [42, 46]) n (by omega) (by omega)
    have hb1 : m_name_bare x.Name = some (Lib.trimPrefix x.Name [42, 46]) := rfl
    simp only [m_name_there_1, hb1, bi_some, u1]
    cases u <;> exact ⟨_, rfl⟩)
  rw [hr]
  cases r <;> exact ⟨_, rfl⟩
theorem loopM_ex {σ ρ : Type} {f : σ → Option (LS σ ρ)} (I : σ → Prop) (μ : σ → Nat) (R : ρ → Prop) (h : ∀ s, I s → ∃ y, f s = some y ∧ (∀ s', y = .go s' → I s' ∧ μ s' < μ s) ∧ ∀ r, y = .out r → R r) : ∀ (k : Nat) (s : σ), I s → μ s < k → ∃ r, loopM f k s = some r ∧ R r
  | 0, s, _, hk => by omega
  | k + 1, s, hI, hk => by
    obtain ⟨y, h1, h2, h3⟩ := h s hI
    simp only [loopM, h1]
    cases y with
    | out r => exact ⟨r, rfl, h3 r rfl⟩
    | go s' =>
      obtain ⟨h4, h5⟩ := h2 s' rfl
      exact loopM_ex I μ R h k s' h4 (by omega)
theorem loopM_ex2 {σ ρ : Type} {f g : σ → Option (LS σ ρ)} (I : σ → Prop) (μ : σ → Nat) (h : ∀ s, I s → ∃ y, f s = some y ∧ g s = some y ∧ (∀ s', y = .go s' → I s' ∧ μ s' < μ s)) : ∀ (k : Nat) (s : σ), I s → μ s < k → ∃ r, loopM f k s = some r ∧ loopM g k s = some r
  | 0, s, _, hk => by omega
  | k + 1, s, hI, hk => by
    obtain ⟨y, h1, h2, h3⟩ := h s hI
    simp only [loopM, h1, h2]
    cases y with
    | out r => exact ⟨r, rfl, rfl⟩
    | go s' =>
      obtain ⟨h4, h5⟩ := h3 s' rfl
      exact loopM_ex2 I μ h k s' h4 (by omega)
def renm (name : Str) (r : T_api_Record) : T_api_Record := ⟨name, r.Kind, r.Addr, r.To, r.Words, r.Life⟩
theorem pickF (name want : Str) (f : Nat → T_api_Record → List T_api_Record → Option (List T_api_Record)) : ∀ (l : List T_api_Record) (i : Nat) (s : List T_api_Record), (∀ i x s, f i x s = bif x.Name == want then bi (apd s [renm name x]) fun y => some y else some s) → s.length + l.length ≤ 1000 → rangeF f i l s = some (s ++ (l.filter fun r => r.Name == want).map (renm name))
  | [], i, s, _, _ => by simp [rangeF]
  | x :: l, i, s, h, hb => by
    simp only [List.length_cons] at hb
    simp only [rangeF, h i x s]
    cases hx : (x.Name == want) with
    | true =>
      rw [apd_some (by simp only [List.length_cons, List.length_nil]; omega)]
      simp only [cond_true, bi_some]
      rw [pickF name want f l (i + 1) _ h (by simp only [List.length_append, List.length_cons, List.length_nil]; omega)]
      simp [List.filter_cons, hx]
    | false =>
      simp only [cond_false, bi_some]
      rw [pickF name want f l (i + 1) _ h (by omega)]
      simp [List.filter_cons, hx]
theorem OneOr.renm {l : List T_api_Record} (h : OneOr l) (name : Str) : OneOr (l.map (renm name)) := by
  rcases h with ⟨x, rfl⟩ | h
  · exact .inl ⟨_, rfl⟩
  · right
    intro x hx
    obtain ⟨y, hy, rfl⟩ := List.mem_map.1 hx
    exact h y hy
theorem at_ok (z : T_api_Zone) (name : Str) (h : okZone z) (hn : name.length ≤ 300) (hr : z.Root ≠ []) (hu : UP name z.Root) (hc : Calm z.Records) :
    ∃ l t, m_laneref1_recordsAt 400 z name = some l ∧ m_name_at 400 z name = some (l, t) ∧ m_name_there z name = some t ∧ l.length ≤ 100 ∧ OneOr l ∧ ∀ x ∈ l, x.To.length ≤ 300 := by
  obtain ⟨t, ht⟩ := there_ok z name h hn
  have fin : ∀ (want : Str) (f : Nat → T_api_Record → List T_api_Record → Option (List T_api_Record)), (∀ i x s, f i x s = bif x.Name == want then bi (apd s [Gk.renm name x]) fun y => some y else some s) →
      ∃ l, rangeF f 0 z.Records [] = some l ∧ l.length ≤ 100 ∧ OneOr l ∧ ∀ x ∈ l, x.To.length ≤ 300 := fun want f hf => by
    have h2 := h.2.1
    refine ⟨_, pickF name want f z.Records 0 [] hf (by simp; omega), ?_, ?_, ?_⟩
    · have := List.length_filter_le (fun r : T_api_Record => r.Name == want) z.Records
      simp; omega
    · rw [List.nil_append]; exact (hc.one want).renm name
    · intro x hx
      rw [List.nil_append] at hx
      obtain ⟨y, hy, rfl⟩ := List.mem_map.1 hx
      exact (h.2.2 y (List.mem_filter.1 hy).1).2.1
  unfold m_laneref1_recordsAt m_name_at
  simp only [there_eq, ht, bi_some]
  cases t with
  | true =>
    simp only [Bool.not_true, cond_false, bi_some, orI]
    obtain ⟨l, e1, e2, e3, e4⟩ := fin name _ (fun i x s => rfl)
    simp only [Gk.renm] at e1
    refine ⟨l, true, ?_, ?_, rfl, e2, e3, e4⟩
    · rw [e1]; rfl
    · rw [e1]; rfl
  | false =>
    simp only [Bool.not_false, cond_true]
    generalize hf : (fun (s8 : Str) => (bif !((s8 : Str) == z.Root) then _ else _ : Option (LS Str Str))) = f
    obtain ⟨r, hr1, hr2⟩ := loopM_ex (f := f) (fun s => UP name s ∧ z.Root.length ≤ s.length ∧ s.length ≤ 300) (fun s => s.length) (fun r => r.length ≤ 300) (by
      rintro s ⟨i1, i2, i3⟩
      subst hf
      simp only
      cases hs : (s == z.Root) with
      | true => exact ⟨_, rfl, fun s' e => (by cases e), fun r e => by cases e; exact i3⟩
      | false =>
        have hne : s ≠ z.Root := by simpa using hs
        have hsn : s ≠ [] := fun e => by subst e; simp at i2; exact hr (List.eq_nil_of_length_eq_zero (by simpa using i2))
        have hlt := after_lt hsn
        have hcut : m_strings_Cut s [46] = some (cut1 s 46) := by
          unfold m_strings_Cut
          rw [Nat.ble_eq_true_of_le (show s.length ≤ 1099511627776 by omega)]
          rfl
        have hcl : (cut1 s 46).2.1 = after s := rfl
        obtain ⟨b, hb⟩ := there_ok z (after s) h (by omega)
        simp only [Bool.not_false, cond_true, hcut, bi_some, hcl, hb]
        have hzl : z.Root.length < s.length := by
          rcases Nat.lt_or_ge z.Root.length s.length with h' | h'
          · exact h'
          · exact absurd (UP.eq i1 hu (by omega)) hne
        have hn' := UP.next i1 hu hzl
        cases b with
        | true => exact ⟨_, rfl, fun s' e => (by cases e), fun r e => by cases e; omega⟩
        | false => exact ⟨_, rfl, fun s' e => (by cases e; exact ⟨⟨i1.after hsn, hn', by omega⟩, hlt⟩), fun r e => (by cases e)⟩)
      400 name ⟨.inr (.inl rfl), hu.suf.length_le, hn⟩ (by omega)
    rw [hr1]
    simp only [bi_some]
    cases hnr : (name == z.Root) with
    | true => exact ⟨[], false, rfl, rfl, rfl, by simp, .inr fun x hx => (by cases hx), fun x hx => (by cases hx)⟩
    | false =>
      simp only [cond_false]
      rw [cat_ok (show ([42, 46] : Str).length + r.length ≤ 9223372036854775807 by simp only [List.length_cons, List.length_nil]; omega)]
      simp only [bi_some, orI]
      obtain ⟨l, e1, e2, e3, e4⟩ := fin ([42, 46] ++ r) _ (fun i x s => rfl)
      simp only [Gk.renm] at e1
      refine ⟨l, false, ?_, ?_, rfl, e2, e3, e4⟩
      · rw [e1]; rfl
      · rw [e1]; rfl

/-! ### The records of a kind -/
theorem cloneR_ok (l : List T_api_Record) (h : l.length ≤ 1000) : m_slices_Clone_api_Record_api_Record l = some l := by
  unfold m_slices_Clone_api_Record_api_Record
  rw [apd_some (by simpa using (show l.length ≤ 4294967296 by omega))]
  rfl
theorem idx2_ok (l : List T_api_Record) (kind : Int) (h : l.length ≤ 1000) : ∃ r, m_slices_IndexFunc_api_Record_api_Record_2 l kind = some r ∧ (r = -1 ∨ (0 ≤ r ∧ r < l.length)) := by
  unfold m_slices_IndexFunc_api_Record_api_Record_2
  have hg : ∀ (f : Nat → Unit → Option (LS Unit Int)), (∀ i, i < l.length → f i () = some (.go ()) ∨ f i () = some (.out (i : Int))) → ∃ r, rangeI f (l.length : Int) () = some r ∧ ∀ v, r = .out v → 0 ≤ v ∧ v < l.length := by
    intro f hf
    unfold rangeI
    rw [Int.toNat_natCast]
    have key : ∀ (n i : Nat), i + n = l.length → ∃ r, rangeM (fun i (_ : Unit) s => f i s) i (List.replicate n ()) () = some r ∧ ∀ v, r = LS.out v → 0 ≤ v ∧ v < l.length := by
      intro n
      induction n with
      | zero => intro i _; exact ⟨_, rfl, fun v e => by cases e⟩
      | succ n ih =>
        intro i hi
        simp only [List.replicate_succ, rangeM]
        rcases hf i (by omega) with e | e
        · rw [e]; exact ih (i + 1) (by omega)
        · rw [e]; exact ⟨_, rfl, fun v e => by cases e; omega⟩
    exact key l.length 0 (by omega)
  rw [decide_eq_true (show (l.length : Int) ≤ 9223372036854775807 by omega), gd_true]
  generalize hf : (fun (i1 : Nat) (s2 : Unit) => _) = f
  obtain ⟨r, h1, h2⟩ := hg f (by
    intro i hi
    subst hf
    simp only
    rw [getZ_cast, List.getElem?_eq_getElem hi]
    simp only [bi_some, m_name_find_1]
    cases (l[i].Kind != kind) with
    | true => exact .inr rfl
    | false => exact .inl rfl)
  rw [h1]
  cases r with
  | out v => exact ⟨v, rfl, .inr (h2 v rfl)⟩
  | go u => exact ⟨-1, rfl, .inl rfl⟩
theorem delete_eq (k : Nat) (l : List T_api_Record) (kind : Int) : m_slices_DeleteFunc_api_Record_api_Record_2 k l kind = m_slices_DeleteFunc_api_Record_api_Record k l kind := rfl
theorem delete_ok (l : List T_api_Record) (kind : Int) (h : l.length ≤ 300) : ∃ r, m_slices_DeleteFunc_api_Record_api_Record 400 l kind = some r ∧ r.length ≤ l.length := by
  obtain ⟨i0, e1, e2⟩ := idx2_ok l kind (by omega)
  unfold m_slices_DeleteFunc_api_Record_api_Record
  rw [e1]
  simp only [bi_some]
  rcases e2 with rfl | ⟨h0, h1⟩
  · exact ⟨l, rfl, Nat.le_refl _⟩
  · have hne : (i0 == -1) = false := by simp; omega
    rw [hne]
    simp only [cond_false]
    generalize hf : (fun (s6 : List T_api_Record × Int × Int) => _) = f
    obtain ⟨q, q1, q2⟩ := loopM_ex (f := f) (fun s => s.1.length = l.length ∧ 0 ≤ s.2.1 ∧ s.2.1 < s.2.2 ∧ s.2.2 ≤ l.length) (fun s => l.length - s.2.2.toNat) (fun r => r.1.length = l.length ∧ 0 ≤ r.2 ∧ r.2 ≤ l.length) (by
      rintro ⟨s, a, b⟩ ⟨i1, i2, i3, i4⟩
      subst hf
      simp only at i1 i2 i3 i4 ⊢
      by_cases hb : b < s.length
      · rw [decide_eq_true hb]
        simp only [cond_true]
        obtain ⟨x, _, hx⟩ := getZ_in s (r := b) (by omega) hb
        obtain ⟨y, _, hy⟩ := getZ_in s (r := a) (by omega) (by omega)
        rw [hx, hy]
        simp only [bi_some, m_name_find_1]
        have w1 : wi (a + 1) = a + 1 := wi_id (by omega) (by omega)
        have w2 : wi (b + 1) = b + 1 := wi_id (by omega) (by omega)
        rw [w1, w2]
        cases (x.Kind != kind) with
        | true => exact ⟨_, rfl, fun s' e => (by cases e; exact ⟨⟨i1, i2, by simp only; omega, by simp only; omega⟩, by simp only; omega⟩), fun r e => (by cases e)⟩
        | false => exact ⟨_, rfl, fun s' e => (by cases e; exact ⟨⟨by simpa using i1, by simp only; omega, by simp only; omega, by simp only; omega⟩, by simp only; omega⟩), fun r e => (by cases e)⟩
      · rw [decide_eq_false hb]
        exact ⟨_, rfl, fun s' e => (by cases e), fun r e => (by cases e; exact ⟨i1, i2, by simp only; omega⟩)⟩)
      400 (l, i0, wi (i0 + 1)) (by
        have : wi (i0 + 1) = i0 + 1 := wi_id (by omega) (by omega)
        rw [this]
        exact ⟨rfl, h0, by simp only; omega, by simp only; omega⟩) (by omega)
    rw [q1]
    obtain ⟨q3, q4, q5⟩ := q2
    simp only [bi_some]
    refine ⟨q.1.take q.2.toNat, ?_, by simp; omega⟩
    unfold subZ
    rw [decide_eq_true q4, decide_eq_true (show q.2 ≤ (q.1.length : Int) by omega), decide_eq_true (Int.le_refl _)]
    rfl
theorem alias_ok (l : List T_api_Record) (h : OneOr l) (hl : l.length ≤ 1000) : ∃ i : Int, m_slices_IndexFunc_api_Record_api_Record_3 l = some i ∧ ((i < 0 ∧ (l = [] ∨ ∃ x t, l = x :: t ∧ x.Kind ≠ 5)) ∨ (i = 0 ∧ ∃ x, l = [x] ∧ x.Kind = 5)) := by
  unfold m_slices_IndexFunc_api_Record_api_Record_3
  rcases h with ⟨x, rfl⟩ | h
  · by_cases hx : x.Kind = 5
    · refine ⟨0, ?_, .inr ⟨rfl, x, rfl, hx⟩⟩
      simp [rangeM, m_name_find_2, hx, goI]
    · have : (x.Kind == 5) = false := by simpa using hx
      refine ⟨-1, ?_, .inl ⟨by decide, .inr ⟨x, [], rfl, hx⟩⟩⟩
      simp [rangeM, m_name_find_2, this, goI]
  · refine ⟨-1, ?_, .inl ⟨by decide, ?_⟩⟩
    · rw [rangeM_all (fun x : T_api_Record => true) (0 : Int) l 0 (fun j x hx => by
        have : (x.Kind == 5) = false := by simpa using h x (List.mem_of_getElem? hx)
        simp [m_name_find_2, this])]
      simp [goI]
    · cases l with
      | nil => exact .inl rfl
      | cons x t => exact .inr ⟨x, t, rfl, h x List.mem_cons_self⟩

theorem find_ok (z : T_api_Zone) (name : Str) (kind : Int) (h : okZone z) (hn : name.length ≤ 300) (hr : z.Root ≠ []) (hu : UP name z.Root) (hc : Calm z.Records) (hun : m_name_under name z.Root = some true) :
    ∃ r, m_name_find 400 z name kind = some r ∧ m_laneref1_FindIn 400 z name kind = some r := by
  obtain ⟨l0, t0, a1, a2, a3, a4, a5, a6⟩ := at_ok z name h hn hr hu hc
  have hstart : m_laneref1_FindIn 400 z name kind = bif !t0 && ((l0.length : Int) == 0) then some ([], 8) else loopM (σ := (List T_api_Record) × Str × Int) (ρ := (List T_api_Record) × Int) (fun s16 => bi (m_laneref1_recordsAt 400 z s16.2.1) fun y25 => bi (m_slices_Clone_api_Record_api_Record y25) fun y27 => bi (m_slices_DeleteFunc_api_Record_api_Record_2 400 y27 kind) fun y29 => bi (bif ((decide (((y29.length : Int) : Int) > 0)) || (((y25.length : Int) : Int) == 0)) then (some true) else (bi (getZ y25 0) fun x35 => some ((x35.Kind : Int) != 5))) fun q31 => bif q31 then (bi (apd s16.1 y29) fun y38 => bi (some (y38, 0)) fun v => some (.out v)) else (bif (s16.2.2 : Int) == 8 then (bi (some ([], 14)) fun v => some (.out v)) else (bi (getZ y25 0) fun x47 => bi (apd s16.1 [x47]) fun y49 => bi (getZ y25 0) fun x51 => bi (m_laneref1_IsUnder x51.To z.Root) fun y53 => bif !y53 then (bi (some (y49, 0)) fun v => some (.out v)) else (some (.go (y49, x51.To, wi (s16.2.2 + 1))))))) 400 (([] : List T_api_Record), name, 0) := by
    unfold m_laneref1_FindIn
    rw [under_eq, hun, there_eq, a3, a1]
    simp only [bi_some, Bool.not_true, cond_false]
    have bs : ∀ o : Option ((List T_api_Record) × Int), (bi o fun v => some v) = o := fun o => by cases o <;> rfl
    cases t0 with
    | true => simp only [Bool.not_true, Bool.false_and, cond_false, bi_some, bs]
    | false =>
      simp only [Bool.not_false, Bool.true_and, cond_true, bi_some]
      cases ((l0.length : Int) == 0) <;> simp only [cond_true, cond_false, bs]
  have bs : ∀ o : Option ((List T_api_Record) × Int), (bi o fun v => some v) = o := fun o => by cases o <;> rfl
  rw [hstart]
  unfold m_name_find
  rw [bs]
  generalize hf : (fun (s2 : List T_api_Record × Str × Int) => bi (m_name_at 400 z s2.2.1) _) = f
  generalize hg : (fun (s16 : List T_api_Record × Str × Int) => _) = g
  cases hgd : (!t0 && ((l0.length : Int) == 0)) with
  | true =>
    refine ⟨([], 8), ?_, rfl⟩
    have : f ([], name, 0) = some (.out ([], 8)) := by
      subst hf
      simp only [a2, bi_some]
      have : ((((0 : Int) == 0) && !t0) && ((l0.length : Int) == 0)) = true := by
        rw [Bool.and_eq_true] at hgd
        rw [hgd.1, hgd.2]; rfl
      rw [this]
      rfl
    simp only [loopM, this]
  | false =>
    simp only [cond_false]
    obtain ⟨r, e1, e2⟩ := loopM_ex2 (f := f) (g := g) (fun s => s.1.length ≤ s.2.2.toNat ∧ UP s.2.1 z.Root ∧ s.2.1.length ≤ 300 ∧ 0 ≤ s.2.2 ∧ s.2.2 ≤ 8 ∧ (s.2.2 = 0 → s.2.1 = name)) (fun s => 9 - s.2.2.toNat) (by
      rintro ⟨out, nm, n⟩ ⟨i1, i2, i3, i4, i5, i6⟩
      simp only at i1 i2 i3 i4 i5 i6 ⊢
      obtain ⟨l, t, b1, b2, b3, b4, b5, b6⟩ := at_ok z nm h i3 hr i2 hc
      obtain ⟨dl, d1, d2⟩ := delete_ok l kind (by omega)
      obtain ⟨i, c1, c2⟩ := alias_ok l b5 (by omega)
      subst hf; subst hg
      simp only [b1, b2, bi_some, cloneR_ok l (show l.length ≤ 1000 by omega), d1, delete_eq, c1]
      have hgd' : (((n == 0) && !t) && ((l.length : Int) == 0)) = false := by
        by_cases hn0 : n = 0
        · have := i6 hn0
          subst this
          rw [a1] at b1; cases b1
          rw [a3] at b3; cases b3
          rw [hn0]
          simpa using hgd
        · have : (n == 0) = false := by simpa using hn0
          rw [this]; rfl
      rw [hgd']
      simp only [cond_false]
      have ha : apd out dl = some (out ++ dl) := apd_some (by omega)
      rw [ha]
      rcases c2 with ⟨hi, hl⟩ | ⟨rfl, x, rfl, hx⟩
      · rw [decide_eq_true hi]
        have hq : (bif (decide ((dl.length : Int) > 0) || ((l.length : Int) == 0)) then (some true) else (bi (getZ l 0) fun x35 => some (x35.Kind != 5))) = some true := by
          rcases hl with rfl | ⟨x, t, rfl, hx⟩
          · simp
          · cases (decide ((dl.length : Int) > 0) || (((x :: t).length : Int) == 0)) with
            | true => rfl
            | false =>
              have : (x.Kind != 5) = true := by simpa using hx
              simp only [cond_false]
              show some (x.Kind != 5) = _
              rw [this]
        rw [hq]
        simp only [Bool.or_true, cond_true, bi_some]
        exact ⟨_, rfl, rfl, fun s' e => by cases e⟩
      · have g0 : getZ [x] 0 = some x := rfl
        rw [g0]
        have hq : (bif (decide ((dl.length : Int) > 0) || ((([x] : List T_api_Record).length : Int) == 0)) then (some true) else (bi (some x) fun x35 => some (x35.Kind != 5))) = some (decide ((dl.length : Int) > 0)) := by
          have : (x.Kind != 5) = false := by simp [hx]
          simp only [bi_some, this]
          cases decide ((dl.length : Int) > 0) <;> rfl
        rw [hq]
        simp only [bi_some, show decide ((0 : Int) < 0) = false from rfl, Bool.or_false]
        cases decide ((dl.length : Int) > 0) with
        | true => exact ⟨_, rfl, rfl, fun s' e => by cases e⟩
        | false =>
          simp only [cond_false]
          cases hn8 : (n == 8) with
          | true => exact ⟨_, rfl, rfl, fun s' e => by cases e⟩
          | false =>
            have hn8' : n ≠ 8 := by simpa using hn8
            have hap : apd out [x] = some (out ++ [x]) := apd_some (by simp only [List.length_cons, List.length_nil]; omega)
            obtain ⟨u, u1, u2⟩ := under_ok x.To z.Root (by have := b6 x (by simp); omega) (by have := h.1; omega)
            simp only [cond_false, hap, bi_some, under_eq, u1]
            cases u with
            | false => exact ⟨_, rfl, rfl, fun s' e => by cases e⟩
            | true =>
              have hw : wi (n + 1) = n + 1 := wi_id (by omega) (by omega)
              rw [hw]
              refine ⟨_, rfl, rfl, fun s' e => ?_⟩
              cases e
              exact ⟨⟨by simp only [List.length_append, List.length_cons, List.length_nil]; omega, u2.1 (.inr rfl), b6 x (by simp), by simp only; omega, by simp only; omega, fun e => absurd e (by simp only; omega)⟩, by simp only; omega⟩)
      400 ([], name, 0) ⟨by simp, hu, hn, by simp, by simp, fun _ => rfl⟩ (by simp)
    exact ⟨r, e1, e2⟩

theorem u64_nn (x : Int) : 0 ≤ IntKind.u64.wrap x := Int.emod_nonneg _ (by decide)
/-- A draw: what comes out is well, and few numbers are used up. -/
def Dr {α : Type} (l : List Int) (a : Int) (n : Int) (m : Option (α × T_lanemake_Stream)) (p : α → Prop) : Prop := ∃ x a', p x ∧ a ≤ a' ∧ a' ≤ a + n ∧ m = some (x, ⟨l, a'⟩)
theorem range_ok (l : List Int) (a lo hi : Int) (hl : l.length ≤ 9223372036854775807) (h0 : 0 ≤ a) (h1 : a < 4611686018427387904) (h2 : lo ≤ hi) (h3 : -1000000000 ≤ lo) (h4 : hi ≤ 1000000000) :
    ∃ r, lo ≤ r ∧ r ≤ hi ∧ m_lanemake_Stream_Range ⟨l, a⟩ lo hi = some (r, ⟨l, a + 1⟩) := by
  unfold m_lanemake_Stream_Range
  have w1 : wi (hi - lo) = hi - lo := wi_id (by omega) (by omega)
  have w2 : wi (hi - lo + 1) = hi - lo + 1 := wi_id (by omega) (by omega)
  obtain ⟨r, r0, r1, hr⟩ := next_ok l a (hi - lo + 1) hl h0 h1 (by omega) (by omega)
  refine ⟨lo + r, by omega, by omega, ?_⟩
  rw [decide_eq_false (show ¬ hi < lo by omega), w1, w2, hr]
  simp only [cond_false, bi_some]
  rw [wi_id (by omega) (by omega)]
def addrR (x : T_api_Addr) : Prop := 0 ≤ x.Hi
theorem addrD (l : List Int) (a : Int) (hl : l.length ≤ 9223372036854775807) (h0 : 0 ≤ a) (h1 : a < 4611686018427380000) : Dr l a 5 (m_lanemake_Stream_Addr ⟨l, a⟩) addrR := by
  obtain ⟨r, r0, r1, hr⟩ := next_ok l a 6 hl h0 (by omega) (by decide) (by decide)
  unfold m_lanemake_Stream_Addr Dr
  rw [hr]
  simp only [bi_some]
  cases (r == 0) with
  | true =>
    obtain ⟨s, s0, s1, hs⟩ := next_ok l (a + 1) 5 hl (by omega) (by omega) (by decide) (by decide)
    obtain ⟨t, t0, t1, ht⟩ := next_ok l (a + 1 + 1) 5 hl (by omega) (by omega) (by decide) (by decide)
    obtain ⟨x, hx, ex⟩ := getZ_in ([0, 18230571291595767808, 2306139568115548160, 9223372036854775808, 18446744073709551615] : List Int) s0 s1
    obtain ⟨y, hy, ey⟩ := getZ_in ([0, 1, 2, 4294967296, 18446744073709551615] : List Int) t0 t1
    simp only [cond_true, hs, ht, bi_some, ex, ey]
    have : ∀ x ∈ ([0, 18230571291595767808, 2306139568115548160, 9223372036854775808, 18446744073709551615] : List Int), 0 ≤ x := by decide
    refine ⟨_, _, ?_, ?_, ?_, rfl⟩; exact this x hx; omega; omega
  | false =>
    cases (r == 1) with
    | true =>
      obtain ⟨t, t0, t1, ht⟩ := next_ok l (a + 1) 5 hl (by omega) (by omega) (by decide) (by decide)
      obtain ⟨y, hy, ey⟩ := getZ_in ([0, 1, 4294967295, 2130706433, 3232235521] : List Int) t0 t1
      simp only [cond_true, cond_false, ht, bi_some, ey]
      refine ⟨_, _, ?_, ?_, ?_, rfl⟩; exact Int.le_refl _; omega; omega
    | false =>
      cases (r == 2) with
      | true =>
        obtain ⟨x, _, _, hx⟩ := range_ok l (a + 1) 0 16777216 hl (by omega) (by omega) (by decide) (by decide) (by decide)
        simp only [cond_true, cond_false, hx, bi_some]
        refine ⟨_, _, ?_, ?_, ?_, rfl⟩; exact Int.le_refl _; omega; omega
      | false =>
        obtain ⟨x, _, _, hx⟩ := range_ok l (a + 1) 0 20 hl (by omega) (by omega) (by decide) (by decide) (by decide)
        simp only [cond_false, hx, bi_some]
        refine ⟨_, _, ?_, ?_, ?_, rfl⟩; exact Int.le_refl _; omega; omega
theorem rawD (l : List Int) (a : Int) (hl : l.length ≤ 9223372036854775807) (h0 : 0 ≤ a) (h1 : a < 4611686018427370000) : Dr l a 10 (m_lanemake_Stream_Raw ⟨l, a⟩) addrR := by
  obtain ⟨x, b, p, q1, q2, e⟩ := addrD l a hl h0 (by omega)
  obtain ⟨f, hf⟩ := flip_ok l b 15 hl (by omega) (by omega) (by decide) (by decide)
  unfold m_lanemake_Stream_Raw Dr
  rw [e]
  simp only [bi_some, hf]
  cases f with
  | false => refine ⟨_, _, ?_, ?_, ?_, rfl⟩; exact p; omega; omega
  | true =>
    obtain ⟨s, s0, s1, hs⟩ := next_ok l (b + 1) 2 hl (by omega) (by omega) (by decide) (by decide)
    obtain ⟨t, t0, t1, ht⟩ := next_ok l (b + 1 + 1) 3 hl (by omega) (by omega) (by decide) (by decide)
    obtain ⟨y, hy, ey⟩ := getZ_in ([4294967296, 5, 1099511627776] : List Int) t0 t1
    simp only [cond_true, hs, ht, bi_some, ey]
    refine ⟨_, _, ?_, ?_, ?_, rfl⟩; exact u64_nn _; omega; omega
theorem oddD (l : List Int) (a lo hi : Int) (hl : l.length ≤ 9223372036854775807) (h0 : 0 ≤ a) (h1 : a < 4611686018427370000) (h2 : lo ≤ hi) (h3 : -1000000000 ≤ lo) (h4 : hi ≤ 1000000000) : Dr l a 5 (m_lanemake_Stream_Odd ⟨l, a⟩ lo hi) fun _ => True := by
  obtain ⟨f, hf⟩ := flip_ok l a 12 hl (by omega) (by omega) (by decide) (by decide)
  unfold m_lanemake_Stream_Odd Dr
  rw [hf]
  simp only [bi_some]
  cases f with
  | true =>
    obtain ⟨x, _, hx⟩ := pick_ok l (a + 1) [wi (lo - 1), wi (hi + 1), lo, hi, -1099511627776, 1099511627776] hl (by omega) (by omega) (by simp) (by simp)
    simp only [cond_true, hx, bi_some]
    refine ⟨_, _, ?_, ?_, ?_, rfl⟩; exact trivial; omega; omega
  | false =>
    obtain ⟨x, _, _, hx⟩ := range_ok l (a + 1) lo hi hl (by omega) (by omega) h2 h3 h4
    simp only [cond_false, hx, bi_some]
    refine ⟨_, _, ?_, ?_, ?_, rfl⟩; exact trivial; omega; omega
theorem toT : ∀ x ∈ ([[97, 46, 110, 101, 116, 46, 120], [98, 46, 110, 101, 116, 46, 120], [99, 46, 110, 101, 116, 46, 120], [113, 46, 108, 97, 98, 46, 110, 101, 116, 46, 120], [100, 46, 110, 101, 116, 46, 120], [111, 116, 104, 101, 114]] : List Str), x.length ≤ 300 := by decide
theorem toT2 : ∀ x ∈ ([[97, 46, 110, 101, 116, 46, 120], [98, 46, 110, 101, 116, 46, 120]] : List Str), x.length ≤ 300 := by decide
theorem toT3 : ∀ x ∈ ([[], [65], [120]] : List Str), x.length ≤ 300 := by decide
theorem woT : ∀ x ∈ ([[], [104, 105], [97, 32, 98], [118, 61, 49]] : List Str), x ∈ wordsT := by decide
theorem woT2 : ∀ x ∈ ([[32, 120], [97, 10, 98], [], [121]] : List Str), x ∈ wordsT := by decide
theorem recD (l : List Int) (a : Int) (name : Str) (hl : l.length ≤ 9223372036854775807) (h0 : 0 ≤ a) (h1 : a < 4611686018427360000) (hn : name.length ≤ 300) : Dr l a 30 (m_lanemake_Stream_record ⟨l, a⟩ name) okRec := by
  obtain ⟨life, _, hlife⟩ := pick_ok l a [0, 5, 60, 1000000] hl (by omega) (by omega) (by decide) (by decide)
  obtain ⟨kd, k0, k1, hkd⟩ := next_ok l (a + 1) 7 hl (by omega) (by omega) (by decide) (by decide)
  unfold m_lanemake_Stream_record Dr
  rw [hlife]
  simp only [bi_some, hkd]
  generalize hX : (bi (bif (kd == 0) then (some (kd == 0)) else (some (kd == 1))) fun q7 => bif q7 then _ else _ : Option (T_lanemake_Stream × T_api_Record)) = X
  have hq : ∃ r b, okRec r ∧ a + 2 ≤ b ∧ b ≤ a + 5 ∧ X = some (⟨l, b⟩, r) := by
    subst hX
    generalize hb01 : (bif (kd == 0) then (some (kd == 0)) else (some (kd == 1))) = b01
    obtain ⟨b, rfl⟩ : ∃ b, b01 = some b := by subst hb01; cases (kd == 0) <;> exact ⟨_, rfl⟩
    simp only [bi_some]
    have w0 : ([] : Str) ∈ wordsT := by decide
    cases b with
    | true =>
      obtain ⟨x, _, _, hx⟩ := range_ok l (a + 1 + 1) 1 3 hl (by omega) (by omega) (by decide) (by decide) (by decide)
      simp only [cond_true, hx, bi_some, m_lanemake_at]
      refine ⟨_, _, ?_, ?_, ?_, rfl⟩; exact ⟨hn, by simp, w0, Int.le_refl _⟩; omega; omega
    | false =>
      cases (kd == 2) with
      | true =>
        obtain ⟨x, _, _, hx⟩ := range_ok l (a + 1 + 1) 1 3 hl (by omega) (by omega) (by decide) (by decide) (by decide)
        simp only [cond_true, cond_false, hx, bi_some, m_lanemake_sixAt]
        refine ⟨_, _, ?_, ?_, ?_, rfl⟩; exact ⟨hn, by simp, w0, (by decide : (0 : Int) ≤ 18230571291595767808)⟩; omega; omega
      | false =>
        cases (kd == 3) with
        | true =>
          obtain ⟨x, hx, e⟩ := some_ok l (a + 1 + 1) [[], [104, 105], [97, 32, 98], [118, 61, 49]] hl (by omega) (by omega) (by decide) (by decide)
          simp only [cond_true, cond_false, e, bi_some]
          refine ⟨_, _, ?_, ?_, ?_, rfl⟩; exact ⟨hn, by simp, woT x hx, Int.le_refl _⟩; omega; omega
        | false =>
          cases (kd == 4) with
          | true =>
            obtain ⟨x, hx, e⟩ := some_ok l (a + 1 + 1) [[97, 46, 110, 101, 116, 46, 120], [98, 46, 110, 101, 116, 46, 120]] hl (by omega) (by omega) (by decide) (by decide)
            simp only [cond_true, cond_false, e, bi_some]
            refine ⟨_, _, ?_, ?_, ?_, rfl⟩; exact ⟨hn, toT2 x hx, w0, Int.le_refl _⟩; omega; omega
          | false =>
            obtain ⟨x, hx, e⟩ := some_ok l (a + 1 + 1) [[97, 46, 110, 101, 116, 46, 120], [98, 46, 110, 101, 116, 46, 120], [99, 46, 110, 101, 116, 46, 120], [113, 46, 108, 97, 98, 46, 110, 101, 116, 46, 120], [100, 46, 110, 101, 116, 46, 120], [111, 116, 104, 101, 114]] hl (by omega) (by omega) (by decide) (by decide)
            simp only [cond_false, e, bi_some]
            refine ⟨_, _, ?_, ?_, ?_, rfl⟩; exact ⟨hn, toT x hx, w0, Int.le_refl _⟩; omega; omega
  obtain ⟨r, b, ⟨p1, p2, p3, p4⟩, q1, q2, rfl⟩ := hq
  obtain ⟨f, hf⟩ := flip_ok l b 40 hl (by omega) (by omega) (by decide) (by decide)
  simp only [bi_some, hf]
  cases f with
  | false => refine ⟨_, _, ?_, ?_, ?_, rfl⟩; exact ⟨p1, p2, p3, p4⟩; omega; omega
  | true =>
    obtain ⟨k, k0, k1, hk⟩ := next_ok l (b + 1) 4 hl (by omega) (by omega) (by decide) (by decide)
    simp only [cond_true, hk, bi_some]
    cases (k == 0) with
    | true =>
      obtain ⟨x, _, e⟩ := pick_ok l (b + 1 + 1) [0, 2, 5] hl (by omega) (by omega) (by decide) (by decide)
      simp only [cond_true, e, bi_some]
      refine ⟨_, _, ?_, ?_, ?_, rfl⟩; exact ⟨p1, p2, p3, p4⟩; omega; omega
    | false =>
      cases (k == 1) with
      | true =>
        obtain ⟨x, c, p, c1, c2, e⟩ := rawD l (b + 1 + 1) hl (by omega) (by omega)
        simp only [cond_true, cond_false, e, bi_some]
        refine ⟨_, _, ?_, ?_, ?_, rfl⟩; exact ⟨p1, p2, p3, p⟩; omega; omega
      | false =>
        cases (k == 2) with
        | true =>
          obtain ⟨x, hx, e⟩ := some_ok l (b + 1 + 1) [[], [65], [120]] hl (by omega) (by omega) (by decide) (by decide)
          simp only [cond_true, cond_false, e, bi_some]
          refine ⟨_, _, ?_, ?_, ?_, rfl⟩; exact ⟨p1, toT3 x hx, p3, p4⟩; omega; omega
        | false =>
          obtain ⟨x, hx, e⟩ := some_ok l (b + 1 + 1) [[32, 120], [97, 10, 98], [], [121]] hl (by omega) (by omega) (by decide) (by decide)
          obtain ⟨y, c, _, c1, c2, e2⟩ := oddD l (b + 1 + 1 + 1) 0 1000000 hl (by omega) (by omega) (by decide) (by decide) (by decide)
          simp only [cond_false, e, bi_some, e2]
          refine ⟨_, _, ?_, ?_, ?_, rfl⟩; exact ⟨p1, p2, woT2 x hx, p4⟩; omega; omega

theorem cmpK_ok (a b : T_api_Record) : ∃ c, m_lanemake_Stream_Zone_1 a b = some c := by
  unfold m_lanemake_Stream_Zone_1 m_slices_Compare_int_int
  generalize hf : (fun (i1 : Nat) (x4 : Int) (s3 : Unit) => _) = f
  obtain ⟨r, hr⟩ := rangeM_ex (f := f) [a.Kind, wi a.Addr.Lo] 0 (by
    intro j x hj _
    subst hf
    simp only [List.length_cons, List.length_nil] at hj ⊢
    rw [decide_eq_false (show ¬ ((j : Int) ≥ ((0 + 1 + 1 : Nat) : Int)) by omega)]
    obtain ⟨y, _, hy⟩ := getZ_in [b.Kind, wi b.Addr.Lo] (r := (j : Int)) (by omega) (by simp; omega)
    simp only [cond_false, hy, bi_some, cmpInt_ok]
    cases (cmpI x y != 0) <;> exact ⟨_, rfl⟩)
  rw [hr]
  cases r with
  | out v => exact ⟨_, rfl⟩
  | go u => exact ⟨_, rfl⟩
theorem set_mem {l : List T_api_Record} {p : T_api_Record → Prop} (h : ∀ x ∈ l, p x) {i : Nat} {y : T_api_Record} (hy : p y) : ∀ x ∈ l.set i y, p x := fun x hx => by
  rcases List.mem_or_eq_of_mem_set hx with h' | rfl
  · exact h x h'
  · exact hy
theorem insertD (data : List T_api_Record) (hl : data.length ≤ 100) (h : ∀ x ∈ data, okRec x) : ∃ r, m_slices_insertionSortCmpFunc_api_Record 400 data 0 (data.length : Int) = some r ∧ r.length = data.length ∧ ∀ x ∈ r, okRec x := by
  unfold m_slices_insertionSortCmpFunc_api_Record
  generalize hf : (fun (s2 : List T_api_Record × Int) => _) = f
  have w1 : wi ((0 : Int) + 1) = 1 := rfl
  rw [w1]
  obtain ⟨r, e1, e2⟩ := loopM_ex (f := f) (fun s => s.1.length = data.length ∧ (∀ x ∈ s.1, okRec x) ∧ 1 ≤ s.2 ∧ s.2 ≤ 101) (fun s => (101 - s.2).toNat) (fun r => r.length = data.length ∧ ∀ x ∈ r, okRec x) (by
    rintro ⟨d, i⟩ ⟨i1, i2, i3, i4⟩
    simp only at i1 i2 i3 i4
    subst hf
    simp only
    by_cases hi : i < (data.length : Int)
    · rw [decide_eq_true hi]
      simp only [cond_true]
      generalize hg : (fun (s13 : List T_api_Record × Int) => _) = g
      obtain ⟨q, q1, q2⟩ := loopM_ex (f := g) (fun s => s.1.length = data.length ∧ (∀ x ∈ s.1, okRec x) ∧ 0 ≤ s.2 ∧ s.2 < data.length) (fun s => s.2.toNat) (fun r => r.length = data.length ∧ ∀ x ∈ r, okRec x) (by
        rintro ⟨e, j⟩ ⟨j1, j2, j3, j4⟩
        simp only at j1 j2 j3 j4
        subst hg
        simp only
        by_cases hj : j > 0
        · have wj : wi (j - 1) = j - 1 := wi_id (by omega) (by omega)
          obtain ⟨x, hx, ex⟩ := getZ_in e (r := j) (by omega) (by omega)
          obtain ⟨y, hy, ey⟩ := getZ_in e (r := j - 1) (by omega) (by omega)
          obtain ⟨c, hc⟩ := cmpK_ok x y
          rw [decide_eq_true hj, wj]
          simp only [cond_true, ex, ey, bi_some, hc]
          cases decide (c < 0) with
          | false => exact ⟨_, rfl, fun s' e => (by cases e), fun r e => (by cases e; exact ⟨j1, j2⟩)⟩
          | true => exact ⟨_, rfl, fun s' e => (by cases e; exact ⟨⟨by simpa using j1, set_mem (set_mem j2 (j2 y hy)) (j2 x hx), by simp only; omega, by simp only; omega⟩, by simp only; omega⟩), fun r e => (by cases e)⟩
        · rw [decide_eq_false hj]
          exact ⟨_, rfl, fun s' e => (by cases e), fun r e => (by cases e; exact ⟨j1, j2⟩)⟩)
        400 (d, i) ⟨i1, i2, by simp only; omega, hi⟩ (by simp only; omega)
      rw [q1]
      have wi1 : wi (i + 1) = i + 1 := wi_id (by omega) (by omega)
      simp only [bi_some, wi1]
      exact ⟨_, rfl, fun s' e => (by cases e; exact ⟨⟨q2.1, q2.2, by simp only; omega, by simp only; omega⟩, by simp only; omega⟩), fun r e => (by cases e)⟩
    · rw [decide_eq_false hi]
      exact ⟨_, rfl, fun s' e => (by cases e), fun r e => (by cases e; exact ⟨i1, i2⟩)⟩)
    400 (data, 1) ⟨rfl, h, (by decide : (1 : Int) ≤ 1), (by decide : (1 : Int) ≤ 101)⟩ (by simp)
  rw [e1]
  exact ⟨r, rfl, e2⟩
theorem sortD (data : List T_api_Record) (hl : data.length ≤ 19) (h : ∀ x ∈ data, okRec x) : ∃ r, m_slices_SortStableFunc_api_Record_api_Record 400 data = some r ∧ r.length = data.length ∧ ∀ x ∈ r, okRec x := by
  unfold m_slices_SortStableFunc_api_Record_api_Record m_slices_stableCmpFunc_api_Record
  obtain ⟨r, e1, e2, e3⟩ := insertD data (by omega) h
  have d1 : decide ((20 : Int) ≤ (data.length : Int)) = false := decide_eq_false (by omega)
  have d2 : decide ((20 : Int) < (data.length : Int)) = false := decide_eq_false (by omega)
  have d3 : decide (r.length = data.length) = true := decide_eq_true e2
  refine ⟨r, ?_, e2, e3⟩
  simp only [loopM, d1, cond_false, bi_some, e1, d3, gd_true, d2]
theorem zone2D (x y : T_api_Record) (l : List Int) (a : Int) (hl : l.length ≤ 9223372036854775807) (h0 : 0 ≤ a) (h1 : a < 4611686018427360000) : ∃ b a', m_lanemake_Stream_Zone_2 x y ⟨l, a⟩ = some (b, ⟨l, a'⟩) ∧ a ≤ a' ∧ a' ≤ a + 1 := by
  unfold m_lanemake_Stream_Zone_2
  obtain ⟨f, hf⟩ := flip_ok l a 20 hl h0 (by omega) (by decide) (by decide)
  generalize ((x.Kind == y.Kind) && (_ : Bool)) = c
  cases c with
  | true => simp only [cond_true, hf, bi_some]; exact ⟨_, _, rfl, by omega, by omega⟩
  | false => exact ⟨_, _, rfl, by omega, by omega⟩
theorem compactD (s : List T_api_Record) (l : List Int) (a : Int) (hs : s.length ≤ 19) (h : ∀ x ∈ s, okRec x) (hl : l.length ≤ 9223372036854775807) (h0 : 0 ≤ a) (h1 : a < 4611686018427350000) :
    ∃ r a', m_slices_CompactFunc_api_Record_api_Record 400 s ⟨l, a⟩ = some (r, ⟨l, a'⟩) ∧ r.length ≤ s.length ∧ (∀ x ∈ r, okRec x) ∧ a ≤ a' ∧ a' ≤ a + 100 := by
  unfold m_slices_CompactFunc_api_Record_api_Record
  by_cases h2 : (s.length : Int) < 2
  · rw [decide_eq_true h2]
    exact ⟨_, _, rfl, Nat.le_refl _, h, by omega, by omega⟩
  · rw [decide_eq_false h2]
    simp only [cond_false]
    generalize hf : (fun (s4 : T_lanemake_Stream × Int) => _) = f
    obtain ⟨r, e1, e2⟩ := loopM_ex (f := f) (fun t => 1 ≤ t.2 ∧ t.2 ≤ 20 ∧ ∃ b, t.1 = ⟨l, b⟩ ∧ a ≤ b ∧ b ≤ a + t.2) (fun t => (20 - t.2).toNat) (fun r => (∃ b, r = .inl ⟨l, b⟩ ∧ a ≤ b ∧ b ≤ a + 100) ∨ ∃ q b, r = .inr (q, ⟨l, b⟩) ∧ q.length ≤ s.length ∧ (∀ x ∈ q, okRec x) ∧ a ≤ b ∧ b ≤ a + 100) (by
      rintro ⟨t, i⟩ ⟨i1, i2, b, rfl, i3, i4⟩
      simp only at i1 i2 i4
      subst hf
      simp only
      by_cases hi : i < (s.length : Int)
      · have wj : wi (i - 1) = i - 1 := wi_id (by omega) (by omega)
        have wj2 : wi (i + 1) = i + 1 := wi_id (by omega) (by omega)
        obtain ⟨x, hx, ex⟩ := getZ_in s (r := i) (by omega) (by omega)
        obtain ⟨y, hy, ey⟩ := getZ_in s (r := i - 1) (by omega) (by omega)
        obtain ⟨c, b', hc, c1, c2⟩ := zone2D x y l b hl (by omega) (by omega)
        rw [decide_eq_true hi, wj, wj2]
        simp only [cond_true, ex, ey, bi_some, hc]
        cases c with
        | false => exact ⟨_, rfl, fun s' e => (by cases e; exact ⟨⟨by simp only; omega, by simp only; omega, _, rfl, by omega, by simp only; omega⟩, by simp only; omega⟩), fun r e => (by cases e)⟩
        | true =>
          have hsub : subZ s i (s.length : Int) = some (s.drop i.toNat) := by
            unfold subZ
            rw [decide_eq_true (show (0 : Int) ≤ i by omega), decide_eq_true (show i ≤ (s.length : Int) by omega), decide_eq_true (Int.le_refl _)]
            simp [List.take_of_length_le]
          simp only [cond_true, hsub, bi_some]
          have hzl : (s.drop i.toNat).length = s.length - i.toNat := List.length_drop
          generalize s.drop i.toNat = z at hzl
          generalize hg : (fun (s26 : List T_api_Record × T_lanemake_Stream × Int × Int) => _) = g
          obtain ⟨q, q1, q2⟩ := loopM_ex (f := g) (fun t => t.1.length = s.length ∧ (∀ x ∈ t.1, okRec x) ∧ i ≤ t.2.2.1 ∧ t.2.2.1 + 1 ≤ i + t.2.2.2 ∧ 1 ≤ t.2.2.2 ∧ t.2.2.2 ≤ (z.length : Int) ∧ ∃ b2, t.2.1 = ⟨l, b2⟩ ∧ a ≤ b2 ∧ b2 ≤ a + 25 + t.2.2.2) (fun t => (20 - t.2.2.2).toNat) (fun r => r.1.length = s.length ∧ (∀ x ∈ r.1, okRec x) ∧ 0 ≤ r.2.2 ∧ r.2.2 ≤ (s.length : Int) ∧ ∃ b2, r.2.1 = ⟨l, b2⟩ ∧ a ≤ b2 ∧ b2 ≤ a + 50) (by
            rintro ⟨d, t, j, k⟩ ⟨j1, j2, j3, j4, j5, j6, b2, rfl, j7, j8⟩
            simp only at j1 j2 j3 j4 j5 j6 j8
            subst hg
            simp only
            by_cases hk : k < (z.length : Int)
            · have v1 : wi (k - 1) = k - 1 := wi_id (by omega) (by omega)
              have v2 : wi (k + 1) = k + 1 := wi_id (by omega) (by omega)
              have v3 : wi (j + 1) = j + 1 := wi_id (by omega) (by omega)
              obtain ⟨x1, _, g1⟩ := getZ_in z (r := k) (by omega) hk
              obtain ⟨x2, m2, g2⟩ := getZ_in d (r := ((i.toNat + k.toNat : Nat) : Int)) (by omega) (by omega)
              obtain ⟨x3, _, g3⟩ := getZ_in z (r := k - 1) (by omega) (by omega)
              obtain ⟨x4, _, g4⟩ := getZ_in d (r := ((i.toNat + (k - 1).toNat : Nat) : Int)) (by omega) (by omega)
              obtain ⟨x5, _, g5⟩ := getZ_in d (r := j) (by omega) (by omega)
              obtain ⟨c, b', hc, c1, c2⟩ := zone2D x2 x4 l b2 hl (by omega) (by omega)
              rw [decide_eq_true hk, v1, v2, v3]
              simp only [cond_true, g1, g2, g3, g4, g5, bi_some, hc]
              cases c with
              | true => exact ⟨_, rfl, fun s' e => (by cases e; exact ⟨⟨j1, j2, j3, by simp only; omega, by simp only; omega, by simp only; omega, _, rfl, by omega, by simp only; omega⟩, by simp only; omega⟩), fun r e => (by cases e)⟩
              | false => exact ⟨_, rfl, fun s' e => (by cases e; exact ⟨⟨by simpa using j1, set_mem j2 (j2 x2 m2), by simp only; omega, by simp only; omega, by simp only; omega, by simp only; omega, _, rfl, by omega, by simp only; omega⟩, by simp only; omega⟩), fun r e => (by cases e)⟩
            · rw [decide_eq_false hk]
              exact ⟨_, rfl, fun s' e => (by cases e), fun r e => (by cases e; exact ⟨j1, j2, by simp only; omega, by simp only; omega, b2, rfl, by omega, by omega⟩)⟩)
            400 (s, ⟨l, b'⟩, i, 1) ⟨rfl, h, by simp only; omega, by simp only; omega, by simp only; omega, by simp only; omega, b', rfl, by omega, by simp only; omega⟩ (by simp only; omega)
          rw [q1]
          obtain ⟨p1, p2, p3, p4, b2, p5, p6, p7⟩ := q2
          have hsub2 : ∃ z, subZ q.1 q.2.2 (q.1.length : Int) = some z := by
            unfold subZ
            rw [decide_eq_true p3, decide_eq_true (show q.2.2 ≤ (q.1.length : Int) by omega), decide_eq_true (Int.le_refl _)]
            exact ⟨_, rfl⟩
          obtain ⟨z2, hz2⟩ := hsub2
          simp only [bi_some, hz2]
          refine ⟨_, rfl, fun s' e => (by cases e), fun r e => ?_⟩
          cases e
          exact .inr ⟨_, b2, by rw [p5], by simp; omega, fun x hx => p2 x (List.mem_of_mem_take hx), by omega, by omega⟩
      · rw [decide_eq_false hi]
        exact ⟨_, rfl, fun s' e => (by cases e), fun r e => (by cases e; exact .inl ⟨b, rfl, by omega, by omega⟩)⟩)
      400 (⟨l, a⟩, 1) ⟨(by decide : (1 : Int) ≤ 1), (by decide : (1 : Int) ≤ 20), a, rfl, by omega, by simp only; omega⟩ (by simp)
    rw [e1]
    rcases e2 with ⟨b, rfl, b1, b2⟩ | ⟨q, b, rfl, q1, q2, b1, b2⟩
    · exact ⟨s, b, rfl, Nat.le_refl _, h, b1, b2⟩
    · exact ⟨q, b, rfl, q1, q2, b1, b2⟩

def znames : List Str := [[42, 46, 108, 97, 98, 46, 110, 101, 116, 46, 120], [42, 46, 110, 101, 116, 46, 120], [97, 46, 110, 101, 116, 46, 120], [98, 46, 110, 101, 116, 46, 120], [99, 46, 110, 101, 116, 46, 120], [100, 101, 101, 112, 46, 97, 46, 110, 101, 116, 46, 120], [110, 101, 116, 46, 120], [115, 46, 116, 46, 110, 101, 116, 46, 120]]
theorem znames_len : ∀ x ∈ znames, x.length ≤ 300 := by decide
theorem zoneD (l : List Int) (a : Int) (hl : l.length ≤ 9223372036854775807) (h0 : 0 ≤ a) (h1 : a < 4611686018427300000) :
    ∃ z a', okZone z ∧ z.Records.length ≤ 24 ∧ a ≤ a' ∧ a' ≤ a + 3000 ∧ m_lanemake_Stream_Zone 400 ⟨l, a⟩ = some (z, ⟨l, a'⟩) := by
  unfold m_lanemake_Stream_Zone
  generalize hf : (fun (i1 : Nat) (x3 : Str) (s2 : T_lanemake_Stream × List T_api_Record) => _) = f
  obtain ⟨r, hr, hI⟩ := rangeF_inv (f := f) 8 (fun i s => ∃ b, s.1 = ⟨l, b⟩ ∧ a ≤ b ∧ b ≤ a + 300 * i ∧ s.2.length ≤ 3 * i ∧ ∀ x ∈ s.2, okRec x) znames 0 (⟨l, a⟩, []) (by decide) ⟨a, rfl, Int.le_refl _, by omega, by simp, fun p hp => by cases hp⟩ (by
    rintro j x ⟨s, y⟩ hj ⟨b, rfl, q1, q2, q3, q4⟩ hx
    simp only at q3 q4
    have hxl := znames_len x hx
    subst hf
    obtain ⟨c, hc⟩ := flip_ok l b 3 hl (by omega) (by omega) (by decide) (by decide)
    simp only [hc, bi_some]
    cases c with
    | true => exact ⟨_, rfl, b + 1, rfl, by omega, by push_cast; omega, by simp only; omega, q4⟩
    | false =>
      obtain ⟨n, hn, en⟩ := pick_ok l (b + 1) [1, 1, 2, 3] hl (by omega) (by omega) (by decide) (by decide)
      have hn3 : ∀ n ∈ ([1, 1, 2, 3] : List Int), 1 ≤ n ∧ n ≤ 3 := by decide
      obtain ⟨n1, n2⟩ := hn3 n hn
      simp only [cond_false, en, bi_some]
      rw [decide_eq_true (show n ≤ 9223372036854775807 by omega), gd_true]
      unfold rangeG
      generalize hg : (fun (i : Nat) (_ : Unit) (s : T_lanemake_Stream × List T_api_Record) => _) = g
      obtain ⟨q, e1, b3, e2, e3, e4, e5, e6⟩ := rangeF_inv (f := g) 3 (fun i s => ∃ b3, s.1 = ⟨l, b3⟩ ∧ b ≤ b3 ∧ b3 ≤ b + 2 + 40 * i ∧ s.2.length ≤ i ∧ ∀ x ∈ s.2, okRec x) (List.replicate n.toNat ()) 0 (⟨l, b + 1 + 1⟩, []) (by simp; omega) ⟨b + 1 + 1, rfl, by omega, by omega, by simp, fun p hp => by cases hp⟩ (by
        rintro i u ⟨s, d⟩ hi ⟨b3, rfl, k1, k2, k3, k4⟩ _
        simp only at k3 k4
        subst hg
        obtain ⟨r, b4, r1, r2, r3, er⟩ := recD l b3 x hl (by omega) (by omega) hxl
        simp only [er, bi_some]
        have hq : ∃ t, (bif ((d.length : Int) == 0) then (some true) else (bi (bif (r.Kind != 5) then (bi (getZ d 0) fun x39 => some (x39.Kind != 5)) else (some false)) fun q36 => some q36)) = some t := by
          cases hd : ((d.length : Int) == 0) with
          | true => exact ⟨_, rfl⟩
          | false =>
            have : (d.length : Int) ≠ 0 := by simpa using hd
            obtain ⟨y, _, hy⟩ := getZ_in d (r := 0) (by omega) (by omega)
            rw [hy]
            cases (r.Kind != 5) <;> exact ⟨_, rfl⟩
        obtain ⟨t, ht⟩ := hq
        rw [ht]
        obtain ⟨fl, hfl⟩ := flip_ok l b4 15 hl (by omega) (by omega) (by decide) (by decide)
        have happ : apd d [r] = some (d ++ [r]) := apd_some (by simp only [List.length_cons, List.length_nil]; omega)
        simp only [bi_some, hfl, happ]
        have hall : ∀ x ∈ d ++ [r], okRec x := fun x hx => by
          rcases List.mem_append.1 hx with h | h
          · exact k4 x h
          · obtain rfl := List.mem_singleton.1 h; exact r1
        cases t with
        | true => exact ⟨_, rfl, b4, rfl, by omega, by push_cast; omega, by simp only [List.length_append, List.length_cons, List.length_nil]; omega, hall⟩
        | false =>
          cases fl with
          | true => exact ⟨_, rfl, b4 + 1, rfl, by omega, by push_cast; omega, by simp only [List.length_append, List.length_cons, List.length_nil]; omega, hall⟩
          | false => exact ⟨_, rfl, b4 + 1, rfl, by omega, by push_cast; omega, by simp only; omega, k4⟩)
      obtain ⟨qs, qd⟩ := q
      simp only [List.length_replicate] at e4 e5
      simp only at e2 e5 e6
      subst e2
      have hnn : ((0 + n.toNat : Nat) : Int) ≤ 3 := by omega
      obtain ⟨sd, s1, s2, s3⟩ := sortD qd (by omega) e6
      obtain ⟨cd, b5, c1, c2, c3, c4, c5⟩ := compactD sd l b3 (by omega) s3 hl (by omega) (by omega)
      have happ : apd y cd = some (y ++ cd) := apd_some (by omega)
      rw [e1]
      simp only [bi_some, s1, s2, decide_true, gd_true, c1, happ]
      refine ⟨_, rfl, b5, rfl, by omega, by push_cast; omega, by simp only [List.length_append]; omega, fun x hx => ?_⟩
      rcases List.mem_append.1 hx with h | h
      · exact q4 x h
      · exact c3 x h)
  obtain ⟨s, y⟩ := r
  obtain ⟨b, e, q1, q2, q3, q4⟩ := hI
  simp only at e q3 q4
  subst e
  have hzl : znames.length = 8 := rfl
  rw [hzl] at q2 q3
  unfold znames at hr
  rw [hr]
  obtain ⟨c, hc⟩ := flip_ok l b 30 hl (by omega) (by omega) (by decide) (by decide)
  simp only [bi_some, hc]
  cases c with
  | false => exact ⟨_, _, ⟨by simp, by simp only; omega, q4⟩, by simp only; omega, by omega, by omega, rfl⟩
  | true =>
    obtain ⟨d, hd, e1⟩ := domain_ok l (b + 1) hl (by omega) (by omega)
    simp only [cond_true, e1, bi_some]
    exact ⟨_, _, ⟨hd, by simp only; omega, q4⟩, by simp only; omega, by omega, by omega, rfl⟩

def srvT : List Str := [[], [105, 110], [111, 117, 116]]
structure okNet (n : T_api_Net) : Prop where
  search : ∀ d ∈ n.Search, d.length ≤ 300
  slen : n.Search.length ≤ 3
  splits : okSplits n.Splits
  plen : n.Splits.length ≤ 5
  srcs : n.Sources.length ≤ 2
  src : ∀ s ∈ n.Sources, s.Server ∈ srvT ∧ s.Zones.length ≤ 2 ∧ ∀ z ∈ s.Zones, okZone z
theorem okZone_nil (r : Str) (h : r.length ≤ 300) : okZone ⟨r, []⟩ := ⟨h, by simp, fun x hx => by cases hx⟩
theorem rightD (l : List Int) (a : Int) (hl : l.length ≤ 9223372036854775807) (h0 : 0 ≤ a) (h1 : a < 4611686018427200000) :
    ∃ z a', okZone z ∧ a ≤ a' ∧ a' ≤ a + 20000 ∧ m_lanemake_Stream_RightZone 400 ⟨l, a⟩ = some (z, ⟨l, a'⟩) := by
  unfold m_lanemake_Stream_RightZone
  generalize hf : (fun (s2 : T_lanemake_Stream × Int) => _) = f
  obtain ⟨r, e1, e2⟩ := loopM_ex (f := f) (fun s => (∃ b, s.1 = ⟨l, b⟩ ∧ a ≤ b ∧ b ≤ a + 3000 * s.2) ∧ 0 ≤ s.2 ∧ s.2 ≤ 6) (fun s => (7 - s.2).toNat) (fun r => (∃ b, r = .inl ⟨l, b⟩ ∧ a ≤ b ∧ b ≤ a + 20000) ∨ ∃ z b, r = .inr (z, ⟨l, b⟩) ∧ okZone z ∧ a ≤ b ∧ b ≤ a + 20000) (by
    rintro ⟨s, i⟩ ⟨⟨b, rfl, i1, i2⟩, i3, i4⟩
    simp only at i2 i3 i4
    subst hf
    simp only
    by_cases hi : i < 6
    · obtain ⟨z, b', hz, _, z1, z2, ez⟩ := zoneD l b hl (by omega) (by omega)
      obtain ⟨e, _, e2, _⟩ := zone_ok z hz
      have hw : wi (i + 1) = i + 1 := wi_id (by omega) (by omega)
      rw [decide_eq_true hi]
      simp only [cond_true, ez, bi_some, e2, hw]
      cases (e == 0) with
      | true => exact ⟨_, rfl, fun s' e => (by cases e), fun r e => (by cases e; exact .inr ⟨z, b', rfl, hz, by omega, by omega⟩)⟩
      | false => exact ⟨_, rfl, fun s' e => (by cases e; exact ⟨⟨⟨b', rfl, by omega, by simp only; omega⟩, by simp only; omega, by simp only; omega⟩, by simp only; omega⟩), fun r e => (by cases e)⟩
    · rw [decide_eq_false hi]
      exact ⟨_, rfl, fun s' e => (by cases e), fun r e => (by cases e; exact .inl ⟨b, rfl, by omega, by omega⟩)⟩)
    400 (⟨l, a⟩, 0) ⟨⟨a, rfl, by omega, by simp only; omega⟩, by simp, by simp⟩ (by simp)
  rw [e1]
  rcases e2 with ⟨b, rfl, b1, b2⟩ | ⟨z, b, rfl, hz, b1, b2⟩
  · exact ⟨_, b, okZone_nil _ (by decide), b1, b2, rfl⟩
  · exact ⟨z, b, hz, b1, b2, rfl⟩
theorem netD (l : List Int) (a : Int) (hl : l.length ≤ 9223372036854775807) (h0 : 0 ≤ a) (h1 : a < 4611686018427100000) :
    ∃ n a', okNet n ∧ a ≤ a' ∧ a' ≤ a + 30000 ∧ m_lanemake_Stream_Net 400 ⟨l, a⟩ = some (n, ⟨l, a'⟩) := by
  obtain ⟨s, a1, hs, hs3, a1l, a1u, e1⟩ := search_ok l a hl h0 (by omega)
  obtain ⟨d, _, e2⟩ := pick_ok l a1 [0, 1, 1, 2, 15] hl (by omega) (by omega) (by decide) (by decide)
  obtain ⟨p, a2, hp, hp5, a2l, a2u, e3⟩ := splits_ok l (a1 + 1) hl (by omega) (by omega)
  obtain ⟨z, a3, hz, a3l, a3u, e4⟩ := rightD l a2 hl (by omega) (by omega)
  obtain ⟨f, e5⟩ := flip_ok l a3 20 hl (by omega) (by omega) (by decide) (by decide)
  unfold m_lanemake_Stream_Net
  simp only [e1, bi_some, e2, e3, e4, m_lanemake_at, e5]
  generalize hr9 : (⟨[42, 46, 108, 97, 98, 46, 110, 101, 116, 46, 120], 1, _, [], [], 5⟩ : T_api_Record) = r9
  have h9 : okRec r9 := by subst hr9; exact ⟨by decide, by simp, by decide, Int.le_refl _⟩
  have hz1 : okZone (⟨[108, 97, 98, 46, 110, 101, 116, 46, 120], [r9]⟩ : T_api_Zone) := ⟨by simp only [List.length_cons, List.length_nil]; decide, by simp, fun x hx => by obtain rfl := List.mem_singleton.1 hx; exact h9⟩
  have hz2 : okZone (⟨[111, 116, 104, 101, 114], []⟩ : T_api_Zone) := okZone_nil _ (by decide)
  have hout : ∀ q ∈ ([⟨[108, 97, 98, 46, 110, 101, 116, 46, 120], [r9]⟩, ⟨[111, 116, 104, 101, 114], []⟩] : List T_api_Zone), okZone q := fun q hq => by
    simp only [List.mem_cons, List.not_mem_nil, or_false] at hq
    rcases hq with rfl | rfl
    · exact hz1
    · exact hz2
  have hin : ∀ q ∈ ([z] : List T_api_Zone), okZone q := fun q hq => by obtain rfl := List.mem_singleton.1 hq; exact hz
  generalize hX : (bif f then _ else _ : Option (T_lanemake_Stream × Int × List T_api_Source)) = X
  have mk : ∀ (sv : Str) (zs : List T_api_Zone) (sv2 : Str), sv ∈ srvT → sv2 ∈ srvT → zs.length ≤ 2 → (∀ q ∈ zs, okZone q) → ∀ x ∈ ([⟨sv, zs⟩, ⟨sv2, [⟨[108, 97, 98, 46, 110, 101, 116, 46, 120], [r9]⟩, ⟨[111, 116, 104, 101, 114], []⟩]⟩] : List T_api_Source), x.Server ∈ srvT ∧ x.Zones.length ≤ 2 ∧ ∀ z ∈ x.Zones, okZone z := fun sv zs sv2 h1 h2 h3 h4 x hx => by
    simp only [List.mem_cons, List.not_mem_nil, or_false] at hx
    rcases hx with rfl | rfl
    · exact ⟨h1, h3, h4⟩
    · exact ⟨h2, by simp, hout⟩
  obtain ⟨b, dd, ss, rfl, b1, b2, b3, b4⟩ : ∃ b dd ss, X = some (⟨l, b⟩, dd, ss) ∧ a3 ≤ b ∧ b ≤ a3 + 4000 ∧ ss.length ≤ 2 ∧ ∀ s ∈ ss, s.Server ∈ srvT ∧ s.Zones.length ≤ 2 ∧ ∀ z ∈ s.Zones, okZone z := by
    subst hX
    cases f with
    | false => exact ⟨a3 + 1, d, _, rfl, by omega, by omega, by simp, mk _ _ _ (by decide) (by decide) (by simp) hin⟩
    | true =>
      obtain ⟨k, k0, k1, hk⟩ := next_ok l (a3 + 1) 4 hl (by omega) (by omega) (by decide) (by decide)
      simp only [cond_true, hk, bi_some]
      cases (k == 0) with
      | true =>
        obtain ⟨y, c, _, c1, c2, e⟩ := oddD l (a3 + 1 + 1) 0 15 hl (by omega) (by omega) (by decide) (by decide) (by decide)
        simp only [cond_true, e, bi_some]
        exact ⟨c, _, _, rfl, by omega, by omega, by simp, mk _ _ _ (by decide) (by decide) (by simp) hin⟩
      | false =>
        cases (k == 1) with
        | true =>
          obtain ⟨q, c, hq, _, c1, c2, e⟩ := zoneD l (a3 + 1 + 1) hl (by omega) (by omega)
          have happ : apd [z] [q] = some [z, q] := apd_some (by simp)
          simp only [cond_true, cond_false, e, bi_some]
          have hg : ∀ (x y : T_api_Source), getZ [x, y] 0 = some x := fun _ _ => rfl
          simp only [hg, bi_some, happ]
          refine ⟨c, _, _, rfl, by omega, by omega, by simp, ?_⟩
          have := mk [105, 110] [z, q] [111, 117, 116] (by decide) (by decide) (by simp) (fun x hx => by
            simp only [List.mem_cons, List.not_mem_nil, or_false] at hx
            rcases hx with rfl | rfl
            · exact hz
            · exact hq)
          simpa using this
        | false =>
          cases (k == 2) with
          | true =>
            obtain ⟨q, hq, e⟩ := some_ok l (a3 + 1 + 1) [[], [105, 110]] hl (by omega) (by omega) (by decide) (by decide)
            have hq' : q ∈ srvT := by
              simp only [List.mem_cons, List.not_mem_nil, or_false] at hq
              rcases hq with rfl | rfl <;> decide
            have hg : ∀ (x y : T_api_Source), getZ [x, y] 1 = some y := fun _ _ => rfl
            simp only [cond_true, cond_false, e, bi_some, hg]
            refine ⟨a3 + 1 + 1 + 1, _, _, rfl, by omega, by omega, by simp, ?_⟩
            have := mk [105, 110] [z] q (by decide) hq' (by simp) hin
            simpa using this
          | false => exact ⟨a3 + 1 + 1, d, [], rfl, by omega, by omega, by simp, fun x hx => by cases hx⟩
  simp only [bi_some]
  exact ⟨_, b, ⟨hs, hs3, hp, hp5, b3, b4⟩, by omega, by omega, rfl⟩

/-! ### What is wrong -/
theorem srvkey_tab : ∀ x ∈ srvT, ∃ b, m_kit_IsKey 400 x = some b ∧ m_laneref2_Key x = some b := by
  intro x hx
  simp only [srvT, List.mem_cons, List.not_mem_nil, or_false] at hx
  rcases hx with rfl | rfl | rfl <;> exact ⟨_, rfl, rfl⟩
theorem rangeM_ex4 {α ρ : Type} {f g : Nat → α → Unit → Option (LS Unit ρ)} (p : ρ → Prop) (l0 : List α) (h : ∀ j x, l0[j]? = some x → ∃ y, f j x () = some y ∧ g j x () = some y ∧ ∀ v, y = .out v → p v) : ∃ r, rangeM f 0 l0 () = some r ∧ rangeM g 0 l0 () = some r ∧ (∀ v, r = .out v → p v) ∧ (r = .go () → ∀ j x, l0[j]? = some x → f j x () = some (.go ())) := by
  have key : ∀ (l : List α) (i : Nat), (∀ j, l[j]? = l0[i + j]?) → ∃ r, rangeM f i l () = some r ∧ rangeM g i l () = some r ∧ ∀ v, r = .out v → p v := by
    intro l
    induction l with
    | nil => intro i _; exact ⟨_, rfl, rfl, fun v h => by cases h⟩
    | cons x l ih =>
      intro i hl
      obtain ⟨y, h1, h2, h3⟩ := h i x (by have := hl 0; simpa using this.symm)
      simp only [rangeM, h1, h2]
      cases y with
      | out r => exact ⟨_, rfl, rfl, fun v h => by cases h; exact h3 _ rfl⟩
      | go s' => exact ih (i + 1) fun j => by have := hl (j + 1); rw [List.getElem?_cons_succ] at this; rw [this]; congr 1; omega
  obtain ⟨r, h1, h2, h3⟩ := key l0 0 fun j => by rw [Nat.zero_add]
  refine ⟨r, h1, h2, h3, fun e j x hx => ?_⟩
  subst e
  have := rangeM_go l0 0 h1 j x hx
  rwa [Nat.zero_add] at this
/-- What a net's answer rests on. -/
def Good (n : T_api_Net) : Prop := (∀ a b, n.Sources = [a, b] → a.Server ≠ b.Server) ∧ ∀ s ∈ n.Sources, ∀ z ∈ s.Zones, domF z.Root = 0 ∧ Calm z.Records
theorem ord_ok {α : Type} (l : List α) (key : α → Str) (j : Nat) (x : α) (hx : l[j]? = some x) (hl : l.length ≤ 1000) : ∃ b, (bif decide ((j : Int) > 0) then (bi (getZ l (wi ((j : Int) - 1))) fun y => some (Op.bytesLess (key x) (key y) || (key x : Str) == key y)) else (some false)) = some b ∧ ∀ y, 0 < j → l[j - 1]? = some y → b = false → key x ≠ key y := by
  have hlt := (List.getElem?_eq_some_iff.1 hx).1
  cases hd : decide ((j : Int) > 0) with
  | false =>
    have := of_decide_eq_false hd
    exact ⟨_, rfl, fun y h => by omega⟩
  | true =>
    have hj0 : (j : Int) > 0 := of_decide_eq_true hd
    have hlt2 : j - 1 < l.length := by omega
    have hg : getZ l (wi ((j : Int) - 1)) = some l[j - 1] := by
      rw [wi_id (by omega) (by omega), show ((j : Int) - 1) = ((j - 1 : Nat) : Int) by omega, getZ_cast, List.getElem?_eq_getElem hlt2]
    rw [hg]
    refine ⟨_, rfl, fun y _ hy hb => ?_⟩
    rw [List.getElem?_eq_getElem hlt2] at hy
    cases hy
    rw [Bool.or_eq_false_iff] at hb
    simpa using hb.2
theorem net_ok (n : T_api_Net) (h : okNet n) : ∃ e, m_name_CheckNet 400 n = some e ∧ m_laneref1_NetFault n = some e ∧ (e = 0 → Good n) := by
  obtain ⟨e1, s1, s2⟩ := searchFault_ok n.Search n.Dots h.search (by have := h.slen; omega)
  obtain ⟨e2, p1, p2⟩ := splitsFault_ok n.Splits h.splits h.plen
  have hsrc := h.srcs
  unfold m_name_CheckNet m_laneref1_NetFault
  simp only [s1, s2, p1, p2, bi_some, or2]
  rw [decide_eq_false (show ¬ (n.Sources.length : Int) > 10 by omega)]
  by_cases h1 : e1 = 0
  · subst h1
    by_cases h2 : e2 = 0
    · subst h2
      simp only [if_true, show ((0 : Int) != 0) = false from rfl, cond_false]
      generalize hf : (fun (i11 : Nat) (x13 : T_api_Source) (s12 : Unit) => _) = f
      generalize hg : (fun (i11 : Nat) (x13 : T_api_Source) (s12 : Unit) => _) = g
      have hbody : ∀ j x, n.Sources[j]? = some x → ∃ y, f j x () = some y ∧ g j x () = some y ∧ (∀ v, y = .out v → v ≠ 0) ∧ (y = .go () → (∀ y, 0 < j → n.Sources[j - 1]? = some y → x.Server ≠ y.Server) ∧ ∀ z ∈ x.Zones, domF z.Root = 0 ∧ Calm z.Records) := by
        intro j x hx
        obtain ⟨x1, x2, x3⟩ := h.src x (List.mem_of_getElem? hx)
        obtain ⟨b, b1, b2⟩ := srvkey_tab _ x1
        obtain ⟨o, o1, o2⟩ := ord_ok n.Sources (fun s => s.Server) j x hx (by omega)
        subst hf; subst hg
        simp only [b1, b2, bi_some]
        try simp only at o1
        rw [o1]
        rw [decide_eq_false (show ¬ (x.Zones.length : Int) > 20 by omega)]
        simp only [bi_some, cond_false]
        generalize hf2 : (fun (i42 : Nat) (x44 : T_api_Zone) (s43 : Unit) => _) = f2
        generalize hg2 : (fun (i42 : Nat) (x44 : T_api_Zone) (s43 : Unit) => _) = g2
        have hz : ∀ j z, x.Zones[j]? = some z → ∃ y, f2 j z () = some y ∧ g2 j z () = some y ∧ (∀ v, y = .out v → ∃ u, v = .out u ∧ u ≠ 0) ∧ (y = .go () → domF z.Root = 0 ∧ Calm z.Records) := by
          intro j z hj
          obtain ⟨e, z1, z2, z3⟩ := zone_ok z (x3 z (List.mem_of_getElem? hj))
          obtain ⟨q, q1, _⟩ := ord_ok x.Zones (fun s => s.Root) j z hj (by omega)
          subst hf2; subst hg2
          simp only [z1, z2, bi_some]
          try simp only at q1
          rw [q1]
          cases he : (e != 0) with
          | true => exact ⟨_, rfl, rfl, fun v e => (by cases e; exact ⟨_, rfl, by simpa using he⟩), fun e => (by cases e)⟩
          | false =>
            have he0 : e = 0 := by simpa using he
            cases q with
            | true => exact ⟨_, rfl, rfl, fun v e => (by cases e; exact ⟨_, rfl, by decide⟩), fun e => (by cases e)⟩
            | false => exact ⟨_, rfl, rfl, fun v e => (by cases e), fun _ => z3 he0⟩
        obtain ⟨r, r1, r2, r3, r4⟩ := rangeM_ex4 (f := f2) (g := g2) (fun v => ∃ u, v = .out u ∧ u ≠ 0) x.Zones (fun j z hj => by
          obtain ⟨y, y1, y2, y3, _⟩ := hz j z hj
          exact ⟨y, y1, y2, y3⟩)
        rw [r1, r2]
        simp only [bi_some]
        cases b with
        | false => exact ⟨_, rfl, rfl, fun v e => (by cases e; decide), fun e => (by cases e)⟩
        | true =>
          cases o with
          | true => exact ⟨_, rfl, rfl, fun v e => (by cases e; decide), fun e => (by cases e)⟩
          | false =>
            cases r with
            | out v =>
              obtain ⟨u, rfl, hu⟩ := r3 v rfl
              exact ⟨_, rfl, rfl, fun v e => (by cases e; exact hu), fun e => (by cases e)⟩
            | go u =>
              refine ⟨_, rfl, rfl, fun v e => (by cases e), fun _ => ⟨fun y hy1 hy2 => o2 y hy1 hy2 rfl, fun z hz' => ?_⟩⟩
              obtain ⟨i, hi⟩ := List.getElem?_of_mem hz'
              obtain ⟨y, y1, y2, y3, y4⟩ := hz i z hi
              have := r4 rfl i z hi
              rw [y1] at this
              cases this
              exact y4 rfl
      obtain ⟨r, r1, r2, r3, r4⟩ := rangeM_ex4 (f := f) (g := g) (fun v => v ≠ 0) n.Sources (fun j x hx => by
        obtain ⟨y, y1, y2, y3, _⟩ := hbody j x hx
        exact ⟨y, y1, y2, y3⟩)
      rw [r1, r2]
      cases r with
      | out v => exact ⟨v, rfl, rfl, fun e => absurd e (r3 v rfl)⟩
      | go u =>
        have hgo : ∀ j x, n.Sources[j]? = some x → (∀ y, 0 < j → n.Sources[j - 1]? = some y → x.Server ≠ y.Server) ∧ ∀ z ∈ x.Zones, domF z.Root = 0 ∧ Calm z.Records := fun j x hx => by
          obtain ⟨y, y1, y2, y3, y4⟩ := hbody j x hx
          have := r4 rfl j x hx
          rw [y1] at this
          cases this
          exact y4 rfl
        refine ⟨0, rfl, rfl, fun _ => ⟨fun a b hab => ?_, fun s hs => ?_⟩⟩
        · have := (hgo 1 b (by rw [hab]; rfl)).1 a (by omega) (by rw [hab]; rfl)
          exact fun e => this e.symm
        · obtain ⟨i, hi⟩ := List.getElem?_of_mem hs
          exact (hgo i s hi).2
    · have hb : (e2 != 0) = true := by simpa using h2
      refine ⟨e2, ?_, ?_, fun e => absurd e h2⟩
      · simp [hb]
      · simp [hb]
  · have hb : (e1 != 0) = true := by simpa using h1
    refine ⟨e1, ?_, ?_, fun e => absurd e h1⟩
    · simp [hb]
    · simp [hb, h1]

theorem or3 (a b c : Int) : m_cmp_Or_api_Errno [a, b, c] = some (if a = 0 then (if b = 0 then c else b) else a) := by
  unfold m_cmp_Or_api_Errno
  by_cases h : a = 0
  · subst h
    by_cases h2 : b = 0
    · subst h2
      by_cases h3 : c = 0
      · subst h3; rfl
      · have : (c != 0) = true := by simpa using h3
        simp [rangeM, this, goI]
    · have : (b != 0) = true := by simpa using h2
      simp [rangeM, this, goI, h2]
  · have : (a != 0) = true := by simpa using h
    simp [rangeM, this, goI, h]
theorem equalR (l : List T_api_Record) : m_slices_Equal_api_Record_api_Record l l = some true := by
  unfold m_slices_Equal_api_Record_api_Record
  have : ((l.length : Int) != (l.length : Int)) = false := by simp
  rw [this]
  simp only [cond_false]
  rw [rangeM_all (fun _ => true) false l 0 (fun j x hx => by
    rw [Nat.zero_add, getZ_cast, hx]
    simp only [bi_some, beq_self_eq_true, Bool.and_true, Bool.not_true, cond_false, if_true])]
  simp [goI]
theorem domF_nil {s : Str} (h : domF s = 0) : s ≠ [] := by
  rintro rfl
  revert h
  decide
def lsO {α ρ : Type} (A : α → ρ) : Option α → LS Unit ρ
  | some v => .out (A v)
  | none => .go ()
theorem rangeM_rel {α β ρ ρ' : Type} (A : β → ρ) (B : β → ρ') (f : Nat → α → Unit → Option (LS Unit ρ)) (g : Nat → α → Unit → Option (LS Unit ρ')) :
    ∀ (l : List α) (i : Nat), (∀ j x, x ∈ l → ∃ y, f j x () = some (lsO A y) ∧ g j x () = some (lsO B y)) → ∃ y, rangeM f i l () = some (lsO A y) ∧ rangeM g i l () = some (lsO B y)
  | [], i, _ => ⟨none, rfl, rfl⟩
  | x :: l, i, h => by
    obtain ⟨y, h1, h2⟩ := h i x List.mem_cons_self
    simp only [rangeM, h1, h2]
    cases y with
    | some v => exact ⟨some v, rfl, rfl⟩
    | none => exact rangeM_rel A B f g l (i + 1) fun j z hz => h j z (List.mem_cons_of_mem _ hz)
theorem best_loop (s : Str) (hs : s.length ≤ 300) (f : Nat → T_api_Zone → T_api_Zone × Bool → Option (T_api_Zone × Bool)) (g : Nat → T_api_Zone → T_api_Zone → Option T_api_Zone)
    (hf : ∀ i z st b, m_name_under s z.Root = some b → f i z st = some (bif b && decide ((z.Root.length : Int) > (st.1.Root.length : Int)) then (z, true) else (st.1, st.2)))
    (hg : ∀ i z c b, m_name_under s z.Root = some b → g i z c = some (bif b && decide ((z.Root.length : Int) > (c.Root.length : Int)) then z else c)) :
    ∀ (zs : List T_api_Zone) (i : Nat) (c : T_api_Zone), (∀ z ∈ zs, z.Root.length ≤ 300) → ∃ b, rangeF f i zs (c, c.Root != []) = some (b, b.Root != []) ∧ rangeF g i zs c = some b ∧ (b = c ∨ b ∈ zs ∧ m_name_under s b.Root = some true)
  | [], i, c, _ => ⟨c, rfl, rfl, .inl rfl⟩
  | z :: zs, i, c, h => by
    obtain ⟨u, u1, _⟩ := under_ok s z.Root (by omega) (by have := h z List.mem_cons_self; omega)
    simp only [rangeF, hf i z _ u u1, hg i z _ u u1]
    cases hb : (u && decide ((z.Root.length : Int) > (c.Root.length : Int))) with
    | true =>
      rw [Bool.and_eq_true, decide_eq_true_eq] at hb
      obtain ⟨rfl, hlt⟩ := hb
      have hne : (z.Root != []) = true := by
        cases hz : z.Root with
        | nil => rw [hz] at hlt; simp at hlt; omega
        | cons a t => rfl
      obtain ⟨b, b1, b2, b3⟩ := best_loop s hs f g hf hg zs (i + 1) z fun y hy => h y (List.mem_cons_of_mem _ hy)
      rw [hne] at b1
      refine ⟨b, b1, b2, ?_⟩
      rcases b3 with rfl | ⟨b3, b4⟩
      · exact .inr ⟨List.mem_cons_self, u1⟩
      · exact .inr ⟨List.mem_cons_of_mem _ b3, b4⟩
    | false =>
      obtain ⟨b, b1, b2, b3⟩ := best_loop s hs f g hf hg zs (i + 1) c fun y hy => h y (List.mem_cons_of_mem _ hy)
      refine ⟨b, b1, b2, ?_⟩
      rcases b3 with rfl | ⟨b3, b4⟩
      · exact .inl rfl
      · exact .inr ⟨List.mem_cons_of_mem _ b3, b4⟩
def inZ (x s : Str) (y : T_api_Source) (st : T_api_Zone × Bool) : Option (T_api_Zone × Bool) :=
  rangeF (σ := T_api_Zone × Bool) (fun i12 x14 s13 => bi (bif (y.Server : Str) == x then (bi (m_name_under s x14.Root) fun y26 => some y26) else (some false)) fun q23 => bif (q23 && (decide (((x14.Root.length : Int) : Int) > (s13.1.Root.length : Int)))) then (some (x14, true)) else (some (s13.1, s13.2))) 0 y.Zones (st.1, st.2)
def refZ (s : Str) (zs : List T_api_Zone) : Option T_api_Zone :=
  rangeF (σ := T_api_Zone) (fun i35 x37 s36 => bi (m_laneref1_IsUnder s x37.Root) fun y46 => bif (y46 && (decide (((x37.Root.length : Int) : Int) > (s36.Root.length : Int)))) then (some x37) else (some s36)) 0 zs (⟨[], []⟩ : T_api_Zone)
theorem zoneOf_eq (n : T_api_Net) (x s : Str) : m_name_zoneOf n x s = bi (rangeF (fun i1 x3 s2 => bi (inZ x s x3 s2) fun q15 => some (q15.1, q15.2)) 0 n.Sources ((⟨[], []⟩ : T_api_Zone), false)) fun q4 => some (q4.1, q4.2) := rfl
theorem rangeF_id {α σ : Type} {f : Nat → α → σ → Option σ} : ∀ (l : List α) (i : Nat) (s : σ), (∀ i x s, f i x s = some s) → rangeF f i l s = some s
  | [], i, s, h => rfl
  | x :: l, i, s, h => by simp only [rangeF, h]; exact rangeF_id l (i + 1) s h
theorem inZ_miss (x s : Str) (y : T_api_Source) (st : T_api_Zone × Bool) (h : y.Server ≠ x) : inZ x s y st = some st := by
  have hb : (y.Server == x) = false := by simpa using h
  unfold inZ
  rw [rangeF_id _ _ _ fun i z s => by rw [hb]; rfl]
theorem inZ_hit (x s : Str) (hs : s.length ≤ 300) (y : T_api_Source) (h : y.Server = x) (hz : ∀ z ∈ y.Zones, z.Root.length ≤ 300) : ∃ b, inZ x s y (⟨[], []⟩, false) = some (b, b.Root != []) ∧ refZ s y.Zones = some b ∧ (b.Root ≠ [] → b ∈ y.Zones ∧ m_name_under s b.Root = some true) := by
  have hb : (y.Server == x) = true := by simpa using h
  obtain ⟨b, b1, b2, b3⟩ := best_loop s hs (fun i12 x14 s13 => bi (bif (y.Server : Str) == x then (bi (m_name_under s x14.Root) fun y26 => some y26) else (some false)) fun q23 => bif (q23 && (decide (((x14.Root.length : Int) : Int) > (s13.1.Root.length : Int)))) then (some (x14, true)) else (some (s13.1, s13.2)))
    (fun i35 x37 s36 => bi (m_laneref1_IsUnder s x37.Root) fun y46 => bif (y46 && (decide (((x37.Root.length : Int) : Int) > (s36.Root.length : Int)))) then (some x37) else (some s36))
    (fun i z st u hu => by
      rw [hb, cond_true, hu]
      simp only [bi_some]
      cases (u && decide ((z.Root.length : Int) > (st.1.Root.length : Int))) <;> rfl)
    (fun i z c u hu => by
      rw [under_eq, hu]
      simp only [bi_some]
      cases (u && decide ((z.Root.length : Int) > (c.Root.length : Int))) <;> rfl) y.Zones 0 ⟨[], []⟩ hz
  refine ⟨b, b1, b2, fun hn => ?_⟩
  rcases b3 with rfl | b3
  · exact absurd rfl hn
  · exact b3
theorem zoneOf_ok (n : T_api_Net) (h : okNet n) (hg : Good n) (s x : Str) (hs : s.length ≤ 300) : ∃ b, m_name_zoneOf n x s = some (b, b.Root != []) ∧ (b.Root ≠ [] → ∃ y ∈ n.Sources, b ∈ y.Zones ∧ m_name_under s b.Root = some true) ∧
    ∀ {ρ : Type} (K : T_api_Zone → Option (LS Unit ρ)), (bi (m_slices_IndexFunc_api_Source_api_Source n.Sources x) fun y29 => bif decide ((y29 : Int) < 0) then (some (.go ())) else (bi (getZ n.Sources y29) fun x33 => bi (refZ s x33.Zones) fun q38 => bif (q38.Root : Str) == [] then (some (.go ())) else K q38)) = bif (b.Root == []) then some (.go ()) else K b := by
  rw [zoneOf_eq]
  have hsrc := h.src
  have hl := h.srcs
  have hd := hg.1
  have hroot : ∀ y ∈ n.Sources, ∀ z ∈ y.Zones, z.Root.length ≤ 300 := fun y hy z hz => ((hsrc y hy).2.2 z hz).1
  unfold m_slices_IndexFunc_api_Source_api_Source
  generalize n.Sources = ss at *
  cases ss with
  | nil => exact ⟨⟨[], []⟩, rfl, fun h => absurd rfl h, fun K => rfl⟩
  | cons a ss =>
    cases ss with
    | nil =>
      by_cases ha : a.Server = x
      · obtain ⟨b, b1, b2, b3⟩ := inZ_hit x s hs a ha (hroot a List.mem_cons_self)
        refine ⟨b, by simp only [rangeF, b1, bi_some], fun hb => ⟨a, List.mem_cons_self, b3 hb⟩, fun K => ?_⟩
        have hab : (a.Server == x) = true := by simpa using ha
        have hg0 : getZ [a] 0 = some a := rfl
        have h00 : decide ((((0 : Nat) : Int)) < 0) = false := by decide
        simp only [rangeM, m_laneref1_AskOf_1, hab, bi_some, cond_true, goI, h00, cond_false]
        show (bi (getZ [a] 0) fun x33 => _) = _
        rw [hg0, bi_some, b2, bi_some]
      · have hab : (a.Server == x) = false := by simpa using ha
        refine ⟨⟨[], []⟩, by simp only [rangeF, inZ_miss x s a _ ha, bi_some]; rfl, fun hb => absurd rfl hb, fun K => ?_⟩
        simp only [rangeM, m_laneref1_AskOf_1, hab, bi_some, cond_false, goI]
        rfl
    | cons a2 ss =>
      cases ss with
      | cons a3 ss => simp only [List.length_cons] at hl; omega
      | nil =>
        have hne := hd a a2 rfl
        by_cases ha : a.Server = x
        · have ha2 : a2.Server ≠ x := fun e => hne (ha.trans e.symm)
          obtain ⟨b, b1, b2, b3⟩ := inZ_hit x s hs a ha (hroot a List.mem_cons_self)
          refine ⟨b, by simp only [rangeF, b1, bi_some, inZ_miss x s a2 _ ha2], fun hb => ⟨a, List.mem_cons_self, b3 hb⟩, fun K => ?_⟩
          have hab : (a.Server == x) = true := by simpa using ha
          have hg0 : getZ [a, a2] 0 = some a := rfl
          have h00 : decide ((((0 : Nat) : Int)) < 0) = false := by decide
          simp only [rangeM, m_laneref1_AskOf_1, hab, bi_some, cond_true, goI, h00, cond_false]
          show (bi (getZ [a, a2] 0) fun x33 => _) = _
          rw [hg0, bi_some, b2, bi_some]
        · have hab : (a.Server == x) = false := by simpa using ha
          by_cases ha2 : a2.Server = x
          · obtain ⟨b, b1, b2, b3⟩ := inZ_hit x s hs a2 ha2 (hroot a2 (by simp))
            refine ⟨b, by simp only [rangeF, inZ_miss x s a _ ha, bi_some, b1], fun hb => ⟨a2, by simp, b3 hb⟩, fun K => ?_⟩
            have hab2 : (a2.Server == x) = true := by simpa using ha2
            have hg0 : getZ [a, a2] 1 = some a2 := rfl
            have h00 : decide ((((0 + 1 : Nat) : Int)) < 0) = false := by decide
            simp only [rangeM, m_laneref1_AskOf_1, hab, hab2, bi_some, cond_true, goI, h00, cond_false]
            show (bi (getZ [a, a2] 1) fun x33 => _) = _
            rw [hg0, bi_some, b2, bi_some]
          · have hab2 : (a2.Server == x) = false := by simpa using ha2
            refine ⟨⟨[], []⟩, by simp only [rangeF, inZ_miss x s a _ ha, inZ_miss x s a2 _ ha2, bi_some]; rfl, fun hb => absurd rfl hb, fun K => ?_⟩
            simp only [rangeM, m_laneref1_AskOf_1, hab, hab2, bi_some, cond_false, goI]
            rfl
/-- One name: what is known of it, in the code and in the document's answer. -/
def refN (n : T_api_Net) (s : Str) (kind : Int) : Option (LS Unit (T_api_Answer × Bool)) :=
  bi (m_laneref1_ServersOf 400 n.Splits s) fun y14 => bi (rangeM (σ := Unit) (ρ := Unit ⊕ (LS Unit (T_api_Answer × Bool))) (fun i16 x18 s17 => bi (m_slices_IndexFunc_api_Source_api_Source n.Sources x18) fun y29 => bif decide ((y29 : Int) < 0) then (some (.go ())) else (bi (getZ n.Sources y29) fun x33 => bi (refZ s x33.Zones) fun q38 => bif (q38.Root : Str) == [] then (some (.go ())) else (bi (m_laneref1_FindIn 400 q38 s kind) fun y52 => bif (((y52.2 : Int) == 0) && (decide (((y52.1.length : Int) : Int) > 0))) then (bi (bi (some ((⟨s, x18, y52.1⟩ : T_api_Answer), true)) fun v => some (.out v)) fun v => some (.out (.inr v))) else (some (.out (.inl ())))))) 0 y14.1 ()) fun q => bi (lsN q fun s17 => .inl ()) fun q => orI q fun a21 => some (.go ())
theorem known_ok (n : T_api_Net) (h : okNet n) (hg : Good n) (s : Str) (kind : Int) (hs : s.length ≤ 253) : ∃ y : T_api_Answer × Bool, m_name_known 400 n s kind = some y ∧ refN n s kind = some (bif y.2 then .out (y.1, true) else .go ()) := by
  obtain ⟨r, r1, r2⟩ := servers_ok n.Splits s 400 (by omega) (by omega) fun p hp => ⟨by have := (h.splits p hp).1; omega, by
    have h2 := (h.splits p hp).2
    have : ∀ q ∈ srvs, q.length ≤ 1000 := by decide
    exact this _ h2⟩
  unfold m_name_known refN
  rw [r1, r2, bi_some, bi_some]
  obtain ⟨y, y1, y2⟩ := rangeM_rel (β := T_api_Answer × Bool) (fun v => v) (fun v => (bif v.2 then .inr (.out (v.1, true)) else .inl () : Unit ⊕ (LS Unit (T_api_Answer × Bool)))) (fun i3 x5 s4 => bi (m_name_zoneOf n x5 s) fun y14 => bif y14.2 then (bi (m_name_find 400 y14.1 s kind) fun y17 => bi (some ((⟨s, x5, y17.1⟩ : T_api_Answer), (((y17.2 : Int) == 0) && (decide (((y17.1.length : Int) : Int) > 0))))) fun v => some (.out v)) else (some (.go ())))
    (fun i16 x18 s17 => bi (m_slices_IndexFunc_api_Source_api_Source n.Sources x18) fun y29 => bif decide ((y29 : Int) < 0) then (some (.go ())) else (bi (getZ n.Sources y29) fun x33 => bi (refZ s x33.Zones) fun q38 => bif (q38.Root : Str) == [] then (some (.go ())) else (bi (m_laneref1_FindIn 400 q38 s kind) fun y52 => bif (((y52.2 : Int) == 0) && (decide (((y52.1.length : Int) : Int) > 0))) then (bi (bi (some ((⟨s, x18, y52.1⟩ : T_api_Answer), true)) fun v => some (.out v)) fun v => some (.out (.inr v))) else (some (.out (.inl ()))))))
    r.1 0 (fun j x hx => by
      obtain ⟨b, b1, b2, b3⟩ := zoneOf_ok n h hg s x (by omega)
      rw [b3, b1, bi_some]
      by_cases hb : b.Root = []
      · have e1 : (b.Root != []) = false := by rw [hb]; rfl
        have e2 : (b.Root == []) = true := by rw [hb]; rfl
        simp only [e1, e2, cond_true, cond_false]
        exact ⟨none, rfl, rfl⟩
      · have e1 : (b.Root != []) = true := by simpa using hb
        have e2 : (b.Root == []) = false := by simpa using hb
        obtain ⟨y, hy, hz, hu⟩ := b2 hb
        obtain ⟨f1, f2⟩ := hg.2 y hy b hz
        have hok := (h.src y hy).2.2 b hz
        obtain ⟨u, u1, u2⟩ := under_ok s b.Root (by omega) (by have := hok.1; omega)
        rw [hu] at u1
        cases u1
        obtain ⟨r, g1, g2⟩ := find_ok b s kind hok (by omega) hb (u2.1 (.inr rfl)) f2 hu
        simp only [e1, e2, cond_true, cond_false, g1, g2, bi_some]
        refine ⟨some (⟨s, x, r.1⟩, (r.2 == 0) && decide ((r.1.length : Int) > 0)), rfl, ?_⟩
        cases hc : ((r.2 == 0) && decide ((r.1.length : Int) > 0)) <;> simp [lsO])
  rw [y1, y2]
  cases y with
  | none => exact ⟨_, rfl, rfl⟩
  | some v =>
    refine ⟨v, rfl, ?_⟩
    cases hv : v.2 <;> simp [lsO, lsN, orI, hv]
theorem ask_eq (n : T_api_Net) (s : Str) (kind : Int) : m_laneref1_AskOf 400 n s kind = bi (m_laneref1_NamesTried n.Search n.Dots s) fun y1 => bi (rangeM (σ := Unit) (ρ := T_api_Answer × Bool) (fun i3 x5 s4 => refN n x5 kind) 0 y1 ()) fun q => goI q fun a8 => some ((⟨[], [], []⟩ : T_api_Answer), false) := rfl
def ansA : Option T_api_Answer → T_api_Answer × Int
  | some a => (a, 0)
  | none => (⟨[], [], []⟩, 8)
def ansB : Option T_api_Answer → T_api_Answer × Bool
  | some a => (a, true)
  | none => (⟨[], [], []⟩, false)
theorem ask_ok (n : T_api_Net) (h : okNet n) (hg : Good n) (s : Str) (kind : Int) (hs : s.length ≤ 300) : ∃ y : Option T_api_Answer,
    (bi (m_name_names n.Search n.Dots s) fun y13 => bi (rangeM (σ := Unit) (ρ := T_api_Answer × Int) (fun i15 x17 s16 => bi (m_name_known 400 n x17 kind) fun y26 => bif y26.2 then (bi (some (y26.1, 0)) fun v => some (.out v)) else (some (.go ()))) 0 y13 ()) fun q => goI q fun a20 => some ((⟨[], [], []⟩ : T_api_Answer), 8)) = some (ansA y) ∧
    m_laneref1_AskOf 400 n s kind = some (ansB y) := by
  obtain ⟨r, r1, r2, r3⟩ := names_ok n.Search n.Dots s (fun d hd => by have := h.search d hd; omega) (by have := h.slen; omega) (by omega)
  rw [ask_eq, r1, r2]
  simp only [bi_some]
  obtain ⟨y, y1, y2⟩ := rangeM_rel (β := T_api_Answer) (fun v => (v, (0 : Int))) (fun v => (v, true)) (fun i15 x17 s16 => bi (m_name_known 400 n x17 kind) fun y26 => bif y26.2 then (some (.out (y26.1, 0))) else (some (.go ())))
    (fun i3 x5 s4 => refN n x5 kind) r 0 (fun j x hx => by
      obtain ⟨y, y1, y2⟩ := known_ok n h hg x kind (r3 x hx)
      rw [y1, y2, bi_some]
      cases hy : y.2 with
      | true => exact ⟨some y.1, rfl, rfl⟩
      | false => exact ⟨none, rfl, rfl⟩)
  rw [y1, y2]
  refine ⟨y, ?_, ?_⟩ <;> cases y <;> rfl
theorem NamesAsked_true (l : List Int) (hl : l.length ≤ 9223372036854775807) : m_lanelaw1_NamesAsked 400 l = some true := by
  obtain ⟨n, a1, hn, ha1, ha1', e1⟩ := netD l 0 hl (by decide) (by decide)
  obtain ⟨s, hs, e2⟩ := domain_ok l a1 hl (by omega) (by omega)
  obtain ⟨kind, _, e3⟩ := pick_ok l (a1 + 2) [1, 1, 1, 28, 5, 16, 12, 0] hl (by omega) (by omega) (by decide) (by decide)
  obtain ⟨ef, f1, f2, f3⟩ := net_ok n hn
  unfold m_lanelaw1_NamesAsked
  simp only [e1, bi_some, e2, m_lanemake_Stream_RecordKind, e3]
  have hdf := fault_ok s (by omega)
  have hcd := check_ok 398 s (by omega)
  have hk : m_laneref1_Kinds = some [1, 5, 12, 16, 28] := rfl
  have hw : m_lanelaw1_when (!kindB kind) 4 = some (if kindB kind then 0 else 4) := by
    unfold m_lanelaw1_when
    cases kindB kind <;> rfl
  have hnl : ((ef : Int) != ef) = false := by simp
  simp only [bi_some, f1, f2, hdf, hk, kinds_ok, hw, or3, hnl, cond_false, named_ok]
  by_cases h1 : ef = 0
  · have g := f3 h1
    subst h1
    simp only [if_true]
    by_cases h2 : domF s = 0
    · simp only [h2, if_true]
      cases h3 : kindB kind with
      | false =>
        have hF : m_name_Ask 400 n s kind = some (⟨[], [], []⟩, 4) := by
          unfold m_name_Ask
          rw [f1, hcd, isKind_ok, h3, h2]
          rfl
        rw [hF]
        rfl
      | true =>
        obtain ⟨y, y1, y2⟩ := ask_ok n hn g s kind hs
        have hF : m_name_Ask 400 n s kind = some (ansA y) := by
          unfold m_name_Ask
          rw [f1, hcd, isKind_ok, h3, h2]
          exact y1
        rw [hF, y2]
        cases y with
        | none => rfl
        | some a => simp [equalR, m_lanelaw1_when, ansA, ansB]
    · have bt : (domF s != 0) = true := by simpa using h2
      have hF : m_name_Ask 400 n s kind = some (⟨[], [], []⟩, domF s) := by
        unfold m_name_Ask
        rw [f1, hcd]
        simp only [bi_some, bt, cond_true]
        rfl
      have be : (domF s == 0) = false := by simpa using h2
      rw [hF]
      simp only [h2, if_false, be, cond_false, bi_some, equalR, beq_self_eq_true, Bool.and_self, cond_true]
  · have bt : (ef != 0) = true := by simpa using h1
    have hF : m_name_Ask 400 n s kind = some (⟨[], [], []⟩, ef) := by
      unfold m_name_Ask
      rw [f1]
      simp only [bi_some, bt, cond_true]
    have be : (ef == 0) = false := by simpa using h1
    rw [hF]
    simp only [h1, if_false, be, cond_false, bi_some, equalR, beq_self_eq_true, Bool.and_self, cond_true]
end Go.Gk
