/-
  CachesKeep, the plain law: steps, lists, draws of records.
-/
import Derived.Test.YtfnjahjbpaoepaaGreatDoorEZone
set_option linter.unusedVariables false
set_option linter.unusedSimpArgs false
set_option linter.unusedSectionVars false
set_option maxRecDepth 100000
namespace Go.Gk
theorem loopM_out {σ ρ : Type} {f : σ → Option (LS σ ρ)} {k : Nat} {s : σ} (r : ρ) (h : f s = some (.out r)) : loopM f (k + 1) s = some r := by simp only [loopM, h]
theorem bi_eq {α β : Type} {x : Option α} {f : α → Option β} {v : α} (h : x = some v) : bi x f = f v := by rw [h]; rfl
def Ok {α : Type} (m : Option α) (Q : α → Prop) : Prop := ∃ r, m = some r ∧ Q r
def Two {α β : Type} (m : Option α) (n : Option β) (R : α → β → Prop) : Prop := ∃ r q, m = some r ∧ n = some q ∧ R r q
section
variable {α β γ δ σ τ ρ ρ' : Type}
theorem ok_some {r : α} {Q : α → Prop} (h : Q r) : Ok (some r) Q := ⟨r, rfl, h⟩
theorem ok_bi {m : Option α} {g : α → Option β} {P : α → Prop} {Q : β → Prop} (h : Ok m P) (k : ∀ r, P r → Ok (g r) Q) : Ok (bi m g) Q := by
  obtain ⟨r, rfl, hr⟩ := h
  exact k r hr
theorem ok_eq {m : Option α} {g : α → Option β} {r : α} {Q : β → Prop} (h : m = some r) (k : Ok (g r) Q) : Ok (bi m g) Q := by subst h; exact k
theorem ok_bif {b : Bool} {m n : Option α} {Q : α → Prop} (h1 : b = true → Ok m Q) (h2 : b = false → Ok n Q) : Ok (bif b then m else n) Q := by
  cases b with
  | true => exact h1 rfl
  | false => exact h2 rfl
theorem ok_rangeF {f : Nat → α → σ → Option σ} {l : List α} {s : σ} (I : Nat → σ → Prop) (h0 : I 0 s) (step : ∀ (i : Nat) (x : α) (s : σ), l[i]? = some x → I i s → Ok (f i x s) (I (i + 1))) : Ok (rangeF f 0 l s) (I l.length) := by
  obtain ⟨r, h1, h2⟩ := rangeF_at l I step l 0 s rfl h0
  exact ⟨r, h1, by simpa using h2⟩
theorem ok_rangeM {f : Nat → α → σ → Option (LS σ ρ)} {l : List α} {s : σ} (I : Nat → σ → Prop) (Q : ρ → Prop) (h0 : I 0 s)
    (step : ∀ (i : Nat) (x : α) (s : σ), l[i]? = some x → I i s → Ok (f i x s) fun r => match r with | .go s' => I (i + 1) s' | .out q => Q q) : Ok (rangeM f 0 l s) fun r => match r with | .go s' => I l.length s' | .out q => Q q := by
  rcases rangeM_at l I Q (fun i x s hx hi => by
    obtain ⟨r, h1, h2⟩ := step i x s hx hi
    cases r with
    | go s' => exact .inl ⟨s', h1, h2⟩
    | out q => exact .inr ⟨q, h1, h2⟩) l 0 s rfl h0 with ⟨s', h1, h2⟩ | ⟨q, h1, h2⟩
  · exact ⟨_, h1, by simpa using h2⟩
  · exact ⟨_, h1, h2⟩
theorem ok_app {a b : List α} {g : List α → Option β} {Q : β → Prop} (h : a.length + b.length ≤ 4294967296) (k : Ok (g (a ++ b)) Q) : Ok (bi (apd a b) g) Q := ok_eq (apd_some h) k
/-- How two loops that may be left stand. -/
def LSR (I : σ → τ → Prop) (Q : ρ → ρ' → Prop) : LS σ ρ → LS τ ρ' → Prop
  | .go s, .go t => I s t
  | .out r, .out q => Q r q
  | _, _ => False
theorem two_rangeM {f : Nat → α → σ → Option (LS σ ρ)} {g : Nat → α → τ → Option (LS τ ρ')} {l : List α} {s : σ} {t : τ} (I : Nat → σ → τ → Prop) (Q : ρ → ρ' → Prop) (h0 : I 0 s t)
    (step : ∀ (i : Nat) (x : α) (s : σ) (t : τ), l[i]? = some x → I i s t → Two (f i x s) (g i x t) (LSR (I (i + 1)) Q)) : Two (rangeM f 0 l s) (rangeM g 0 l t) (LSR (I l.length) Q) := by
  rcases rangeM_two l I Q (fun i x s t hx hi => by
    obtain ⟨r, q, h1, h2, h3⟩ := step i x s t hx hi
    cases r <;> cases q <;> first | exact h3.elim | exact .inl ⟨_, _, h1, h2, h3⟩ | exact .inr ⟨_, _, h1, h2, h3⟩) l 0 s t rfl h0 with ⟨s', t', h1, h2, h3⟩ | ⟨r, q, h1, h2, h3⟩
  · exact ⟨_, _, h1, h2, by simpa [LSR] using h3⟩
  · exact ⟨_, _, h1, h2, h3⟩
end
/-- A stream at some place. -/
def At (l : List Int) (a b : Int) (s : T_lanemake_Stream) : Prop := s.L = l ∧ a ≤ s.v_at ∧ s.v_at ≤ b
theorem At.eq {l : List Int} {a b : Int} {s : T_lanemake_Stream} (h : At l a b s) : s = ⟨l, s.v_at⟩ := by rw [← h.1]
theorem At.up {l : List Int} {a b a' b' : Int} {s : T_lanemake_Stream} (h : At l a b s) (h1 : a' ≤ a) (h2 : b ≤ b') : At l a' b' s := ⟨h.1, by have := h.2.1; omega, by have := h.2.2; omega⟩
theorem flip_o {l : List Int} {a b : Int} {s : T_lanemake_Stream} (h : At l a b s) (n : Int) (hl : l.length ≤ 9223372036854775807) (h0 : 0 ≤ a) (h1 : b < 4611686018427387904) (hn : 1 ≤ n) (hn2 : n ≤ 4611686018427387904) :
    Ok (m_lanemake_Stream_Flip s n) fun r => At l (a + 1) (b + 1) r.2 := by
  obtain ⟨e1, e2, e3⟩ := h
  obtain ⟨c, hc⟩ := flip_ok l s.v_at n hl (by omega) (by omega) hn hn2
  rw [← e1] at hc
  exact ⟨_, hc, e1, by simp only; omega, by simp only; omega⟩
theorem pick_o {l : List Int} {a b : Int} {s : T_lanemake_Stream} (h : At l a b s) (xs : List Int) (hl : l.length ≤ 9223372036854775807) (h0 : 0 ≤ a) (h1 : b < 4611686018427387904) (hn : 1 ≤ xs.length) (hn2 : xs.length ≤ 1000) :
    Ok (m_lanemake_Stream_Pick s xs) fun r => r.1 ∈ xs ∧ At l (a + 1) (b + 1) r.2 := by
  obtain ⟨e1, e2, e3⟩ := h
  obtain ⟨c, hc, hp⟩ := pick_ok l s.v_at xs hl (by omega) (by omega) hn hn2
  rw [← e1] at hp
  exact ⟨_, hp, hc, e1, by simp only; omega, by simp only; omega⟩
theorem some_o {l : List Int} {a b : Int} {s : T_lanemake_Stream} (h : At l a b s) (xs : List Str) (hl : l.length ≤ 9223372036854775807) (h0 : 0 ≤ a) (h1 : b < 4611686018427387904) (hn : 1 ≤ xs.length) (hn2 : xs.length ≤ 1000) :
    Ok (m_lanemake_Stream_Some s xs) fun r => r.1 ∈ xs ∧ At l (a + 1) (b + 1) r.2 := by
  obtain ⟨e1, e2, e3⟩ := h
  obtain ⟨c, hc, hp⟩ := some_ok l s.v_at xs hl (by omega) (by omega) hn hn2
  rw [← e1] at hp
  exact ⟨_, hp, hc, e1, by simp only; omega, by simp only; omega⟩
theorem range_o {l : List Int} {a b : Int} {s : T_lanemake_Stream} (h : At l a b s) (lo hi : Int) (hl : l.length ≤ 9223372036854775807) (h0 : 0 ≤ a) (h1 : b < 4611686018427387904) (h2 : lo ≤ hi) (h3 : -1000000000 ≤ lo) (h4 : hi ≤ 1000000000) :
    Ok (m_lanemake_Stream_Range s lo hi) fun r => lo ≤ r.1 ∧ r.1 ≤ hi ∧ At l (a + 1) (b + 1) r.2 := by
  obtain ⟨e1, e2, e3⟩ := h
  obtain ⟨c, c1, c2, hp⟩ := range_ok l s.v_at lo hi hl (by omega) (by omega) h2 h3 h4
  rw [← e1] at hp
  exact ⟨_, hp, c1, c2, e1, by simp only; omega, by simp only; omega⟩
def ixZ {α : Type} (p : α → Bool) (l : List α) : Int := match l.findIdx? p with
  | some i => (i : Int)
  | none => -1
theorem ixZ_none {α : Type} {p : α → Bool} {l : List α} (h : l.any p = false) : ixZ p l = -1 := by
  unfold ixZ
  rw [List.findIdx?_eq_none_iff.2 (by simpa using h)]
theorem ixZ_some {α : Type} {p : α → Bool} {l : List α} (h : l.any p = true) : ∃ (i : Nat) (a : α), ixZ p l = (i : Int) ∧ l.findIdx? p = some i ∧ l[i]? = some a ∧ p a = true ∧ (l.take i).any p = false := by
  unfold ixZ
  cases hi : l.findIdx? p with
  | none =>
    rw [List.findIdx?_eq_none_iff] at hi
    rw [List.any_eq_true] at h
    obtain ⟨x, hx, hp⟩ := h
    rw [hi x hx] at hp; cases hp
  | some i =>
    obtain ⟨h1, h2, h3⟩ := List.findIdx?_eq_some_iff_getElem.1 hi
    refine ⟨i, l[i], rfl, rfl, List.getElem?_eq_getElem h1, h2, ?_⟩
    rw [List.any_eq_false]
    intro x hx
    obtain ⟨j, hj, e⟩ := List.getElem_of_mem hx
    rw [List.length_take] at hj
    rw [List.getElem_take] at e
    subst e
    have := h3 j (by omega)
    simpa using this
theorem rangeM_ix {α : Type} {f : Nat → α → Unit → Option (LS Unit Int)} (p : α → Bool) : ∀ (l : List α) (i : Nat), (∀ (j : Nat) x, l[j]? = some x → f (i + j) x () = some (if p x then .out ((i + j : Nat) : Int) else .go ())) →
    rangeM f i l () = some (match l.findIdx? p with | some j => .out ((i + j : Nat) : Int) | none => .go ())
  | [], i, _ => rfl
  | x :: l, i, h => by
    have h0 := h 0 x (by simp)
    have ih := rangeM_ix p l (i + 1) fun j y hy => by rw [show i + 1 + j = i + (j + 1) by omega]; exact h (j + 1) y (by simpa using hy)
    rw [Nat.add_zero] at h0
    simp only [rangeM, h0, List.findIdx?_cons]
    by_cases hp : p x = true
    · simp [hp]
    · simp only [Bool.not_eq_true] at hp
      simp only [hp, Bool.false_eq_true, if_false, ih]
      cases l.findIdx? p with
      | none => rfl
      | some j => simp only [Option.map_some]; rw [show i + 1 + j = i + (j + 1) by omega]
theorem bi_rangeM_ix {α : Type} {f : Nat → α → Unit → Option (LS Unit Int)} (p : α → Bool) (l : List α) (h : ∀ (j : Nat) x, l[j]? = some x → f j x () = some (if p x then .out (j : Int) else .go ())) :
    (bi (rangeM f 0 l ()) fun q => goI q fun _ => some (-1)) = some (ixZ p l) := by
  rw [rangeM_ix p l 0 fun j x hx => by rw [Nat.zero_add]; exact h j x hx]
  unfold ixZ
  cases l.findIdx? p with
  | none => rfl
  | some j => simp
theorem rangeI_L {α σ ρ : Type} {f : Nat → σ → Option (LS σ ρ)} {g : Nat → α → σ → Option (LS σ ρ)} (l : List α) (h : ∀ (j : Nat) x s, l[j]? = some x → f j s = g j x s) (s : σ) : rangeI f (l.length : Int) s = rangeM g 0 l s := by
  have key : ∀ (m : List α) (i : Nat) (s : σ), (∀ (j : Nat) x s, m[j]? = some x → f (i + j) s = g (i + j) x s) → rangeM (fun i (_ : Unit) s => f i s) i (List.replicate m.length ()) s = rangeM g i m s := by
    intro m
    induction m with
    | nil => intro i s _; rfl
    | cons x m ih =>
      intro i s h
      have h0 := h 0 x s (by simp)
      rw [Nat.add_zero] at h0
      simp only [List.length_cons, List.replicate_succ, rangeM, h0]
      cases g i x s with
      | none => rfl
      | some y =>
        cases y with
        | out r => rfl
        | go s' => exact ih (i + 1) s' fun j y s hy => by rw [show i + 1 + j = i + (j + 1) by omega]; exact h (j + 1) y s (by simpa using hy)
  unfold rangeI
  rw [Int.toNat_natCast]
  exact key l 0 s fun j x s hx => by rw [Nat.zero_add]; exact h j x s hx
theorem bi_rangeI_ix {α : Type} {f : Nat → Unit → Option (LS Unit Int)} (p : α → Bool) (l : List α) (h : ∀ (j : Nat) x, l[j]? = some x → f j () = some (if p x then .out (j : Int) else .go ())) :
    (bi (rangeI f (l.length : Int) ()) fun q => goI q fun _ => some (-1)) = some (ixZ p l) := by
  rw [rangeI_L (g := fun j x _ => some (if p x then .out (j : Int) else .go ())) l (fun j x s hx => h j x hx)]
  exact bi_rangeM_ix p l fun j x hx => rfl
/-! ### What goes is taken out -/
theorem del_loop {α : Type} (p : α → Bool) (g : α → Option Bool) (s : List α) (hg : ∀ x ∈ s, g x = some (p x)) (hs : s.length ≤ 4294967296)
    {f : (List α) × Int × Int → Option (LS ((List α) × Int × Int) ((List α) × Int))}
    (hf : ∀ s6, f s6 = bif decide ((s6.2.2 : Int) < (s6.1.length : Int)) then (bi (getZ s6.1 s6.2.2) fun x16 => bi (g x16) fun y19 => bif !y19 then (bi (getZ s6.1 s6.2.1) fun x22 => some (.go (s6.1.set s6.2.1.toNat x16, wi (s6.2.1 + 1), wi (s6.2.2 + 1)))) else (some (.go (s6.1, s6.2.1, wi (s6.2.2 + 1))))) else (some (.out (s6.1, s6.2.1)))) :
    ∀ (k : Nat) (a : List α) (i j : Nat), i ≤ j → j ≤ s.length → a.length = s.length → a.drop j = s.drop j → a.take i = (s.take j).filter (fun x => !p x) → s.length - j < k →
      ∃ (a' : List α) (i' : Nat), loopM f k (a, (i : Int), (j : Int)) = some (a', (i' : Int)) ∧ i' ≤ a'.length ∧ a'.take i' = s.filter (fun x => !p x)
  | 0, a, i, j, _, _, _, _, _, h => absurd h (Nat.not_lt_zero _)
  | k + 1, a, i, j, h1, h2, h3, h4, h5, h6 => by
    unfold loopM
    rw [hf]
    by_cases hj : j < s.length
    · have haj : a[j]? = some s[j] := by
        have := congrArg (fun q => q[0]?) h4
        simpa [hj] using this
      have hw : wi ((j : Int) + 1) = ((j + 1 : Nat) : Int) := by rw [wi_id (by omega) (by omega)]; omega
      have hwi : wi ((i : Int) + 1) = ((i + 1 : Nat) : Int) := by rw [wi_id (by omega) (by omega)]; omega
      have hs1 : s.take (j + 1) = s.take j ++ [s[j]] := by rw [List.take_add_one, List.getElem?_eq_getElem hj]; rfl
      simp only
      rw [decide_eq_true (show (j : Int) < (a.length : Int) by omega)]
      simp only [cond_true, getZ_cast, haj, bi_some, hg _ (List.getElem_mem hj), hw, hwi, Int.toNat_natCast]
      cases hp : p s[j] with
      | true =>
        simp only [Bool.not_true, cond_false]
        refine del_loop p g s hg hs hf k a i (j + 1) (by omega) (by omega) h3 (by rw [← List.drop_drop, h4, List.drop_drop]) ?_ (by omega)
        rw [hs1, List.filter_append, h5]; simp [hp]
      | false =>
        have hai : a[i]? = some (a[i]'(by omega)) := List.getElem?_eq_getElem _
        simp only [Bool.not_false, cond_true, hai, bi_some]
        refine del_loop p g s hg hs hf k (a.set i s[j]) (i + 1) (j + 1) (by omega) (by omega) (by rw [List.length_set]; exact h3) ?_ ?_ (by omega)
        · rw [List.drop_set_of_lt (by omega), ← List.drop_drop, h4, List.drop_drop]
        · rw [hs1, List.filter_append, ← h5, List.take_add_one, List.getElem?_set_self (by omega), List.take_set_of_le (Nat.le_refl _)]
          simp [hp]
    · simp only
      rw [decide_eq_false (show ¬ (j : Int) < (a.length : Int) by omega)]
      refine ⟨a, i, rfl, by omega, ?_⟩
      rw [h5, List.take_of_length_le (by omega)]
theorem del_ok {α : Type} (p : α → Bool) (g : α → Option Bool) (s : List α) (k : Nat) (hg : ∀ x ∈ s, g x = some (p x)) (hs : s.length ≤ 4294967296) (hk : s.length < k) :
    (bif (ixZ p s : Int) == (-1) then (some s) else (bi (loopM (σ := (List α) × Int × Int) (ρ := (List α) × Int) (fun s6 => bif decide ((s6.2.2 : Int) < (s6.1.length : Int)) then (bi (getZ s6.1 s6.2.2) fun x16 => bi (g x16) fun y19 => bif !y19 then (bi (getZ s6.1 s6.2.1) fun x22 => some (.go (s6.1.set s6.2.1.toNat x16, wi (s6.2.1 + 1), wi (s6.2.2 + 1)))) else (some (.go (s6.1, s6.2.1, wi (s6.2.2 + 1))))) else (some (.out (s6.1, s6.2.1)))) k (s, ixZ p s, wi (ixZ p s + 1))) fun q8 => bi (subZ q8.1 q8.2 (q8.1.length : Int)) fun z27 => some (q8.1.take q8.2.toNat))) = some (s.filter fun x => !p x) := by
  cases h : s.any p with
  | false =>
    rw [ixZ_none h]
    have : s.filter (fun x => !p x) = s := List.filter_eq_self.2 fun x hx => by
      have := List.any_eq_false.1 h x hx
      simpa using this
    rw [this]; rfl
  | true =>
    obtain ⟨i, a, e, h1, h2, h3, h4⟩ := ixZ_some h
    have hi : i < s.length := (List.getElem?_eq_some_iff.1 h2).1
    rw [e, show (((i : Int) : Int) == (-1)) = false by simp]
    rw [show wi ((i : Int) + 1) = ((i + 1 : Nat) : Int) by rw [wi_id (by omega) (by omega)]; omega]
    simp only [cond_false]
    obtain ⟨a', i', h5, h6, h7⟩ := del_loop p g s hg hs (fun _ => rfl) k s i (i + 1) (by omega) (by omega) rfl rfl (by
      have hs1 : s.take (i + 1) = s.take i ++ [a] := by rw [List.take_add_one, h2]; rfl
      rw [hs1, List.filter_append, List.filter_eq_self.2 fun x hx => by
        have := List.any_eq_false.1 h4 x hx
        simpa using this]
      simp [h3]) (by omega)
    rw [h5]
    simp only [bi_some]
    rw [subZ_cast (by omega) (Nat.le_refl _)]
    simp only [bi_some, Int.toNat_natCast, h7]
theorem u64_nn (x : Int) : 0 ≤ IntKind.u64.wrap x := Int.emod_nonneg _ (by decide)
def addrR (x : T_api_Addr) : Prop := 0 ≤ x.Hi
theorem addrD (l : List Int) (a : Int) (hl : l.length ≤ 9223372036854775807) (h0 : 0 ≤ a) (h1 : a < 4611686018427380000) : Dr l a 5 (m_lanemake_Stream_Addr ⟨l, a⟩) addrR := by
  obtain ⟨r, r0, r1, hr⟩ := next_ok l a 6 hl h0 (by omega) (by decide) (by decide)
  unfold m_lanemake_Stream_Addr Dr
  rw [hr]
  simp only [bi_some]
  cases (r == 0) with
  | true =>
    obtain ⟨s, s0, s1, hs⟩ := next_ok l (a + 1) 5 hl (by omega) (by omega) (by decide) (by decide)
    obtain ⟨t, t0, t1, ht⟩ := next_ok l (a + 1 + 1) 5 hl (by omega) (by omega) (by decide) (by decide)
    obtain ⟨x, hx, ex⟩ := getZ_in ([0, 18230571291595767808, 2306139568115548160, 9223372036854775808, 18446744073709551615] : List Int) s0 s1
    obtain ⟨y, hy, ey⟩ := getZ_in ([0, 1, 2, 4294967296, 18446744073709551615] : List Int) t0 t1
    simp only [cond_true, hs, ht, bi_some, ex, ey]
    have : ∀ x ∈ ([0, 18230571291595767808, 2306139568115548160, 9223372036854775808, 18446744073709551615] : List Int), 0 ≤ x := by decide
    refine ⟨_, _, ?_, ?_, ?_, rfl⟩; exact this x hx; omega; omega
  | false =>
    cases (r == 1) with
    | true =>
      obtain ⟨t, t0, t1, ht⟩ := next_ok l (a + 1) 5 hl (by omega) (by omega) (by decide) (by decide)
      obtain ⟨y, hy, ey⟩ := getZ_in ([0, 1, 4294967295, 2130706433, 3232235521] : List Int) t0 t1
      simp only [cond_true, cond_false, ht, bi_some, ey]
      refine ⟨_, _, ?_, ?_, ?_, rfl⟩; exact Int.le_refl _; omega; omega
    | false =>
      cases (r == 2) with
      | true =>
        obtain ⟨x, _, _, hx⟩ := range_ok l (a + 1) 0 16777216 hl (by omega) (by omega) (by decide) (by decide) (by decide)
        simp only [cond_true, cond_false, hx, bi_some]
        refine ⟨_, _, ?_, ?_, ?_, rfl⟩; exact Int.le_refl _; omega; omega
      | false =>
        obtain ⟨x, _, _, hx⟩ := range_ok l (a + 1) 0 20 hl (by omega) (by omega) (by decide) (by decide) (by decide)
        simp only [cond_false, hx, bi_some]
        refine ⟨_, _, ?_, ?_, ?_, rfl⟩; exact Int.le_refl _; omega; omega
theorem rawD (l : List Int) (a : Int) (hl : l.length ≤ 9223372036854775807) (h0 : 0 ≤ a) (h1 : a < 4611686018427370000) : Dr l a 10 (m_lanemake_Stream_Raw ⟨l, a⟩) addrR := by
  obtain ⟨x, b, p, q1, q2, e⟩ := addrD l a hl h0 (by omega)
  obtain ⟨f, hf⟩ := flip_ok l b 15 hl (by omega) (by omega) (by decide) (by decide)
  unfold m_lanemake_Stream_Raw Dr
  rw [e]
  simp only [bi_some, hf]
  cases f with
  | false => refine ⟨_, _, ?_, ?_, ?_, rfl⟩; exact p; omega; omega
  | true =>
    obtain ⟨s, s0, s1, hs⟩ := next_ok l (b + 1) 2 hl (by omega) (by omega) (by decide) (by decide)
    obtain ⟨t, t0, t1, ht⟩ := next_ok l (b + 1 + 1) 3 hl (by omega) (by omega) (by decide) (by decide)
    obtain ⟨y, hy, ey⟩ := getZ_in ([4294967296, 5, 1099511627776] : List Int) t0 t1
    simp only [cond_true, hs, ht, bi_some, ey]
    refine ⟨_, _, ?_, ?_, ?_, rfl⟩; exact u64_nn _; omega; omega
theorem toT : ∀ x ∈ ([[97, 46, 110, 101, 116, 46, 120], [98, 46, 110, 101, 116, 46, 120], [99, 46, 110, 101, 116, 46, 120], [113, 46, 108, 97, 98, 46, 110, 101, 116, 46, 120], [100, 46, 110, 101, 116, 46, 120], [111, 116, 104, 101, 114]] : List Str), x.length ≤ 300 := by decide
theorem toT2 : ∀ x ∈ ([[97, 46, 110, 101, 116, 46, 120], [98, 46, 110, 101, 116, 46, 120]] : List Str), x.length ≤ 300 := by decide
theorem toT3 : ∀ x ∈ ([[], [65], [120]] : List Str), x.length ≤ 300 := by decide
theorem woT : ∀ x ∈ ([[], [104, 105], [97, 32, 98], [118, 61, 49]] : List Str), x ∈ wordsT := by decide
theorem woT2 : ∀ x ∈ ([[32, 120], [97, 10, 98], [], [121]] : List Str), x ∈ wordsT := by decide
theorem recD (l : List Int) (a : Int) (name : Str) (hl : l.length ≤ 9223372036854775807) (h0 : 0 ≤ a) (h1 : a < 4611686018427360000) (hn : name.length ≤ 300) : Dr l a 30 (m_lanemake_Stream_record ⟨l, a⟩ name) okRec := by
  obtain ⟨life, _, hlife⟩ := pick_ok l a [0, 5, 60, 1000000] hl (by omega) (by omega) (by decide) (by decide)
  obtain ⟨kd, k0, k1, hkd⟩ := next_ok l (a + 1) 7 hl (by omega) (by omega) (by decide) (by decide)
  unfold m_lanemake_Stream_record Dr
  rw [hlife]
  simp only [bi_some, hkd]
  generalize hX : (bi (bif (kd == 0) then (some (kd == 0)) else (some (kd == 1))) fun q7 => bif q7 then _ else _ : Option (T_lanemake_Stream × T_api_Record)) = X
  have hq : ∃ r b, okRec r ∧ a + 2 ≤ b ∧ b ≤ a + 5 ∧ X = some (⟨l, b⟩, r) := by
    subst hX
    generalize hb01 : (bif (kd == 0) then (some (kd == 0)) else (some (kd == 1))) = b01
    obtain ⟨b, rfl⟩ : ∃ b, b01 = some b := by subst hb01; cases (kd == 0) <;> exact ⟨_, rfl⟩
    simp only [bi_some]
    have w0 : ([] : Str) ∈ wordsT := by decide
    cases b with
    | true =>
      obtain ⟨x, _, _, hx⟩ := range_ok l (a + 1 + 1) 1 3 hl (by omega) (by omega) (by decide) (by decide) (by decide)
      simp only [cond_true, hx, bi_some, m_lanemake_at]
      refine ⟨_, _, ?_, ?_, ?_, rfl⟩; exact ⟨hn, by simp, w0, Int.le_refl _⟩; omega; omega
    | false =>
      cases (kd == 2) with
      | true =>
        obtain ⟨x, _, _, hx⟩ := range_ok l (a + 1 + 1) 1 3 hl (by omega) (by omega) (by decide) (by decide) (by decide)
        simp only [cond_true, cond_false, hx, bi_some, m_lanemake_sixAt]
        refine ⟨_, _, ?_, ?_, ?_, rfl⟩; exact ⟨hn, by simp, w0, (by decide : (0 : Int) ≤ 18230571291595767808)⟩; omega; omega
      | false =>
        cases (kd == 3) with
        | true =>
          obtain ⟨x, hx, e⟩ := some_ok l (a + 1 + 1) [[], [104, 105], [97, 32, 98], [118, 61, 49]] hl (by omega) (by omega) (by decide) (by decide)
          simp only [cond_true, cond_false, e, bi_some]
          refine ⟨_, _, ?_, ?_, ?_, rfl⟩; exact ⟨hn, by simp, woT x hx, Int.le_refl _⟩; omega; omega
        | false =>
          cases (kd == 4) with
          | true =>
            obtain ⟨x, hx, e⟩ := some_ok l (a + 1 + 1) [[97, 46, 110, 101, 116, 46, 120], [98, 46, 110, 101, 116, 46, 120]] hl (by omega) (by omega) (by decide) (by decide)
            simp only [cond_true, cond_false, e, bi_some]
            refine ⟨_, _, ?_, ?_, ?_, rfl⟩; exact ⟨hn, toT2 x hx, w0, Int.le_refl _⟩; omega; omega
          | false =>
            obtain ⟨x, hx, e⟩ := some_ok l (a + 1 + 1) [[97, 46, 110, 101, 116, 46, 120], [98, 46, 110, 101, 116, 46, 120], [99, 46, 110, 101, 116, 46, 120], [113, 46, 108, 97, 98, 46, 110, 101, 116, 46, 120], [100, 46, 110, 101, 116, 46, 120], [111, 116, 104, 101, 114]] hl (by omega) (by omega) (by decide) (by decide)
            simp only [cond_false, e, bi_some]
            refine ⟨_, _, ?_, ?_, ?_, rfl⟩; exact ⟨hn, toT x hx, w0, Int.le_refl _⟩; omega; omega
  obtain ⟨r, b, ⟨p1, p2, p3, p4⟩, q1, q2, rfl⟩ := hq
  obtain ⟨f, hf⟩ := flip_ok l b 40 hl (by omega) (by omega) (by decide) (by decide)
  simp only [bi_some, hf]
  cases f with
  | false => refine ⟨_, _, ?_, ?_, ?_, rfl⟩; exact ⟨p1, p2, p3, p4⟩; omega; omega
  | true =>
    obtain ⟨k, k0, k1, hk⟩ := next_ok l (b + 1) 4 hl (by omega) (by omega) (by decide) (by decide)
    simp only [cond_true, hk, bi_some]
    cases (k == 0) with
    | true =>
      obtain ⟨x, _, e⟩ := pick_ok l (b + 1 + 1) [0, 2, 5] hl (by omega) (by omega) (by decide) (by decide)
      simp only [cond_true, e, bi_some]
      refine ⟨_, _, ?_, ?_, ?_, rfl⟩; exact ⟨p1, p2, p3, p4⟩; omega; omega
    | false =>
      cases (k == 1) with
      | true =>
        obtain ⟨x, c, p, c1, c2, e⟩ := rawD l (b + 1 + 1) hl (by omega) (by omega)
        simp only [cond_true, cond_false, e, bi_some]
        refine ⟨_, _, ?_, ?_, ?_, rfl⟩; exact ⟨p1, p2, p3, p⟩; omega; omega
      | false =>
        cases (k == 2) with
        | true =>
          obtain ⟨x, hx, e⟩ := some_ok l (b + 1 + 1) [[], [65], [120]] hl (by omega) (by omega) (by decide) (by decide)
          simp only [cond_true, cond_false, e, bi_some]
          refine ⟨_, _, ?_, ?_, ?_, rfl⟩; exact ⟨p1, toT3 x hx, p3, p4⟩; omega; omega
        | false =>
          obtain ⟨x, hx, e⟩ := some_ok l (b + 1 + 1) [[32, 120], [97, 10, 98], [], [121]] hl (by omega) (by omega) (by decide) (by decide)
          obtain ⟨y, c, _, c1, c2, e2⟩ := oddD l (b + 1 + 1 + 1) 0 1000000 hl (by omega) (by omega) (by decide) (by decide) (by decide)
          simp only [cond_false, e, bi_some, e2]
          refine ⟨_, _, ?_, ?_, ?_, rfl⟩; exact ⟨p1, p2, woT2 x hx, p4⟩; omega; omega
theorem named_ok : m_lanelaw1_named 400 = some true := by rfl
theorem recsD (l : List Int) (a many : Int) (hl : l.length ≤ 9223372036854775807) (h0 : 0 ≤ a) (h1 : a < 4611686018427300000) (h2 : 0 ≤ many) (h3 : many ≤ 5) : Dr l a 400 (m_lanemake_Stream_Records ⟨l, a⟩ many) fun x => (∀ r ∈ x, okRec r) ∧ x.length ≤ 5 := by
  unfold m_lanemake_Stream_Records Dr
  rw [decide_eq_true (show many ≤ 9223372036854775807 by omega)]
  simp only [gd_true]
  obtain ⟨r, hr, a1, b1, b2, b3, b4, b5⟩ := rangeG_at (n := many) (s := ((⟨l, a⟩ : T_lanemake_Stream), ([] : List T_api_Record))) (f := fun i1 s2 => bi (m_lanemake_Stream_Some s2.1 [[97, 46, 110, 101, 116, 46, 120], [98, 46, 110, 101, 116, 46, 120], [99, 46, 110, 101, 116, 46, 120], [120, 46, 121]]) fun y13 => bi (m_lanemake_Stream_record y13.2 y13.1) fun y15 => bi (apd s2.2 [y15.1]) fun y17 => some (y15.2, y17))
    (fun i s => ∃ a', s.1 = ⟨l, a'⟩ ∧ a ≤ a' ∧ a' ≤ a + 31 * i ∧ (∀ x ∈ s.2, okRec x) ∧ s.2.length ≤ i) ⟨a, rfl, by omega, by omega, (fun x hx => by cases hx), by simp⟩ (by
      rintro i ⟨s, out⟩ hi ⟨a', e1, e2, e3, e4, e5⟩
      simp only at e1 e2 e3 e4 e5 ⊢
      subst e1
      obtain ⟨x, hx, p1⟩ := some_ok l a' [[97, 46, 110, 101, 116, 46, 120], [98, 46, 110, 101, 116, 46, 120], [99, 46, 110, 101, 116, 46, 120], [120, 46, 121]] hl (by omega) (by omega) (by simp) (by simp)
      rw [p1]
      simp only [bi_some]
      have hxl : x.length ≤ 300 := by
        simp only [List.mem_cons, List.not_mem_nil, or_false] at hx
        rcases hx with rfl | rfl | rfl | rfl <;> decide
      obtain ⟨y, a2, q1, q2, q3, q4⟩ := recD l (a' + 1) x hl (by omega) (by omega) hxl
      rw [q4]
      simp only [bi_some]
      rw [apd_some (by simp; omega)]
      refine ⟨_, rfl, a2, rfl, by omega, by omega, fun w hw => ?_, by simp; omega⟩
      rcases List.mem_append.1 hw with hw | hw
      · exact e4 w hw
      · simp only [List.mem_singleton] at hw
        subst hw
        exact q1)
  rw [hr]
  obtain ⟨s, out⟩ := r
  simp only at b1 b2 b3 b4 b5 ⊢
  subst b1
  have hmt : many.toNat ≤ 5 := by omega
  refine ⟨_, _, ⟨b4, ?_⟩, ?_, ?_, rfl⟩ <;> omega
end Go.Gk
