/-
  The plain laws, step by step.
-/
import Derived.Test.YtffmljbfffojlaaGreatDoorEBack
import Derived.Test.YtffmljbfffojlaaGreatDoorPMap
set_option linter.unusedVariables false
set_option linter.unusedSimpArgs false
set_option linter.unusedSectionVars false
set_option maxRecDepth 100000
namespace Go.Gk
def Ok {α : Type} (m : Option α) (Q : α → Prop) : Prop := ∃ r, m = some r ∧ Q r
def Two {α β : Type} (m : Option α) (n : Option β) (R : α → β → Prop) : Prop := ∃ r q, m = some r ∧ n = some q ∧ R r q
section
variable {α β γ δ σ τ ρ ρ' : Type}
theorem ok_some {r : α} {Q : α → Prop} (h : Q r) : Ok (some r) Q := ⟨r, rfl, h⟩
theorem ok_bi {m : Option α} {g : α → Option β} {P : α → Prop} {Q : β → Prop} (h : Ok m P) (k : ∀ r, P r → Ok (g r) Q) : Ok (bi m g) Q := by
  obtain ⟨r, rfl, hr⟩ := h
  exact k r hr
theorem ok_eq {m : Option α} {g : α → Option β} {r : α} {Q : β → Prop} (h : m = some r) (k : Ok (g r) Q) : Ok (bi m g) Q := by subst h; exact k
theorem ok_mono {m : Option α} {P Q : α → Prop} (h : Ok m P) (k : ∀ r, P r → Q r) : Ok m Q := let ⟨r, h1, h2⟩ := h; ⟨r, h1, k r h2⟩
theorem ok_bif {b : Bool} {m n : Option α} {Q : α → Prop} (h1 : b = true → Ok m Q) (h2 : b = false → Ok n Q) : Ok (bif b then m else n) Q := by
  cases b with
  | true => exact h1 rfl
  | false => exact h2 rfl
theorem ok_gd {b : Bool} {m : Option α} {Q : α → Prop} (hb : b = true) (h : Ok m Q) : Ok (gd b m) Q := by subst hb; exact h
theorem ok_rangeF {f : Nat → α → σ → Option σ} {l : List α} {s : σ} (I : Nat → σ → Prop) (h0 : I 0 s) (step : ∀ (i : Nat) (x : α) (s : σ), l[i]? = some x → I i s → Ok (f i x s) (I (i + 1))) : Ok (rangeF f 0 l s) (I l.length) := by
  obtain ⟨r, h1, h2⟩ := rangeF_at l I step l 0 s rfl h0
  exact ⟨r, h1, by simpa using h2⟩
theorem ok_rangeG {f : Nat → σ → Option σ} {n : Int} {s : σ} (I : Nat → σ → Prop) (h0 : I 0 s) (step : ∀ (i : Nat) (s : σ), i < n.toNat → I i s → Ok (f i s) (I (i + 1))) : Ok (rangeG f n s) (I n.toNat) := rangeG_at I h0 step
theorem ok_rangeM {f : Nat → α → σ → Option (LS σ ρ)} {l : List α} {s : σ} (I : Nat → σ → Prop) (Q : ρ → Prop) (h0 : I 0 s)
    (step : ∀ (i : Nat) (x : α) (s : σ), l[i]? = some x → I i s → Ok (f i x s) fun r => match r with | .go s' => I (i + 1) s' | .out q => Q q) : Ok (rangeM f 0 l s) fun r => match r with | .go s' => I l.length s' | .out q => Q q := by
  rcases rangeM_at l I Q (fun i x s hx hi => by
    obtain ⟨r, h1, h2⟩ := step i x s hx hi
    cases r with
    | go s' => exact .inl ⟨s', h1, h2⟩
    | out q => exact .inr ⟨q, h1, h2⟩) l 0 s rfl h0 with ⟨s', h1, h2⟩ | ⟨q, h1, h2⟩
  · exact ⟨_, h1, by simpa using h2⟩
  · exact ⟨_, h1, h2⟩
theorem ok_loopM {f : σ → Option (LS σ ρ)} {k : Nat} {s : σ} (I : σ → Prop) (μ : σ → Nat) (Q : ρ → Prop) (h0 : I s) (hk : μ s < k) (step : ∀ s, I s → Ok (f s) fun r => match r with | .go s' => I s' ∧ μ s' < μ s | .out q => Q q) : Ok (loopM f k s) Q :=
  loopM_inv I μ Q (fun s hi => by
    obtain ⟨r, h1, h2⟩ := step s hi
    cases r with
    | go s' => exact .inr ⟨s', h1, h2.1, h2.2⟩
    | out q => exact .inl ⟨q, h1, h2⟩) k s hk h0
theorem ok_get {l : List α} {i : Int} {j : Nat} {x : α} {g : α → Option β} {Q : β → Prop} (hi : i = (j : Int)) (h : l[j]? = some x) (k : Ok (g x) Q) : Ok (bi (getZ l i) g) Q := ok_eq (getZ_wi hi h) k
theorem ok_app {a b : List α} {g : List α → Option β} {Q : β → Prop} (h : a.length + b.length ≤ 4294967296) (k : Ok (g (a ++ b)) Q) : Ok (bi (apd a b) g) Q := ok_eq (apd_some h) k

theorem two_some {r : α} {q : β} {R : α → β → Prop} (h : R r q) : Two (some r) (some q) R := ⟨r, q, rfl, rfl, h⟩
theorem two_l {m : Option α} {g : α → Option γ} {n : Option β} {P : α → Prop} {R : γ → β → Prop} (h : Ok m P) (k : ∀ r, P r → Two (g r) n R) : Two (bi m g) n R := by
  obtain ⟨r, rfl, hr⟩ := h
  exact k r hr
theorem two_r {m : Option α} {g : β → Option γ} {n : Option β} {P : β → Prop} {R : α → γ → Prop} (h : Ok n P) (k : ∀ r, P r → Two m (g r) R) : Two m (bi n g) R := by
  obtain ⟨r, rfl, hr⟩ := h
  exact k r hr
theorem two_le {m : Option α} {g : α → Option γ} {n : Option β} {r : α} {R : γ → β → Prop} (h : m = some r) (k : Two (g r) n R) : Two (bi m g) n R := by subst h; exact k
theorem two_re {m : Option α} {g : β → Option γ} {n : Option β} {r : β} {R : α → γ → Prop} (h : n = some r) (k : Two m (g r) R) : Two m (bi n g) R := by subst h; exact k
theorem two_bi {m : Option α} {n : Option β} {g : α → Option γ} {h : β → Option δ} {P : α → β → Prop} {R : γ → δ → Prop} (hm : Two m n P) (k : ∀ r q, P r q → Two (g r) (h q) R) : Two (bi m g) (bi n h) R := by
  obtain ⟨r, q, rfl, rfl, hr⟩ := hm
  exact k r q hr
theorem two_mono {m : Option α} {n : Option β} {P R : α → β → Prop} (h : Two m n P) (k : ∀ r q, P r q → R r q) : Two m n R := let ⟨r, q, h1, h2, h3⟩ := h; ⟨r, q, h1, h2, k r q h3⟩
theorem two_bif {b c : Bool} {m m' : Option α} {n n' : Option β} {R : α → β → Prop} (hbc : b = c) (h1 : b = true → Two m n R) (h2 : b = false → Two m' n' R) : Two (bif b then m else m') (bif c then n else n') R := by
  subst hbc
  cases b with
  | true => exact h1 rfl
  | false => exact h2 rfl
theorem two_bifl {b : Bool} {m m' : Option α} {n : Option β} {R : α → β → Prop} (h1 : b = true → Two m n R) (h2 : b = false → Two m' n R) : Two (bif b then m else m') n R := by
  cases b with
  | true => exact h1 rfl
  | false => exact h2 rfl
theorem two_bifr {b : Bool} {m : Option α} {n n' : Option β} {R : α → β → Prop} (h1 : b = true → Two m n R) (h2 : b = false → Two m n' R) : Two m (bif b then n else n') R := by
  cases b with
  | true => exact h1 rfl
  | false => exact h2 rfl
theorem two_ok {m : Option α} {n : Option β} {P : α → Prop} {R : α → β → Prop} (h : Ok m P) (k : ∀ r, P r → Ok n (R r)) : Two m n R := by
  obtain ⟨r, h1, h2⟩ := h
  obtain ⟨q, h3, h4⟩ := k r h2
  exact ⟨r, q, h1, h3, h4⟩
/-- How two loops that may be left stand. -/
def LSR (I : σ → τ → Prop) (Q : ρ → ρ' → Prop) : LS σ ρ → LS τ ρ' → Prop
  | .go s, .go t => I s t
  | .out r, .out q => Q r q
  | _, _ => False
theorem two_rangeM {f : Nat → α → σ → Option (LS σ ρ)} {g : Nat → α → τ → Option (LS τ ρ')} {l : List α} {s : σ} {t : τ} (I : Nat → σ → τ → Prop) (Q : ρ → ρ' → Prop) (h0 : I 0 s t)
    (step : ∀ (i : Nat) (x : α) (s : σ) (t : τ), l[i]? = some x → I i s t → Two (f i x s) (g i x t) (LSR (I (i + 1)) Q)) : Two (rangeM f 0 l s) (rangeM g 0 l t) (LSR (I l.length) Q) := by
  rcases rangeM_two l I Q (fun i x s t hx hi => by
    obtain ⟨r, q, h1, h2, h3⟩ := step i x s t hx hi
    cases r <;> cases q <;> first | exact h3.elim | exact .inl ⟨_, _, h1, h2, h3⟩ | exact .inr ⟨_, _, h1, h2, h3⟩) l 0 s t rfl h0 with ⟨s', t', h1, h2, h3⟩ | ⟨r, q, h1, h2, h3⟩
  · exact ⟨_, _, h1, h2, by simpa [LSR] using h3⟩
  · exact ⟨_, _, h1, h2, h3⟩
theorem two_rangeF {f : Nat → α → σ → Option σ} {g : Nat → α → τ → Option τ} {l : List α} {s : σ} {t : τ} (I : Nat → σ → τ → Prop) (h0 : I 0 s t)
    (step : ∀ (i : Nat) (x : α) (s : σ) (t : τ), l[i]? = some x → I i s t → Two (f i x s) (g i x t) (I (i + 1))) : Two (rangeF f 0 l s) (rangeF g 0 l t) (I l.length) := by
  obtain ⟨s', t', h1, h2, h3⟩ := rangeF_two l I (fun i x s t hx hi => by
    obtain ⟨r, q, h1, h2, h3⟩ := step i x s t hx hi
    exact ⟨r, q, h1, h2, h3⟩) l 0 s t rfl h0
  exact ⟨_, _, h1, h2, by simpa using h3⟩
/-- Two functions that come to the same. -/
theorem two_same {m n : Option α} (h : Two m n fun r q => r = q) : ∃ r, m = some r ∧ n = some r := by
  obtain ⟨r, q, h1, h2, rfl⟩ := h
  exact ⟨r, h1, h2⟩
end
/-! ### Draws -/
/-- A stream at some place. -/
def At (l : List Int) (a b : Int) (s : T_lanemake_Stream) : Prop := s.L = l ∧ a ≤ s.v_at ∧ s.v_at ≤ b
theorem At.eq {l : List Int} {a b : Int} {s : T_lanemake_Stream} (h : At l a b s) : s = ⟨l, s.v_at⟩ := by rw [← h.1]
theorem At.up {l : List Int} {a b a' b' : Int} {s : T_lanemake_Stream} (h : At l a b s) (h1 : a' ≤ a) (h2 : b ≤ b') : At l a' b' s := ⟨h.1, by have := h.2.1; omega, by have := h.2.2; omega⟩
theorem flip_o {l : List Int} {a b : Int} {s : T_lanemake_Stream} (h : At l a b s) (n : Int) (hl : l.length ≤ 9223372036854775807) (h0 : 0 ≤ a) (h1 : b < 4611686018427387904) (hn : 1 ≤ n) (hn2 : n ≤ 4611686018427387904) :
    Ok (m_lanemake_Stream_Flip s n) fun r => At l (a + 1) (b + 1) r.2 := by
  obtain ⟨e1, e2, e3⟩ := h
  obtain ⟨c, hc⟩ := flip_ok l s.v_at n hl (by omega) (by omega) hn hn2
  rw [← e1] at hc
  exact ⟨_, hc, e1, by simp only; omega, by simp only; omega⟩
theorem pick_o {l : List Int} {a b : Int} {s : T_lanemake_Stream} (h : At l a b s) (xs : List Int) (hl : l.length ≤ 9223372036854775807) (h0 : 0 ≤ a) (h1 : b < 4611686018427387904) (hn : 1 ≤ xs.length) (hn2 : xs.length ≤ 1000) :
    Ok (m_lanemake_Stream_Pick s xs) fun r => r.1 ∈ xs ∧ At l (a + 1) (b + 1) r.2 := by
  obtain ⟨e1, e2, e3⟩ := h
  obtain ⟨c, hc, hp⟩ := pick_ok l s.v_at xs hl (by omega) (by omega) hn hn2
  rw [← e1] at hp
  exact ⟨_, hp, hc, e1, by simp only; omega, by simp only; omega⟩
theorem some_o {l : List Int} {a b : Int} {s : T_lanemake_Stream} (h : At l a b s) (xs : List Str) (hl : l.length ≤ 9223372036854775807) (h0 : 0 ≤ a) (h1 : b < 4611686018427387904) (hn : 1 ≤ xs.length) (hn2 : xs.length ≤ 1000) :
    Ok (m_lanemake_Stream_Some s xs) fun r => r.1 ∈ xs ∧ At l (a + 1) (b + 1) r.2 := by
  obtain ⟨e1, e2, e3⟩ := h
  obtain ⟨c, hc, hp⟩ := some_ok l s.v_at xs hl (by omega) (by omega) hn hn2
  rw [← e1] at hp
  exact ⟨_, hp, hc, e1, by simp only; omega, by simp only; omega⟩
theorem range_o {l : List Int} {a b : Int} {s : T_lanemake_Stream} (h : At l a b s) (lo hi : Int) (hl : l.length ≤ 9223372036854775807) (h0 : 0 ≤ a) (h1 : b < 4611686018427387904) (h2 : lo ≤ hi) (h3 : -1000000000 ≤ lo) (h4 : hi ≤ 1000000000) :
    Ok (m_lanemake_Stream_Range s lo hi) fun r => lo ≤ r.1 ∧ r.1 ≤ hi ∧ At l (a + 1) (b + 1) r.2 := by
  obtain ⟨e1, e2, e3⟩ := h
  obtain ⟨c, c1, c2, hp⟩ := range_ok l s.v_at lo hi hl (by omega) (by omega) h2 h3 h4
  rw [← e1] at hp
  exact ⟨_, hp, c1, c2, e1, by simp only; omega, by simp only; omega⟩
theorem odd_o {l : List Int} {a b : Int} {s : T_lanemake_Stream} (h : At l a b s) (lo hi : Int) (hl : l.length ≤ 9223372036854775807) (h0 : 0 ≤ a) (h1 : b < 4611686018427370000) (h2 : lo ≤ hi) (h3 : -1000000000 ≤ lo) (h4 : hi ≤ 1000000000) :
    Ok (m_lanemake_Stream_Odd s lo hi) fun r => At l a (b + 5) r.2 := by
  obtain ⟨e1, e2, e3⟩ := h
  obtain ⟨c, a', _, c1, c2, hp⟩ := oddD l s.v_at lo hi hl (by omega) (by omega) h2 h3 h4
  rw [← e1] at hp
  exact ⟨_, hp, e1, by simp only; omega, by simp only; omega⟩
end Go.Gk
