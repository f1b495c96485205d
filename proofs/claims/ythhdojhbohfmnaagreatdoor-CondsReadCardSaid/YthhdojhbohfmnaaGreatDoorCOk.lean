/-
  The plain laws, step by step: a model comes to something that is told; two models come to things that are told together.
-/
import Derived.Test.YthhdojhbohfmnaaGreatDoorTDraw
set_option linter.unusedVariables false
set_option linter.unusedSimpArgs false
set_option linter.unusedSectionVars false
set_option maxRecDepth 100000
namespace Go.Gk
theorem loopM_go {σ ρ : Type} {f : σ → Option (LS σ ρ)} {k : Nat} {s : σ} (s' : σ) (h : f s = some (.go s')) : loopM f (k + 1) s = loopM f k s' := by simp only [loopM, h]
theorem loopM_out {σ ρ : Type} {f : σ → Option (LS σ ρ)} {k : Nat} {s : σ} (r : ρ) (h : f s = some (.out r)) : loopM f (k + 1) s = some r := by simp only [loopM, h]
theorem bi_eq {α β : Type} {x : Option α} {f : α → Option β} {v : α} (h : x = some v) : bi x f = f v := by rw [h]; rfl
theorem nil_len (x : Str) : ((x : Str) == []) = decide (x.length = 0) := by cases x <;> rfl
def Ok {α : Type} (m : Option α) (Q : α → Prop) : Prop := ∃ r, m = some r ∧ Q r
def Two {α β : Type} (m : Option α) (n : Option β) (R : α → β → Prop) : Prop := ∃ r q, m = some r ∧ n = some q ∧ R r q
section
variable {α β γ δ σ τ ρ ρ' : Type}
theorem ok_some {r : α} {Q : α → Prop} (h : Q r) : Ok (some r) Q := ⟨r, rfl, h⟩
theorem ok_bi {m : Option α} {g : α → Option β} {P : α → Prop} {Q : β → Prop} (h : Ok m P) (k : ∀ r, P r → Ok (g r) Q) : Ok (bi m g) Q := by
  obtain ⟨r, rfl, hr⟩ := h
  exact k r hr
theorem ok_eq {m : Option α} {g : α → Option β} {r : α} {Q : β → Prop} (h : m = some r) (k : Ok (g r) Q) : Ok (bi m g) Q := by subst h; exact k
theorem ok_mono {m : Option α} {P Q : α → Prop} (h : Ok m P) (k : ∀ r, P r → Q r) : Ok m Q := let ⟨r, h1, h2⟩ := h; ⟨r, h1, k r h2⟩
theorem ok_bif {b : Bool} {m n : Option α} {Q : α → Prop} (h1 : b = true → Ok m Q) (h2 : b = false → Ok n Q) : Ok (bif b then m else n) Q := by
  cases b with
  | true => exact h1 rfl
  | false => exact h2 rfl
theorem ok_gd {b : Bool} {m : Option α} {Q : α → Prop} (hb : b = true) (h : Ok m Q) : Ok (gd b m) Q := by subst hb; exact h
theorem ok_rangeF {f : Nat → α → σ → Option σ} {l : List α} {s : σ} (I : Nat → σ → Prop) (h0 : I 0 s) (step : ∀ (i : Nat) (x : α) (s : σ), l[i]? = some x → I i s → Ok (f i x s) (I (i + 1))) : Ok (rangeF f 0 l s) (I l.length) := by
  obtain ⟨r, h1, h2⟩ := rangeF_at l I step l 0 s rfl h0
  exact ⟨r, h1, by simpa using h2⟩
theorem ok_rangeG {f : Nat → σ → Option σ} {n : Int} {s : σ} (I : Nat → σ → Prop) (h0 : I 0 s) (step : ∀ (i : Nat) (s : σ), i < n.toNat → I i s → Ok (f i s) (I (i + 1))) : Ok (rangeG f n s) (I n.toNat) := rangeG_at I h0 step
theorem two_bi {m : Option α} {n : Option β} {g : α → Option γ} {h : β → Option δ} {P : α → β → Prop} {R : γ → δ → Prop} (hm : Two m n P) (k : ∀ r q, P r q → Two (g r) (h q) R) : Two (bi m g) (bi n h) R := by
  obtain ⟨r, q, rfl, rfl, hr⟩ := hm
  exact k r q hr
theorem two_mono {m : Option α} {n : Option β} {P R : α → β → Prop} (h : Two m n P) (k : ∀ r q, P r q → R r q) : Two m n R := let ⟨r, q, h1, h2, h3⟩ := h; ⟨r, q, h1, h2, k r q h3⟩
theorem two_bif {b c : Bool} {m m' : Option α} {n n' : Option β} {R : α → β → Prop} (hbc : b = c) (h1 : b = true → Two m n R) (h2 : b = false → Two m' n' R) : Two (bif b then m else m') (bif c then n else n') R := by
  subst hbc
  cases b with
  | true => exact h1 rfl
  | false => exact h2 rfl
/-- How two loops that may be left stand. -/
def LSR (I : σ → τ → Prop) (Q : ρ → ρ' → Prop) : LS σ ρ → LS τ ρ' → Prop
  | .go s, .go t => I s t
  | .out r, .out q => Q r q
  | _, _ => False
end
theorem some_ok (l : List Int) (a : Int) (xs : List Str) (hl : l.length ≤ 9223372036854775807) (h0 : 0 ≤ a) (h1 : a < 4611686018427387904) (hn : 1 ≤ xs.length) (hn2 : xs.length ≤ 1000) :
    ∃ x, x ∈ xs ∧ m_lanemake_Stream_Some ⟨l, a⟩ xs = some (x, ⟨l, a + 1⟩) := by
  obtain ⟨r, r0, r1, h⟩ := next_ok l a xs.length hl h0 h1 (by omega) (by omega)
  obtain ⟨x, hx, e⟩ := getZ_in xs r0 r1
  exact ⟨x, hx, by unfold m_lanemake_Stream_Some; rw [h]; simp only [bi_some, e]⟩
/-! ### Draws -/
/-- A stream at some place. -/
def At (l : List Int) (a b : Int) (s : T_lanemake_Stream) : Prop := s.L = l ∧ a ≤ s.v_at ∧ s.v_at ≤ b
theorem At.eq {l : List Int} {a b : Int} {s : T_lanemake_Stream} (h : At l a b s) : s = ⟨l, s.v_at⟩ := by rw [← h.1]
theorem At.up {l : List Int} {a b a' b' : Int} {s : T_lanemake_Stream} (h : At l a b s) (h1 : a' ≤ a) (h2 : b ≤ b') : At l a' b' s := ⟨h.1, by have := h.2.1; omega, by have := h.2.2; omega⟩
theorem flip_o {l : List Int} {a b : Int} {s : T_lanemake_Stream} (h : At l a b s) (n : Int) (hl : l.length ≤ 9223372036854775807) (h0 : 0 ≤ a) (h1 : b < 4611686018427387904) (hn : 1 ≤ n) (hn2 : n ≤ 4611686018427387904) :
    Ok (m_lanemake_Stream_Flip s n) fun r => At l (a + 1) (b + 1) r.2 := by
  obtain ⟨e1, e2, e3⟩ := h
  obtain ⟨c, hc⟩ := flip_ok l s.v_at n hl (by omega) (by omega) hn hn2
  rw [← e1] at hc
  exact ⟨_, hc, e1, by simp only; omega, by simp only; omega⟩
theorem pick_o {l : List Int} {a b : Int} {s : T_lanemake_Stream} (h : At l a b s) (xs : List Int) (hl : l.length ≤ 9223372036854775807) (h0 : 0 ≤ a) (h1 : b < 4611686018427387904) (hn : 1 ≤ xs.length) (hn2 : xs.length ≤ 1000) :
    Ok (m_lanemake_Stream_Pick s xs) fun r => r.1 ∈ xs ∧ At l (a + 1) (b + 1) r.2 := by
  obtain ⟨e1, e2, e3⟩ := h
  obtain ⟨c, hc, hp⟩ := pick_ok l s.v_at xs hl (by omega) (by omega) hn hn2
  rw [← e1] at hp
  exact ⟨_, hp, hc, e1, by simp only; omega, by simp only; omega⟩
theorem some_o {l : List Int} {a b : Int} {s : T_lanemake_Stream} (h : At l a b s) (xs : List Str) (hl : l.length ≤ 9223372036854775807) (h0 : 0 ≤ a) (h1 : b < 4611686018427387904) (hn : 1 ≤ xs.length) (hn2 : xs.length ≤ 1000) :
    Ok (m_lanemake_Stream_Some s xs) fun r => r.1 ∈ xs ∧ At l (a + 1) (b + 1) r.2 := by
  obtain ⟨e1, e2, e3⟩ := h
  obtain ⟨c, hc, hp⟩ := some_ok l s.v_at xs hl (by omega) (by omega) hn hn2
  rw [← e1] at hp
  exact ⟨_, hp, hc, e1, by simp only; omega, by simp only; omega⟩
end Go.Gk
