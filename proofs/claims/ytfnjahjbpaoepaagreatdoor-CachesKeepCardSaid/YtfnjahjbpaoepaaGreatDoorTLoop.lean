/-
  Loops of models, by what holds in each round.
-/
import Derived.Test.YtfnjahjbpaoepaaGreatDoorXCM
set_option linter.unusedVariables false
set_option linter.unusedSimpArgs false
set_option linter.unusedSectionVars false
namespace Go.Gk
theorem rangeF_at {α σ : Type} {f : Nat → α → σ → Option σ} (L : List α) (I : Nat → σ → Prop) (step : ∀ (i : Nat) (x : α) (s : σ), L[i]? = some x → I i s → ∃ s', f i x s = some s' ∧ I (i + 1) s') :
    ∀ (l : List α) (i : Nat) (s : σ), L.drop i = l → I i s → ∃ r, rangeF f i l s = some r ∧ I (i + l.length) r
  | [], i, s, _, h => ⟨s, rfl, h⟩
  | x :: l, i, s, hd, h => by
    have hx : L[i]? = some x := by have := congrArg (fun q => q[0]?) hd; simpa using this
    obtain ⟨s', h1, h2⟩ := step i x s hx h
    obtain ⟨r, h3, h4⟩ := rangeF_at L I step l (i + 1) s' (by rw [← List.drop_drop, hd]; rfl) h2
    refine ⟨r, by simp only [rangeF, h1, bi_some, h3], ?_⟩
    rw [List.length_cons, show i + (l.length + 1) = i + 1 + l.length by omega]
    exact h4
theorem rangeG_at {σ : Type} {f : Nat → σ → Option σ} {n : Int} {s : σ} (I : Nat → σ → Prop) (h0 : I 0 s)
    (step : ∀ (i : Nat) (s : σ), i < n.toNat → I i s → ∃ s', f i s = some s' ∧ I (i + 1) s') : ∃ r, rangeG f n s = some r ∧ I n.toNat r := by
  obtain ⟨r, h1, h2⟩ := rangeF_at (f := fun i (_ : Unit) s => f i s) (List.replicate n.toNat ()) I (fun i x s hx hi => step i s (by have := (List.getElem?_eq_some_iff.1 hx).1; simpa using this) hi) (List.replicate n.toNat ()) 0 s rfl h0
  exact ⟨r, h1, by simpa using h2⟩
/-- A loop that may be left. -/
theorem rangeM_at {α σ ρ : Type} {f : Nat → α → σ → Option (LS σ ρ)} (L : List α) (I : Nat → σ → Prop) (Q : ρ → Prop) (step : ∀ (i : Nat) (x : α) (s : σ), L[i]? = some x → I i s → (∃ s', f i x s = some (.go s') ∧ I (i + 1) s') ∨ ∃ r, f i x s = some (.out r) ∧ Q r) :
    ∀ (l : List α) (i : Nat) (s : σ), L.drop i = l → I i s → (∃ s', rangeM f i l s = some (.go s') ∧ I (i + l.length) s') ∨ ∃ r, rangeM f i l s = some (.out r) ∧ Q r
  | [], i, s, _, h => .inl ⟨s, rfl, h⟩
  | x :: l, i, s, hd, h => by
    have hx : L[i]? = some x := by have := congrArg (fun q => q[0]?) hd; simpa using this
    rcases step i x s hx h with ⟨s', h1, h2⟩ | ⟨r, h1, h2⟩
    · rcases rangeM_at L I Q step l (i + 1) s' (by rw [← List.drop_drop, hd]; rfl) h2 with ⟨s2, h3, h4⟩ | ⟨r, h3, h4⟩
      · refine .inl ⟨s2, by simp only [rangeM, h1, h3], ?_⟩
        rw [List.length_cons, show i + (l.length + 1) = i + 1 + l.length by omega]
        exact h4
      · exact .inr ⟨r, by simp only [rangeM, h1, h3], h4⟩
    · exact .inr ⟨r, by simp only [rangeM, h1], h2⟩
/-- Two loops that go alike. -/
theorem rangeM_two {α σ σ' ρ ρ' : Type} {f : Nat → α → σ → Option (LS σ ρ)} {g : Nat → α → σ' → Option (LS σ' ρ')} (L : List α) (I : Nat → σ → σ' → Prop) (Q : ρ → ρ' → Prop)
    (step : ∀ (i : Nat) (x : α) (s : σ) (t : σ'), L[i]? = some x → I i s t → (∃ s' t', f i x s = some (.go s') ∧ g i x t = some (.go t') ∧ I (i + 1) s' t') ∨ ∃ r q, f i x s = some (.out r) ∧ g i x t = some (.out q) ∧ Q r q) :
    ∀ (l : List α) (i : Nat) (s : σ) (t : σ'), L.drop i = l → I i s t → (∃ s' t', rangeM f i l s = some (.go s') ∧ rangeM g i l t = some (.go t') ∧ I (i + l.length) s' t') ∨ ∃ r q, rangeM f i l s = some (.out r) ∧ rangeM g i l t = some (.out q) ∧ Q r q
  | [], i, s, t, _, h => .inl ⟨s, t, rfl, rfl, h⟩
  | x :: l, i, s, t, hd, h => by
    have hx : L[i]? = some x := by have := congrArg (fun q => q[0]?) hd; simpa using this
    rcases step i x s t hx h with ⟨s', t', h1, h1', h2⟩ | ⟨r, q, h1, h1', h2⟩
    · rcases rangeM_two L I Q step l (i + 1) s' t' (by rw [← List.drop_drop, hd]; rfl) h2 with ⟨s2, t2, h3, h3', h4⟩ | ⟨r, q, h3, h3', h4⟩
      · refine .inl ⟨s2, t2, by simp only [rangeM, h1, h3], by simp only [rangeM, h1', h3'], ?_⟩
        rw [List.length_cons, show i + (l.length + 1) = i + 1 + l.length by omega]
        exact h4
      · exact .inr ⟨r, q, by simp only [rangeM, h1, h3], by simp only [rangeM, h1', h3'], h4⟩
    · exact .inr ⟨r, q, by simp only [rangeM, h1], by simp only [rangeM, h1'], h2⟩
theorem subZ_cast {α : Type} {l : List α} {i j : Nat} (h1 : i ≤ j) (h2 : j ≤ l.length) : subZ l (i : Int) (j : Int) = some ((l.take j).drop i) := by
  unfold subZ
  rw [decide_eq_true (show (0 : Int) ≤ i by omega), decide_eq_true (show (i : Int) ≤ j by omega), decide_eq_true (show (j : Int) ≤ (l.length : Int) by omega)]
  rfl
end Go.Gk
