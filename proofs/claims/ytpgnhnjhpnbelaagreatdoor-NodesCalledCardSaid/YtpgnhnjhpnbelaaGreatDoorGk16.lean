/-
  THE GHOST LOGIC, PART 16: contracts in the kit's own form that give back a new row.
-/
import Derived.Test.YtpgnhnjhpnbelaaGreatDoorGk15
set_option linter.unusedVariables false
set_option linter.unusedSimpArgs false
namespace Go.Gk

section
variable {P : Program} {Γ : TypeId → Option TI} {F N : Nat} {fr : Fr} {hp : List Ob} {g : G}

theorem plainV_get : ∀ (gs : List G) (vs : List Value), plainV gs = some vs → gs.length = vs.length ∧ ∀ (j : Nat) (g : G), gs[j]? = some g → ∃ x, g = .d (.v x) ∧ vs[j]? = some x := by
  intro gs
  induction gs with
  | nil => intro vs h; simp [plainV] at h; subst h; simp
  | cons g gs ih =>
    intro vs h
    cases g with
    | d x =>
      cases x with
      | v c =>
        simp only [plainV] at h
        cases hp0 : plainV gs with
        | none => rw [hp0] at h; cases h
        | some vs0 =>
          rw [hp0] at h
          cases h
          obtain ⟨l, hh⟩ := ih vs0 hp0
          refine ⟨by simp [l], fun j g hg => ?_⟩
          cases j with
          | zero => simp at hg; exact ⟨c, hg.symm, by simp⟩
          | succ j => simpa using hh j g (by simpa using hg)
      | ro _ _ => simp [plainV] at h
    | _ => simp [plainV] at h

theorem plainV_args {gs : List G} {vs : List Value} (hv : plainV gs = some vs) {w : World} {O : Nat → Prop} {M : Mp} {vs' : Array Value} (hsz : vs'.size = gs.length) (hvs : ∀ (j : Nat) (g : G) (v : Value), gs[j]? = some g → vs'[j]? = some v → VR w O M g v) : vs' = vs.toArray := by
  obtain ⟨l, hh⟩ := plainV_get gs vs hv
  apply Array.ext
  · simp [hsz, l]
  · intro i h1 h2
    have hg : gs[i]? = some (gs[i]'(by omega)) := List.getElem?_eq_getElem (by omega)
    obtain ⟨x, e1, e2⟩ := hh i _ hg
    have := hvs i _ _ (hg.trans (by rw [e1])) (Array.getElem?_eq_getElem h1)
    rw [vr_v this]
    have := (List.getElem?_eq_some_iff.1 e2).2
    simp [this]

/-- A new row of plain cells, and nothing else. -/
theorem EC.of_alloc {f : FuncId} {gs : List G} {vs : List Value} {n sz : Nat} {xs : List Value} {t : TypeId} (hv : plainV gs = some vs) (h1 : ∀ v ∈ xs, v.oneCell' = true) (hn : xs.length = n * sz) (hm : n ≤ maxLen)
    (h : ∀ w, Calls P f vs.toArray w fun e w' => e = .returned (.slice (some ⟨w.heap.size, 0, none⟩) n n) ∧ w' = w.alloc (.cells xs.toArray t)) : EC P f gs [] fun g hp' => g = .sl 0 n ∧ hp' = [.row t sz n (xs.map D.v)] := by
  intro Z w M vs' hr hsz hvs
  have := plainV_args hv hsz hvs
  subst this
  refine (h w).mono ?_
  rintro e w' ⟨rfl, rfl⟩
  have hM : M = [] := List.length_eq_zero_iff.1 (by simpa using hr.len)
  subst hM
  obtain ⟨f1, f2, f3⟩ := push_ok hr (.row t sz n (xs.map D.v)) xs.toArray t n fun w' O' hst hh => ⟨by simp [hn], _, hh, by simp [hn], Nat.le_refl _, hm, fun j d hd => by
    rw [List.getElem?_map] at hd
    obtain ⟨v, hv', rfl⟩ := Option.map_eq_some_iff.1 hd
    exact ⟨v, by simpa using hv', .v v (h1 v (List.mem_of_getElem? hv'))⟩⟩
  exact ⟨_, .sl 0 n, _, _, rfl, ⟨rfl, rfl⟩, f1, .sl (c := n) (by simp) (Nat.le_refl _) hm, f2, f3⟩
/-- Nothing has turned: a result of whatever form. -/
theorem Pure.of_same2 {f : FuncId} {gs : List G} {vs : List Value} {r : Value} {g : G} (hv : plainV gs = some vs) (hg : ∀ w O M, VR w O M g r) (h : ∀ w, Calls P f vs.toArray w fun e w' => e = .returned r ∧ w' = w) : Pure P f gs g := by
  intro Z w M vs' hr hsz hvs
  have := plainV_args hv hsz hvs
  subst this
  refine (h w).mono ?_
  rintro e w' ⟨rfl, rfl⟩
  have hM : M = [] := List.length_eq_zero_iff.1 (by simpa using hr.len)
  subst hM
  exact ⟨r, g, [], [], rfl, ⟨rfl, rfl⟩, hr, hg _ _ _, Stp.refl _ _, ⟨Nat.le_refl _, fun _ _ => rfl⟩⟩
end
end Go.Gk
