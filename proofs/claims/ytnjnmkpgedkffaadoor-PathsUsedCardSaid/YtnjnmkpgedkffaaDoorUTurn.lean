/-
  The plain law: times that are added, two ways.
-/
import Derived.Test.YtnjnmkpgedkffaaDoorUMap
set_option linter.unusedVariables false
set_option linter.unusedSimpArgs false
set_option linter.unusedSectionVars false
set_option maxRecDepth 100000
namespace Go.Gk
abbrev End : Int := 345686400
theorem set_snoc {α : Type} (a : List α) (x y : α) : (a ++ [x]).set a.length y = a ++ [y] := by
  rw [List.set_append_right _ _ (Nat.le_refl _)]
  simp
theorem get_snoc {α : Type} (a : List α) (x : α) : (a ++ [x])[a.length]? = some x := by simp
/-- What is told so far: whoever is used is open in one, and ends now in the other. -/
structure RelT (t : Int) (i : Nat) (now : Str) (P R : List T_api_Turn) : Prop where
  len : P.length ≤ i ∧ R.length ≤ i
  off : now = [] → P = R ∧ ∀ x, R.getLast? = some x → x.To < t
  on : now ≠ [] → ∃ init f, P = init ++ [⟨now, f, End⟩] ∧ R = init ++ [⟨now, f, t⟩] ∧ f < t
theorem last_of {α : Type} {l : List α} (h : l ≠ []) : ∃ a x, l = a ++ [x] := ⟨l.dropLast, l.getLast h, (List.dropLast_concat_getLast h).symm⟩
theorem turn_step {t t' : Int} {i : Nat} {now : Str} {P R : List T_api_Turn} (h : RelT t i now P R) (hi : i ≤ 100000) (h1 : t < t') (h2 : t' ≤ End) (c : Str) :
    ∃ P' R', m_route_begins P t c = some P' ∧ m_laneref1_addTurn R c t t' = some R' ∧ RelT t' (i + 1) c P' R' := by
  obtain ⟨⟨hlP, hlR⟩, hoff, hon⟩ := h
  have wl : ∀ (a : List T_api_Turn) (x : T_api_Turn), a.length ≤ 100000 → wi (((a ++ [x]).length : Int) - 1) = (a.length : Int) := fun a x ha => by
    rw [wi_id (by simp <;> omega) (by simp <;> omega)]; simp
  have ht : decide (t ≥ t') = false := decide_eq_false (by omega)
  have hlast : ∀ (a : List T_api_Turn) (x : T_api_Turn), a.length ≤ 100000 → getZ (a ++ [x]) (wi (((a ++ [x]).length : Int) - 1)) = some x := fun a x ha => by
    rw [wl a x ha, getZ_cast, get_snoc]
  have hpos : ∀ (a : List T_api_Turn) (x : T_api_Turn), a.length ≤ 100000 → decide (wi (((a ++ [x]).length : Int) - 1) ≥ 0) = true := fun a x ha => by
    rw [wl a x ha]; exact decide_eq_true (by omega)
  have hpos2 : ∀ (a : List T_api_Turn) (x : T_api_Turn), decide (((a ++ [x]).length : Int) > 0) = true := fun a x => decide_eq_true (by simp <;> omega)
  unfold m_route_begins m_laneref1_addTurn
  rw [ht]
  by_cases hn : now = []
  · obtain ⟨rfl, hl⟩ := hoff hn
    subst hn
    -- the open question of begins is answered with no
    have hb : (bi (bif decide ((wi ((P.length : Int) - 1) : Int) ≥ 0) then (bi (getZ P (wi ((P.length : Int) - 1))) fun x4 => some ((x4.To : Int) == 345686400)) else (some false)) fun q1 => some q1) = some false := by
      by_cases hP : P = []
      · subst hP; rfl
      · obtain ⟨a, x, rfl⟩ := last_of hP
        have ha : a.length ≤ 100000 := by simp at hlP; omega
        rw [hpos a x ha, hlast a x ha]
        simp only [cond_true, bi_some]
        have := hl x (by simp)
        have e : ((x.To : Int) == 345686400) = false := by simp only [beq_eq_false_iff_ne, ne_eq, End] at h2 ⊢; omega
        rw [e]
    have hb2 : (bif decide ((wi ((P.length : Int) - 1) : Int) ≥ 0) then (bi (getZ P (wi ((P.length : Int) - 1))) fun x4 => some ((x4.To : Int) == 345686400)) else (some false)) = some false := by
      obtain ⟨b, e1, e2⟩ := bi_ok hb
      rw [e1]; exact e2
    rw [hb2]
    simp only [bi_some, cond_false]
    by_cases hc : c = []
    · subst hc
      refine ⟨P, P, rfl, rfl, ⟨by omega, by omega⟩, fun _ => ⟨rfl, fun x hx => ?_⟩, fun h => absurd rfl h⟩
      have := hl x hx
      omega
    · have e : ((c : Str) == []) = false := by simpa using hc
      have hap : ∀ z : T_api_Turn, apd P [z] = some (P ++ [z]) := fun z => apd_some (by simp; omega)
      simp only [orI, e, cond_false, Bool.or_false, hap, bi_some]
      have hm : ∃ q, (bif decide ((P.length : Int) > 0) then (bi (getZ P (wi ((P.length : Int) - 1))) fun x6 => some ((x6.Who : Str) == c)) else (some false)) = some q ∧ (q = true → ∃ a x, P = a ++ [x] ∧ a.length ≤ 100000) := by
        by_cases hP : P = []
        · subst hP; exact ⟨false, rfl, fun h => by cases h⟩
        · obtain ⟨a, x, rfl⟩ := last_of hP
          have ha : a.length ≤ 100000 := by simp at hlP; omega
          rw [hpos2, hlast a x ha]
          exact ⟨_, rfl, fun _ => ⟨a, x, rfl, ha⟩⟩
      obtain ⟨q, hq1, hq2⟩ := hm
      rw [hq1]
      simp only [bi_some]
      have hf : (bif q then (bi (getZ P (wi ((P.length : Int) - 1))) fun x13 => some ((x13.To : Int) == t)) else (some false)) = some false := by
        cases q with
        | false => rfl
        | true =>
          obtain ⟨a, x, rfl, ha⟩ := hq2 rfl
          rw [hlast a x ha]
          have := hl x (by simp)
          have e : ((x.To : Int) == t) = false := by simp only [beq_eq_false_iff_ne, ne_eq]; omega
          simp only [cond_true, bi_some, e]
      rw [hf]
      exact ⟨_, _, rfl, rfl, ⟨by simp; omega, by simp; omega⟩, fun h => absurd h hc, fun _ => ⟨P, t, rfl, rfl, h1⟩⟩
  · obtain ⟨a, f, rfl, rfl, hf⟩ := hon hn
    have ha : a.length ≤ 100000 := by simp at hlP; omega
    have hla : a.length + 1 ≤ i := by simpa using hlP
    have eE : (((⟨now, f, End⟩ : T_api_Turn).To : Int) == 345686400) = true := rfl
    rw [hpos a _ ha, hlast a ⟨now, f, End⟩ ha]
    simp only [cond_true, bi_some, eE, hpos2, hlast a ⟨now, f, t⟩ ha, wl a _ ha, Int.toNat_natCast, set_snoc, getZ_cast, get_snoc]
    by_cases hcn : c = now
    · subst hcn
      have e : ((c : Str) == []) = false := by simpa using hn
      simp only [beq_self_eq_true, cond_true, orI, e, Bool.or_false, cond_false, bi_some]
      exact ⟨_, _, rfl, rfl, ⟨by simp; omega, by simp; omega⟩, fun h => absurd h hn, fun _ => ⟨a, f, rfl, rfl, by omega⟩⟩
    · have e1 : ((now : Str) == c) = false := by simpa using Ne.symm hcn
      have e2 : ((f : Int) == t) = false := by simp only [beq_eq_false_iff_ne, ne_eq]; omega
      simp only [e1, e2, cond_false, bi_some, orI]
      by_cases hc : c = []
      · subst hc
        refine ⟨_, _, rfl, rfl, ⟨by simp; omega, by simp; omega⟩, fun _ => ⟨rfl, fun x hx => ?_⟩, fun h => absurd rfl h⟩
        simp at hx
        subst hx
        exact h1
      · have e : ((c : Str) == []) = false := by simpa using hc
        have hap : ∀ z : T_api_Turn, apd (a ++ [⟨now, f, t⟩]) [z] = some (a ++ [⟨now, f, t⟩] ++ [z]) := fun z => apd_some (by simp; omega)
        simp only [e, cond_false, Bool.or_false, hap, bi_some]
        exact ⟨_, _, rfl, rfl, ⟨by simp; omega, by simp; omega⟩, fun h => absurd h hc, fun _ => ⟨a ++ [⟨now, f, t⟩], t, rfl, rfl, h1⟩⟩
theorem turns_equal (l : List T_api_Turn) : m_slices_Equal_api_Turn_api_Turn l l = some true := by
  unfold m_slices_Equal_api_Turn_api_Turn
  have e : (((l.length : Int) : Int) != (l.length : Int)) = false := by simp
  rw [e]
  simp only [cond_false]
  obtain ⟨s', h, _⟩ | ⟨r, h, hf⟩ := rangeM_at (f := fun i3 x5 s4 => bi (getZ l (i3 : Int)) fun x14 => bif !(((x5.Who : Str) == x14.Who) && (((x5.From : Int) == x14.From) && (((x5.To : Int) == x14.To) && true))) then (bi (some false) fun v => some (LS.out v)) else (some (LS.go ()))) l (fun _ _ => True) (fun _ : Bool => False)
    (fun i x s hx _ => .inl ⟨(), by rw [getZ_nn hx]; simp, trivial⟩) l 0 () rfl trivial
  · rw [h]; rfl
  · exact absurd hf id
end Go.Gk
