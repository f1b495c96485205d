/-
  The plain laws of routers: turns that are added, two ways.
-/
import Derived.Test.YtnjnmkpgedkffaaGreatDoorWUpTime
set_option linter.unusedVariables false
set_option linter.unusedSimpArgs false
set_option linter.unusedSectionVars false
set_option maxRecDepth 100000
namespace Go.Gk
theorem set_snoc {α : Type} (a : List α) (x y : α) : (a ++ [x]).set a.length y = a ++ [y] := by
  rw [List.set_append_right _ _ (Nat.le_refl _)]
  simp
theorem get_snoc {α : Type} (a : List α) (x : α) : (a ++ [x])[a.length]? = some x := by simp
theorem last_of {α : Type} {l : List α} (h : l ≠ []) : ∃ a x, l = a ++ [x] := ⟨l.dropLast, l.getLast h, (List.dropLast_concat_getLast h).symm⟩
/-- What is told so far: whoever is first is open in one, and ends now in the other. -/
structure RelT (t : Int) (i : Nat) (now : Str) (P R : List T_api_Turn) : Prop where
  len : P.length ≤ i ∧ R.length ≤ i
  off : now = [] → P = R ∧ ∀ x, R.getLast? = some x → x.To < t
  on : now ≠ [] → ∃ init f, P = init ++ [⟨now, f, End⟩] ∧ R = init ++ [⟨now, f, t⟩] ∧ f < t
/-- The program's step: c is the first one from t on. -/
def pStep (P : List T_api_Turn) (now c : Str) (t : Int) : Option (List T_api_Turn) :=
  bif (c : Str) == now then (some P) else (bi (bif !((now : Str) == []) then (bi (getZ P (wi ((P.length : Int) - 1))) fun x58 => some (P.set ((wi ((P.length : Int) - 1)).toNat) (⟨x58.Who, x58.From, t⟩ : T_api_Turn))) else (some P)) fun q55 => bif !((c : Str) == []) then (bi (apd q55 [(⟨c, t, 345686400⟩ : T_api_Turn)]) fun y63 => some y63) else (some q55))
theorem turn_step {t t' : Int} {i : Nat} {now : Str} {P R : List T_api_Turn} (h : RelT t i now P R) (hi : i ≤ 100000) (h1 : t < t') (c : Str) :
    ∃ P' R', pStep P now c t = some P' ∧ m_laneref1_addTurn R c t t' = some R' ∧ RelT t' (i + 1) c P' R' := by
  obtain ⟨⟨hlP, hlR⟩, hoff, hon⟩ := h
  have wl : ∀ (a : List T_api_Turn) (x : T_api_Turn), a.length ≤ 100000 → wi (((a ++ [x]).length : Int) - 1) = (a.length : Int) := fun a x ha => by
    rw [wi_id (by simp <;> omega) (by simp <;> omega)]; simp
  have ht : decide (t ≥ t') = false := decide_eq_false (by omega)
  have hlast : ∀ (a : List T_api_Turn) (x : T_api_Turn), a.length ≤ 100000 → getZ (a ++ [x]) (wi (((a ++ [x]).length : Int) - 1)) = some x := fun a x ha => by
    rw [wl a x ha, getZ_cast, get_snoc]
  have hpos2 : ∀ (a : List T_api_Turn) (x : T_api_Turn), decide (((a ++ [x]).length : Int) > 0) = true := fun a x => decide_eq_true (by simp <;> omega)
  unfold pStep m_laneref1_addTurn
  rw [ht]
  by_cases hn : now = []
  · obtain ⟨rfl, hl⟩ := hoff hn
    subst hn
    by_cases hc : c = []
    · subst hc
      refine ⟨P, P, rfl, rfl, ⟨by omega, by omega⟩, fun _ => ⟨rfl, fun x hx => ?_⟩, fun h => absurd rfl h⟩
      have := hl x hx
      omega
    · have e : ((c : Str) == []) = false := by simpa using hc
      have hap : ∀ z : T_api_Turn, apd P [z] = some (P ++ [z]) := fun z => apd_some (by simp; omega)
      have e0 : (([] : Str) == ([] : Str)) = true := rfl
      simp only [e, e0, cond_false, Bool.not_true, Bool.not_false, cond_true, Bool.or_false, hap, bi_some]
      have hm : ∃ q, (bif decide ((P.length : Int) > 0) then (bi (getZ P (wi ((P.length : Int) - 1))) fun x6 => some ((x6.Who : Str) == c)) else (some false)) = some q ∧ (q = true → ∃ a x, P = a ++ [x] ∧ a.length ≤ 100000) := by
        by_cases hP : P = []
        · subst hP; exact ⟨false, rfl, fun h => by cases h⟩
        · obtain ⟨a, x, rfl⟩ := last_of hP
          have ha : a.length ≤ 100000 := by simp at hlP; omega
          rw [hpos2, hlast a x ha]
          exact ⟨_, rfl, fun _ => ⟨a, x, rfl, ha⟩⟩
      obtain ⟨q, hq1, hq2⟩ := hm
      rw [hq1]
      simp only [bi_some]
      have hf : (bif q then (bi (getZ P (wi ((P.length : Int) - 1))) fun x13 => some ((x13.To : Int) == t)) else (some false)) = some false := by
        cases q with
        | false => rfl
        | true =>
          obtain ⟨a, x, rfl, ha⟩ := hq2 rfl
          rw [hlast a x ha]
          have := hl x (by simp)
          have e : ((x.To : Int) == t) = false := by simp only [beq_eq_false_iff_ne, ne_eq]; omega
          simp only [cond_true, bi_some, e]
      rw [hf]
      exact ⟨_, _, rfl, rfl, ⟨by simp; omega, by simp; omega⟩, fun h => absurd h hc, fun _ => ⟨P, t, rfl, rfl, h1⟩⟩
  · obtain ⟨a, f, rfl, rfl, hf⟩ := hon hn
    have ha : a.length ≤ 100000 := by simp at hlP; omega
    have hla : a.length + 1 ≤ i := by simpa using hlP
    have en : ((now : Str) == []) = false := by simpa using hn
    by_cases hcn : c = now
    · subst hcn
      simp only [beq_self_eq_true, cond_true, en, Bool.or_false, cond_false, bi_some, hpos2, hlast a ⟨c, f, t⟩ ha, wl a _ ha, Int.toNat_natCast, set_snoc, getZ_cast, get_snoc]
      exact ⟨_, _, rfl, rfl, ⟨by simp; omega, by simp; omega⟩, fun h => absurd h hn, fun _ => ⟨a, f, rfl, rfl, by omega⟩⟩
    · have e1 : ((now : Str) == c) = false := by simpa using Ne.symm hcn
      have e1' : ((c : Str) == now) = false := by simpa using hcn
      simp only [e1', en, Bool.not_false, cond_true, cond_false, bi_some, hlast a ⟨now, f, End⟩ ha, wl a _ ha, Int.toNat_natCast, set_snoc, hpos2, hlast a ⟨now, f, t⟩ ha, getZ_cast, get_snoc, e1]
      by_cases hc : c = []
      · subst hc
        refine ⟨_, _, rfl, rfl, ⟨by simp; omega, by simp; omega⟩, fun _ => ⟨rfl, fun x hx => ?_⟩, fun h => absurd rfl h⟩
        simp at hx
        subst hx
        exact h1
      · have e : ((c : Str) == []) = false := by simpa using hc
        have hap : ∀ z : T_api_Turn, apd (a ++ [⟨now, f, t⟩]) [z] = some (a ++ [⟨now, f, t⟩] ++ [z]) := fun z => apd_some (by simp; omega)
        simp only [e, cond_false, cond_true, Bool.not_false, Bool.or_false, hap, bi_some]
        exact ⟨_, _, rfl, rfl, ⟨by simp; omega, by simp; omega⟩, fun h => absurd h hc, fun _ => ⟨a ++ [⟨now, f, t⟩], t, rfl, rfl, h1⟩⟩
/-- At the end both tell the same. -/
theorem RelT.done {i : Nat} {now : Str} {P R : List T_api_Turn} (h : RelT End i now P R) : P = R := by
  by_cases hn : now = []
  · exact (h.off hn).1
  · obtain ⟨a, f, rfl, rfl, _⟩ := h.on hn; rfl
end Go.Gk
