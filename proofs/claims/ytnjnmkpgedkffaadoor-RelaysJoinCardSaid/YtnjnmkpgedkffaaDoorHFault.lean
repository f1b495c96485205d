/-
  The plain law: faults, two ways; who is used at a moment.
-/
import Derived.Test.YtnjnmkpgedkffaaDoorHTurns
set_option linter.unusedVariables false
set_option linter.unusedSimpArgs false
set_option linter.unusedSectionVars false
set_option maxRecDepth 100000
namespace Go.Gk
/-! ### Faults -/
theorem or_ok (l : List Int) : m_cmp_Or_api_Errno l = some ((l.find? fun x => x != 0).getD 0) := by
  unfold m_cmp_Or_api_Errno
  have key : ∀ (l : List Int) (i : Nat), rangeM (σ := Unit) (ρ := Int) (fun i1 x3 s2 => bif (x3 : Int) != 0 then (bi (some x3) fun v => some (.out v)) else (some (.go ()))) i l () = some (match l.find? fun x => x != 0 with | some x => .out x | none => .go ()) := by
    intro l
    induction l with
    | nil => intro i; rfl
    | cons x l ih =>
      intro i
      simp only [rangeM, List.find?_cons]
      cases hx : (x != 0) with
      | true => rfl
      | false => exact ih (i + 1)
  rw [key]
  cases l.find? fun x => x != 0 <;> rfl
theorem who_ok (l : List T_api_Turn) (t : Int) : ∃ w, m_route_whoAt l t = some w ∧ m_laneref1_turnAt l t = some w := by
  have h : ∃ w, m_route_whoAt l t = some w := by
    unfold m_route_whoAt
    obtain ⟨r, hr⟩ := rangeM_ex (f := fun i1 (x3 : T_api_Turn) (s2 : Unit) => bif ((decide ((x3.From : Int) ≤ t)) && (decide ((t : Int) < x3.To))) then (bi (some x3.Who) fun v => some (LS.out v)) else (some (.go ()))) l 0 (fun j x _ _ => by
      cases ((decide ((x.From : Int) ≤ t)) && (decide ((t : Int) < x.To))) <;> exact ⟨_, rfl⟩)
    rw [hr]
    cases r <;> exact ⟨_, rfl⟩
  obtain ⟨w, hw⟩ := h
  exact ⟨w, hw, hw⟩
theorem gain_two (g : Int) : ∃ c : Bool, m_route_gainFault g = some (bif c then 1 else 0) ∧ m_laneref1_GainFault g = some (bif c then 1 else 0) := by
  obtain ⟨og, g1, g2⟩ := outside_in g 0 1000000
  refine ⟨og, ?_, ?_⟩
  · unfold m_route_gainFault; rw [g1]; cases og <;> rfl
  · unfold m_laneref1_GainFault; rw [g2]; cases og <;> rfl
theorem momF_ok (t : Int) : ∃ c : Bool, m_laneref1_MomentFault t = some (bif c then 1 else 0) ∧ m_kit_IsMoment t = some (!c) := by
  obtain ⟨h1, h2⟩ := moment_two t
  refine ⟨!(decide (t ≥ 0) && decide (t < 345686400)), ?_, by rw [h1, Bool.not_not]⟩
  unfold m_laneref1_MomentFault; rw [h2]; cases (decide (t ≥ 0) && decide (t < 345686400)) <;> rfl
theorem keyF_ok (x : Str) (b : Bool) (h : m_laneref2_Key x = some b) : m_laneref1_KeyFault x = some (bif b then 0 else 5) := by
  unfold m_laneref1_KeyFault m_laneref1_keyFault; rw [h]; cases b <;> rfl
end Go.Gk
