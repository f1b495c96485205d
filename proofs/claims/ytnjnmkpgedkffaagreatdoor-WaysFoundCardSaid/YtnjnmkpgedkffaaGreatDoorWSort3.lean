/-
  The plain laws of routers: the library's stable sort of few routers.
-/
import Derived.Test.YtnjnmkpgedkffaaGreatDoorWSort2
set_option linter.unusedVariables false
set_option linter.unusedSimpArgs false
set_option linter.unusedSectionVars false
set_option maxRecDepth 100000
namespace Go.Gk
theorem cmp2_ok (x y : Rt) : m_laneref1_FirstTurns_1 x y = some (cmpI y.Weight x.Weight) := by unfold m_laneref1_FirstTurns_1; rw [cmpInt_ok]; rfl
theorem insSort2_ok (x : List Rt) (hl : x.length ≤ 19) : ∃ m, m_slices_insertionSortCmpFunc_api_Router_2 400 x 0 (x.length : Int) = some m ∧ m.Pairwise (fun x y => y.Weight ≤ x.Weight) ∧ m.length = x.length ∧ Eqw m x := by
  cases x with
  | nil => exact ⟨[], rfl, List.Pairwise.nil, rfl, Eqw.refl _⟩
  | cons q C =>
    obtain ⟨m, m1, m2, m3, m4⟩ := ins_outer (cmp := m_laneref1_FirstTurns_1) cmp2_ok (fun _ => rfl) (q :: C).length (by omega) 400 (by decide) (fun _ => rfl) 400 [q] C (List.pairwise_singleton _ _) rfl (by simp at hl; omega)
    refine ⟨m, ?_, m2, m3, by simpa using m4⟩
    unfold m_slices_insertionSortCmpFunc_api_Router_2
    have m1' := m1
    simp only [List.singleton_append, List.length_singleton] at m1'
    rw [show wi (0 + 1) = ((1 : Nat) : Int) from rfl, m1']
    rfl
theorem sort2_ok (x : List Rt) (hl : x.length ≤ 19) : ∃ m, m_slices_SortStableFunc_api_Router_api_Router_2 400 x = some m ∧ m.Pairwise (fun x y => y.Weight ≤ x.Weight) ∧ m.length = x.length ∧ Eqw m x := by
  obtain ⟨m, h1, h2, h3, h4⟩ := insSort2_ok x hl
  refine ⟨m, ?_, h2, h3, h4⟩
  unfold m_slices_SortStableFunc_api_Router_api_Router_2 m_slices_stableCmpFunc_api_Router_2
  have e : (bi (loopM (σ := (List T_api_Router) × Int × Int) (ρ := (List T_api_Router) × Int) (fun s2 => bif decide ((s2.2.2 : Int) ≤ (x.length : Int)) then (bi (m_slices_insertionSortCmpFunc_api_Router_2 400 s2.1 s2.2.1 s2.2.2) fun y12 => gd (decide (y12.length = s2.1.length)) (some (.go (y12, s2.2.2, wi (s2.2.2 + 20))))) else (some (.out (s2.1, s2.2.1)))) 400 (x, 0, 20)) fun q4 => some q4) = some (x, 0) := by
    refine bi_loop_out (k := 399) (x, 0) ?_ rfl
    simp only
    rw [decide_eq_false (show ¬ (20 : Int) ≤ (x.length : Int) by omega)]
    rfl
  obtain ⟨q, e1, e2⟩ := bi_ok e
  cases e2
  rw [e1]
  simp only [bi_some, h1, h3, decide_true, gd_true]
  have e3 : ∀ g : Unit → Option (List T_api_Router), g () = some m → bi (loopM (σ := Int) (ρ := Unit) (fun s22 => bif decide ((s22 : Int) < (x.length : Int)) then (bi (loopM (σ := Unit) (ρ := Unit) (fun s33 => bif decide ((wi (2 * s22) : Int) ≤ (x.length : Int)) then none else (some (.out ()))) 400 ()) fun q35 => bif decide ((wi (0 + s22) : Int) < (x.length : Int)) then none else (some (.go (wi (s22 * 2))))) else (some (.out ()))) 400 20) g = some m := fun g hg => by
    refine bi_loop_out (k := 399) () ?_ hg
    rw [decide_eq_false (show ¬ (20 : Int) < (x.length : Int) by omega)]
    rfl
  rw [e3 _ rfl]
  rfl
theorem cmp3_ok (x y : Rt) : m_laneref1_ExitsAt_1 x y = some (cmpI y.Weight x.Weight) := by unfold m_laneref1_ExitsAt_1; rw [cmpInt_ok]; rfl
theorem insSort3_ok (x : List Rt) (hl : x.length ≤ 19) : ∃ m, m_slices_insertionSortCmpFunc_api_Router_3 400 x 0 (x.length : Int) = some m ∧ m.Pairwise (fun x y => y.Weight ≤ x.Weight) ∧ m.length = x.length ∧ Eqw m x := by
  cases x with
  | nil => exact ⟨[], rfl, List.Pairwise.nil, rfl, Eqw.refl _⟩
  | cons q C =>
    obtain ⟨m, m1, m2, m3, m4⟩ := ins_outer (cmp := m_laneref1_ExitsAt_1) cmp3_ok (fun _ => rfl) (q :: C).length (by omega) 400 (by decide) (fun _ => rfl) 400 [q] C (List.pairwise_singleton _ _) rfl (by simp at hl; omega)
    refine ⟨m, ?_, m2, m3, by simpa using m4⟩
    unfold m_slices_insertionSortCmpFunc_api_Router_3
    have m1' := m1
    simp only [List.singleton_append, List.length_singleton] at m1'
    rw [show wi (0 + 1) = ((1 : Nat) : Int) from rfl, m1']
    rfl
theorem sort3_ok (x : List Rt) (hl : x.length ≤ 19) : ∃ m, m_slices_SortStableFunc_api_Router_api_Router_3 400 x = some m ∧ m.Pairwise (fun x y => y.Weight ≤ x.Weight) ∧ m.length = x.length ∧ Eqw m x := by
  obtain ⟨m, h1, h2, h3, h4⟩ := insSort3_ok x hl
  refine ⟨m, ?_, h2, h3, h4⟩
  unfold m_slices_SortStableFunc_api_Router_api_Router_3 m_slices_stableCmpFunc_api_Router_3
  have e : (bi (loopM (σ := (List T_api_Router) × Int × Int) (ρ := (List T_api_Router) × Int) (fun s2 => bif decide ((s2.2.2 : Int) ≤ (x.length : Int)) then (bi (m_slices_insertionSortCmpFunc_api_Router_3 400 s2.1 s2.2.1 s2.2.2) fun y12 => gd (decide (y12.length = s2.1.length)) (some (.go (y12, s2.2.2, wi (s2.2.2 + 20))))) else (some (.out (s2.1, s2.2.1)))) 400 (x, 0, 20)) fun q4 => some q4) = some (x, 0) := by
    refine bi_loop_out (k := 399) (x, 0) ?_ rfl
    simp only
    rw [decide_eq_false (show ¬ (20 : Int) ≤ (x.length : Int) by omega)]
    rfl
  obtain ⟨q, e1, e2⟩ := bi_ok e
  cases e2
  rw [e1]
  simp only [bi_some, h1, h3, decide_true, gd_true]
  have e3 : ∀ g : Unit → Option (List T_api_Router), g () = some m → bi (loopM (σ := Int) (ρ := Unit) (fun s22 => bif decide ((s22 : Int) < (x.length : Int)) then (bi (loopM (σ := Unit) (ρ := Unit) (fun s33 => bif decide ((wi (2 * s22) : Int) ≤ (x.length : Int)) then none else (some (.out ()))) 400 ()) fun q35 => bif decide ((wi (0 + s22) : Int) < (x.length : Int)) then none else (some (.go (wi (s22 * 2))))) else (some (.out ()))) 400 20) g = some m := fun g hg => by
    refine bi_loop_out (k := 399) () ?_ hg
    rw [decide_eq_false (show ¬ (20 : Int) < (x.length : Int) by omega)]
    rfl
  rw [e3 _ rfl]
  rfl
theorem cmp1_ok (x y : Rt) : m_route_Exits_2 x y = some (cmpI y.Weight x.Weight) := by unfold m_route_Exits_2; rw [cmpInt_ok]; rfl
theorem insSort1_ok (x : List Rt) (hl : x.length ≤ 19) : ∃ m, m_slices_insertionSortCmpFunc_api_Router 400 x 0 (x.length : Int) = some m ∧ m.Pairwise (fun x y => y.Weight ≤ x.Weight) ∧ m.length = x.length ∧ Eqw m x := by
  cases x with
  | nil => exact ⟨[], rfl, List.Pairwise.nil, rfl, Eqw.refl _⟩
  | cons q C =>
    obtain ⟨m, m1, m2, m3, m4⟩ := ins_outer (cmp := m_route_Exits_2) cmp1_ok (fun _ => rfl) (q :: C).length (by omega) 400 (by decide) (fun _ => rfl) 400 [q] C (List.pairwise_singleton _ _) rfl (by simp at hl; omega)
    refine ⟨m, ?_, m2, m3, by simpa using m4⟩
    unfold m_slices_insertionSortCmpFunc_api_Router
    have m1' := m1
    simp only [List.singleton_append, List.length_singleton] at m1'
    rw [show wi (0 + 1) = ((1 : Nat) : Int) from rfl, m1']
    rfl
theorem sort1_ok (x : List Rt) (hl : x.length ≤ 19) : ∃ m, m_slices_SortStableFunc_api_Router_api_Router 400 x = some m ∧ m.Pairwise (fun x y => y.Weight ≤ x.Weight) ∧ m.length = x.length ∧ Eqw m x := by
  obtain ⟨m, h1, h2, h3, h4⟩ := insSort1_ok x hl
  refine ⟨m, ?_, h2, h3, h4⟩
  unfold m_slices_SortStableFunc_api_Router_api_Router m_slices_stableCmpFunc_api_Router
  have e : (bi (loopM (σ := (List T_api_Router) × Int × Int) (ρ := (List T_api_Router) × Int) (fun s2 => bif decide ((s2.2.2 : Int) ≤ (x.length : Int)) then (bi (m_slices_insertionSortCmpFunc_api_Router 400 s2.1 s2.2.1 s2.2.2) fun y12 => gd (decide (y12.length = s2.1.length)) (some (.go (y12, s2.2.2, wi (s2.2.2 + 20))))) else (some (.out (s2.1, s2.2.1)))) 400 (x, 0, 20)) fun q4 => some q4) = some (x, 0) := by
    refine bi_loop_out (k := 399) (x, 0) ?_ rfl
    simp only
    rw [decide_eq_false (show ¬ (20 : Int) ≤ (x.length : Int) by omega)]
    rfl
  obtain ⟨q, e1, e2⟩ := bi_ok e
  cases e2
  rw [e1]
  simp only [bi_some, h1, h3, decide_true, gd_true]
  have e3 : ∀ g : Unit → Option (List T_api_Router), g () = some m → bi (loopM (σ := Int) (ρ := Unit) (fun s22 => bif decide ((s22 : Int) < (x.length : Int)) then (bi (loopM (σ := Unit) (ρ := Unit) (fun s33 => bif decide ((wi (2 * s22) : Int) ≤ (x.length : Int)) then none else (some (.out ()))) 400 ()) fun q35 => bif decide ((wi (0 + s22) : Int) < (x.length : Int)) then none else (some (.go (wi (s22 * 2))))) else (some (.out ()))) 400 20) g = some m := fun g hg => by
    refine bi_loop_out (k := 399) () ?_ hg
    rw [decide_eq_false (show ¬ (20 : Int) < (x.length : Int) by omega)]
    rfl
  rw [e3 _ rfl]
  rfl
end Go.Gk
