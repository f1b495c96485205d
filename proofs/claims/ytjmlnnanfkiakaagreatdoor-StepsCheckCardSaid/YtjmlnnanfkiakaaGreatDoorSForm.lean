/-
  The plain law: a step by itself, two ways.
-/
import Derived.Test.YtjmlnnanfkiakaaGreatDoorSKeys
set_option linter.unusedVariables false
set_option linter.unusedSimpArgs false
set_option linter.unusedSectionVars false
set_option maxRecDepth 100000
namespace Go.Gk
theorem rf98 (s : T_api_Step) : m_laneref1_fieldFault s 98 = m_laneref1_keyFault s.By := by
  unfold m_laneref1_fieldFault
  show bi (bi (m_laneref1_keyFault s.By) fun y13 => bi (some y13) fun v => some (.inr v)) (fun q => orI q fun a3 => some 0) = _
  cases m_laneref1_keyFault s.By <;> rfl
theorem rf110 (s : T_api_Step) : m_laneref1_fieldFault s 110 = m_laneref1_keyFault s.Node := by
  unfold m_laneref1_fieldFault
  show bi (bi (m_laneref1_keyFault s.Node) fun y13 => bi (some y13) fun v => some (.inr v)) (fun q => orI q fun a3 => some 0) = _
  cases m_laneref1_keyFault s.Node <;> rfl
theorem rf106 (s : T_api_Step) : m_laneref1_fieldFault s 106 = m_laneref1_keyFault s.Join := by
  unfold m_laneref1_fieldFault
  show bi (bi (m_laneref1_keyFault s.Join) fun y13 => bi (some y13) fun v => some (.inr v)) (fun q => orI q fun a3 => some 0) = _
  cases m_laneref1_keyFault s.Join <;> rfl
theorem rf109 (s : T_api_Step) : m_laneref1_fieldFault s 109 = m_laneref1_keyFault s.Name := by
  unfold m_laneref1_fieldFault
  show bi (bi (m_laneref1_keyFault s.Name) fun y13 => bi (some y13) fun v => some (.inr v)) (fun q => orI q fun a3 => some 0) = _
  cases m_laneref1_keyFault s.Name <;> rfl
theorem rf66 (s : T_api_Step) : m_laneref1_fieldFault s 66 = bif !(s.By == []) then m_laneref1_keyFault s.By else some 0 := by
  unfold m_laneref1_fieldFault
  show bi (bif !(s.By == []) then (bi (m_laneref1_keyFault s.By) fun y24 => bi (some y24) fun v => some (.inr v)) else (some (.inl ()))) (fun q => orI q fun a3 => some 0) = _
  cases (s.By == []) <;> cases m_laneref1_keyFault s.By <;> rfl
theorem rf74 (s : T_api_Step) : m_laneref1_fieldFault s 74 = bif !(s.Join == []) then m_laneref1_keyFault s.Join else some 0 := by
  unfold m_laneref1_fieldFault
  show bi (bif !(s.Join == []) then (bi (m_laneref1_keyFault s.Join) fun y24 => bi (some y24) fun v => some (.inr v)) else (some (.inl ()))) (fun q => orI q fun a3 => some 0) = _
  cases (s.Join == []) <;> cases m_laneref1_keyFault s.Join <;> rfl
theorem rf112 (s : T_api_Step) {b : Bool} (h : m_laneref1_PublicForm s.Public = some b) : m_laneref1_fieldFault s 112 = some (bif b then 0 else 5) := by
  unfold m_laneref1_fieldFault
  rw [h]
  cases b <;> rfl
theorem rf116 (s : T_api_Step) {e : Int} (h : m_laneref1_rising s.Tags = some e) (hl : s.Tags.length ≤ 10) : m_laneref1_fieldFault s 116 = some e := by
  unfold m_laneref1_fieldFault
  rw [h, decide_eq_false (show ¬ ((s.Tags.length : Int) > 10) by omega)]
  rfl
theorem rf117 (s : T_api_Step) : m_laneref1_fieldFault s 117 = some (bif !(decide (0 ≤ s.Until) && decide (s.Until ≤ 999999999)) then 1 else 0) := by
  unfold m_laneref1_fieldFault
  show bi (bif !(decide (0 ≤ s.Until) && decide (s.Until ≤ 999999999)) then (bi (some 1) fun v => some (.inr v)) else (some (.inl ()))) (fun q => orI q fun a3 => some 0) = _
  cases (decide (0 ≤ s.Until) && decide (s.Until ≤ 999999999)) <;> rfl
theorem rf115 (s : T_api_Step) : m_laneref1_fieldFault s 115 = some (bif !(decide (0 ≤ s.Uses) && decide (s.Uses ≤ 999999999)) then 1 else 0) := by
  unfold m_laneref1_fieldFault
  show bi (bif !(decide (0 ≤ s.Uses) && decide (s.Uses ≤ 999999999)) then (bi (some 1) fun v => some (.inr v)) else (some (.inl ()))) (fun q => orI q fun a3 => some 0) = _
  cases (decide (0 ≤ s.Uses) && decide (s.Uses ≤ 999999999)) <;> rfl
theorem rf114 (s : T_api_Step) : m_laneref1_fieldFault s 114 = some 0 := by
  unfold m_laneref1_fieldFault
  rfl
theorem rk_ok {x : Str} {b : Bool} (h : m_laneref2_Key x = some b) : m_laneref1_keyFault x = some (bif b then 0 else 5) := by
  unfold m_laneref1_keyFault; rw [h]; cases b <;> rfl
theorem pk_ok {x : Str} {b e : Bool} (h : m_kit_IsKey 400 x = some b) : m_node_keyFault 400 x e = some (bif b || (e && (x == [])) then 0 else 5) := by
  unfold m_node_keyFault; rw [h]; cases b <;> cases e <;> cases (x == []) <;> rfl
theorem pf0 (s : T_api_Step) {b : Bool} (h : m_kit_IsKey 400 s.By = some b) : m_node_fieldFault 400 s 0 = some (bif b || ((s.Kind == 3) && (s.By == [])) then 0 else 5) := by
  unfold m_node_fieldFault; rw [pk_ok h]; rfl
theorem pf1 (s : T_api_Step) {b : Bool} (h : m_kit_IsKey 400 s.Node = some b) : m_node_fieldFault 400 s 1 = some (bif b then 0 else 5) := by
  unfold m_node_fieldFault; rw [pk_ok h]; cases b <;> rfl
theorem pf2 (s : T_api_Step) {b : Bool} (h : m_kit_IsKey 400 s.Join = some b) : m_node_fieldFault 400 s 2 = some (bif b || ((s.Kind == 3) && (s.Join == [])) then 0 else 5) := by
  unfold m_node_fieldFault; rw [pk_ok h]; rfl
theorem pf3 (s : T_api_Step) {b : Bool} (h : m_node_isPublic s.Public = some b) : m_node_fieldFault 400 s 3 = some (bif b then 0 else 5) := by
  unfold m_node_fieldFault; rw [h]; cases b <;> rfl
theorem pf4 (s : T_api_Step) {b : Bool} (h : m_kit_IsKey 400 s.Name = some b) : m_node_fieldFault 400 s 4 = some (bif b then 0 else 5) := by
  unfold m_node_fieldFault; rw [pk_ok h]; cases b <;> rfl
theorem pf5 (s : T_api_Step) {e : Int} (h : m_kit_RisingFault 400 s.Tags = some e) (hl : s.Tags.length ≤ 10) : m_node_fieldFault 400 s 5 = some e := by
  have : m_node_tagsFault 400 s.Tags = some e := by
    unfold m_node_tagsFault
    rw [h, decide_eq_false (show ¬ ((s.Tags.length : Int) > 10) by omega)]
    rfl
  unfold m_node_fieldFault; rw [this]; rfl
theorem pnum (n : Int) : m_node_numberFault n = some (bif !(decide (0 ≤ n) && decide (n ≤ 999999999)) then 1 else 0) := by
  unfold m_node_numberFault m_kit_Outside
  by_cases h1 : 0 ≤ n <;> by_cases h2 : n ≤ 999999999 <;> simp [h1, h2, bi_some, show (n < 0) = ¬ (0 ≤ n) from by simp, show (n > 999999999) = ¬ (n ≤ 999999999) from by simp]
theorem pf6 (s : T_api_Step) : m_node_fieldFault 400 s 6 = some (bif !(decide (0 ≤ s.Until) && decide (s.Until ≤ 999999999)) then 1 else 0) := by
  unfold m_node_fieldFault; rw [pnum s.Until]; rfl
theorem pf7 (s : T_api_Step) : m_node_fieldFault 400 s 7 = some (bif !(decide (0 ≤ s.Uses) && decide (s.Uses ≤ 999999999)) then 1 else 0) := by
  unfold m_node_fieldFault; rw [pnum s.Uses]; rfl
theorem pf8 (s : T_api_Step) : m_node_fieldFault 400 s 8 = some 0 := by
  unfold m_node_fieldFault; rfl
theorem rangePM_any {α σ ρ : Type} {f : α → σ → Option (LS σ ρ)} (bad : α → Bool) (v : ρ) (s : σ) (m : List α) (hf : ∀ x ∈ m, f x s = some (bif bad x then .out v else .go s)) : rangePM f m s = some (bif m.any bad then .out v else .go s) := by
  refine rangePM_some.2 fun m' hp => ?_
  rw [← hp.any_eq]
  have hf' : ∀ x ∈ m', f x s = some (bif bad x then .out v else .go s) := fun x hx => hf x (hp.mem_iff.1 hx)
  clear hp hf
  induction m' with
  | nil => rfl
  | cons x m' ih =>
    simp only [rangeLM, hf' x List.mem_cons_self, List.any_cons]
    cases bad x with
    | true => rfl
    | false => exact ih fun y hy => hf' y (List.mem_cons_of_mem _ hy)
end Go.Gk
