/-
  The plain law, part 3: splits and lists of suffixes.
-/
import Derived.Test.YtjhoahdlehkfaaaDoorPLabel
set_option linter.unusedVariables false
set_option linter.unusedSimpArgs false
set_option maxRecDepth 100000
namespace Go.Gk

theorem rangeM_ex2 {α ρ : Type} {f g : Nat → α → Unit → Option (LS Unit ρ)} : ∀ (l : List α) (i : Nat), (∀ j x, j < i + l.length → x ∈ l → ∃ y, f j x () = some y ∧ g j x () = some y) → ∃ r, rangeM f i l () = some r ∧ rangeM g i l () = some r
  | [], i, _ => ⟨_, rfl, rfl⟩
  | x :: l, i, h => by
    obtain ⟨y, h1, h2⟩ := h i x (by simp) List.mem_cons_self
    simp only [rangeM, h1, h2]
    cases y with
    | out r => exact ⟨_, rfl, rfl⟩
    | go s' => exact rangeM_ex2 l (i + 1) fun j y hj hy => h j y (by simp only [List.length_cons]; omega) (List.mem_cons_of_mem _ hy)

theorem rangeM_ex3 {α ρ : Type} {f g : Nat → α → Unit → Option (LS Unit ρ)} (p : ρ → Prop) : ∀ (l : List α) (i : Nat), (∀ j x, j < i + l.length → x ∈ l → ∃ y, f j x () = some y ∧ g j x () = some y ∧ ∀ v, y = .out v → p v) → ∃ r, rangeM f i l () = some r ∧ rangeM g i l () = some r ∧ ∀ v, r = .out v → p v
  | [], i, _ => ⟨_, rfl, rfl, fun v h => by cases h⟩
  | x :: l, i, h => by
    obtain ⟨y, h1, h2, h3⟩ := h i x (by simp) List.mem_cons_self
    simp only [rangeM, h1, h2]
    cases y with
    | out r => exact ⟨_, rfl, rfl, fun v h => by cases h; exact h3 _ rfl⟩
    | go s' => exact rangeM_ex3 p l (i + 1) fun j y hj hy => h j y (by simp only [List.length_cons]; omega) (List.mem_cons_of_mem _ hy)

/-- What the servers of a split say, to the one and to the other. -/
def restF (S : List Str) : Option (LS Unit Int) := bi (rangeM (σ := Unit) (ρ := LS Unit Int) (fun i45 x47 s46 => bi (m_kit_IsKey 400 x47) fun y56 => bif !y56 then (bi (bi (some 5) fun v => some (.out v)) fun v => some (.out v)) else (bi (subZ S 0 (i45 : Int)) fun z64 => bi (m_slices_Contains_string_string z64 x47) fun y66 => bif y66 then (bi (bi (some 6) fun v => some (.out v)) fun v => some (.out v)) else (some (.go ())))) 0 S ()) fun q => goI q fun a50 => some (.go ())
def restG (S : List Str) : Option (LS Unit Int) := bi (m_slices_ContainsFunc_string_string S) fun y45 => bif y45 then (bi (some 5) fun v => some (.out v)) else (bi (rangeM (σ := Unit) (ρ := LS Unit Int) (fun i51 x53 s52 => bi (subZ S 0 (i51 : Int)) fun z62 => bi (m_slices_Contains_string_string z62 x53) fun y64 => bif y64 then (bi (bi (some 6) fun v => some (.out v)) fun v => some (.out v)) else (some (.go ()))) 0 S ()) fun q => goI q fun a56 => some (.go ()))
theorem rest_tab : ∀ S ∈ srvs, ∃ y, restF S = some y ∧ restG S = some y := by
  intro S hS
  simp only [srvs, List.mem_cons, List.not_mem_nil, or_false] at hS
  rcases hS with rfl | rfl | rfl | rfl | rfl | rfl | rfl | rfl <;> exact ⟨_, rfl, rfl⟩

theorem splitsFault_ok (l : List T_api_Split) (h : okSplits l) (hl : l.length ≤ 5) : ∃ r, m_name_CheckSplits 400 l = some r ∧ m_laneref1_SplitsFault l = some r := by
  unfold m_name_CheckSplits m_laneref1_SplitsFault
  rw [decide_eq_false (show ¬ (l.length : Int) > 50 by omega)]
  simp only [cond_false]
  generalize hf : (fun (i3 : Nat) (x5 : T_api_Split) (s4 : Unit) => _) = f
  generalize hg : (fun (i3 : Nat) (x5 : T_api_Split) (s4 : Unit) => _) = g
  obtain ⟨r, h1, h2⟩ := rangeM_ex2 (f := f) (g := g) l 0 (by
    intro j x hj hx
    obtain ⟨hs, hS⟩ := h x hx
    obtain ⟨y, hF, hG⟩ := rest_tab _ hS
    subst hf; subst hg
    simp only
    unfold restF at hF
    unfold restG at hG
    rw [check_ok 398 _ (by omega), fault_ok _ (by omega), hF, hG]
    have hord : ∃ b, (bif decide (((j : Int) : Int) > 0) then (bi (getZ l (wi ((j : Int) - 1))) fun x30 => some (Op.bytesLess x.Suffix x30.Suffix || (x.Suffix : Str) == x30.Suffix)) else (some false)) = some b := by
      cases hd : decide ((j : Int) > 0) with
      | false => exact ⟨_, rfl⟩
      | true =>
        have hj0 : (j : Int) > 0 := of_decide_eq_true hd
        obtain ⟨z, _, hz⟩ := getZ_in l (r := wi ((j : Int) - 1)) (by rw [wi_id (by omega) (by omega)]; omega) (by rw [wi_id (by omega) (by omega)]; omega)
        rw [hz]
        exact ⟨_, rfl⟩
    obtain ⟨b, hb⟩ := hord
    rw [hb]
    simp only [and_self, bi_some]
    cases (x.Suffix == []) <;> cases (domF x.Suffix != 0) <;> cases b <;> cases ((x.Servers.length : Int) == 0) <;> cases decide ((x.Servers.length : Int) > 10) <;> exact ⟨_, rfl⟩)
  rw [h1, h2]
  cases r <;> exact ⟨_, rfl, rfl⟩

/-! ### Suffixes to be tried -/
theorem searchFault_ok (l : List Str) (dots : Int) (h : ∀ d ∈ l, d.length ≤ 300) (hl : l.length ≤ 10) : ∃ r, m_name_searchFault 400 l dots = some r ∧ m_laneref1_SearchFault l dots = some r := by
  unfold m_name_searchFault m_laneref1_SearchFault m_name_checkDomains
  rw [decide_eq_false (show ¬ (l.length : Int) > 10 by omega)]
  simp only [cond_false]
  generalize hf : (fun (i3 : Nat) (x5 : Str) (s4 : Unit) => _) = f
  generalize hg : (fun (i3 : Nat) (x5 : Str) (s4 : Unit) => _) = g
  obtain ⟨r, h1, h2, h3⟩ := rangeM_ex3 (f := f) (g := g) (fun v => (v != 0) = true) l 0 (by
    intro j x hj hx
    have hs := h x hx
    subst hf; subst hg
    simp only
    rw [check_ok 398 _ (by omega), fault_ok _ (by omega)]
    simp only [bi_some]
    cases hd : (domF x != 0) with
    | true => exact ⟨_, rfl, rfl, fun v e => by cases e; exact hd⟩
    | false => exact ⟨_, rfl, rfl, fun v e => by cases e⟩)
  have ho : ∃ b, m_kit_Outside dots 0 15 = some b ∧ m_laneref1_in dots 0 15 = some (!b) := by
    refine ⟨_, rfl, ?_⟩
    unfold m_laneref1_in
    congr 1
    rw [Bool.eq_iff_iff]
    simp
  obtain ⟨b, o1, o2⟩ := ho
  rw [h1, h2, o1, o2]
  cases r with
  | out r =>
    have := h3 r rfl
    refine ⟨r, ?_, rfl⟩
    simp only [bi_some, goI, this, cond_true]
  | go _ => cases b <;> exact ⟨_, rfl, rfl⟩
end Go.Gk
