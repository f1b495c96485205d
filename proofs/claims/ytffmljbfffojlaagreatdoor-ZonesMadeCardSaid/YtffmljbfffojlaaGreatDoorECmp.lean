/-
  The order of records: a sort by it gives one list.
-/
import Derived.Test.YtffmljbfffojlaaGreatDoorEZone
import Derived.Test.YtffmljbfffojlaaGreatDoorEStab5
set_option linter.unusedVariables false
set_option linter.unusedSimpArgs false
set_option linter.unusedSectionVars false
set_option maxRecDepth 100000
namespace Go.Gk
open Go.Sort
section
variable {α β : Type}
/-- A comparison in the manner of Go's: an order of what need not be one. -/
structure Pre (c : α → α → Int) : Prop where
  anti : ∀ x y, c x y < 0 ↔ 0 < c y x
  tr : ∀ x y z, c x y ≤ 0 → c y z ≤ 0 → c x z ≤ 0
theorem Pre.on {c : β → β → Int} (h : Pre c) (f : α → β) : Pre fun x y => c (f x) (f y) := ⟨fun x y => h.anti _ _, fun x y z => h.tr _ _ _⟩
theorem Pre.lex {c d : α → α → Int} (hc : Pre c) (hd : Pre d) : Pre fun x y => if c x y = 0 then d x y else c x y := by
  constructor
  · intro x y
    have h1 := hc.anti x y; have h2 := hc.anti y x; have h3 := hd.anti x y
    by_cases h : c x y = 0
    · rw [if_pos h, if_pos (by omega)]; exact h3
    · rw [if_neg h, if_neg (by omega)]; exact h1
  · intro x y z a b
    have h1 := hc.anti x y; have h2 := hc.anti y x; have h3 := hc.anti y z; have h4 := hc.anti z y; have h5 := hc.anti x z; have h6 := hc.anti z x
    have e1 : c x y ≤ 0 := by
      by_cases h : c x y = 0
      · omega
      · rwa [if_neg h] at a
    have e2 : c y z ≤ 0 := by
      by_cases h : c y z = 0
      · omega
      · rwa [if_neg h] at b
    have e3 := hc.tr x y z e1 e2
    by_cases h : c x z = 0
    · rw [if_pos h]
      have k1 := hc.tr z x y (by omega) e1
      have k2 := hc.tr y z x e2 (by omega)
      rw [if_pos (show c x y = 0 by omega)] at a
      rw [if_pos (show c y z = 0 by omega)] at b
      exact hd.tr x y z a b
    · rw [if_neg h]; exact e3
theorem Pre.zero : Pre fun (x y : α) => 0 := ⟨fun _ _ => by omega, fun _ _ _ _ _ => by omega⟩
theorem Pre.int : Pre cmpI := by
  constructor
  · intro x y
    unfold cmpI
    repeat' split
    all_goals omega
  · intro x y z h1 h2
    unfold cmpI at *
    repeat' split at h1
    all_goals repeat' split at h2
    all_goals repeat' split
    all_goals omega
theorem cb_sign : ∀ a b : Str, Lib.compareBytes a b < 0 ↔ 0 < Lib.compareBytes b a
  | [], [] => by simp [Lib.compareBytes]
  | [], _ :: _ => by simp [Lib.compareBytes]
  | _ :: _, [] => by simp [Lib.compareBytes]
  | x :: a, y :: b => by
    have ih := cb_sign a b
    simp only [Lib.compareBytes, UInt8.lt_iff_toNat_lt]
    by_cases h1 : x.toNat < y.toNat
    · rw [if_pos h1, if_neg (by omega), if_pos h1]; omega
    · by_cases h2 : y.toNat < x.toNat
      · rw [if_neg h1, if_pos h2, if_pos h2]; omega
      · rw [if_neg h1, if_neg h2, if_neg h2, if_neg h1]; exact ih
theorem Pre.str : Pre Lib.compareBytes := ⟨cb_sign, cb_trans⟩
theorem Pre.swo {c : α → α → Int} (h : Pre c) {cmp : α → α → Option Int} (hc : ∀ x y, cmp x y = some (c x y)) : CmpOk cmp := by
  have e : ∀ x y, ltO cmp x y = decide (c x y < 0) := fun x y => by unfold ltO; rw [hc]; rfl
  refine ⟨fun x y => ⟨_, hc x y⟩, ⟨fun x => ?_, fun x y z h1 h2 => ?_, fun x y z h1 h2 => ?_⟩⟩
  · rw [e]; have := h.anti x x; exact decide_eq_false (by omega)
  · rw [e, decide_eq_true_eq] at h1 h2 ⊢
    have k := h.tr x y z (by omega) (by omega)
    have a1 := h.anti x z; have a2 := h.anti z x; have a3 := h.anti y z
    by_cases h0 : c x z = 0
    · have k2 := h.tr z x y (by omega) (by omega); omega
    · omega
  · rw [e, decide_eq_false_iff_not] at h1 h2 ⊢
    have a1 := h.anti x y; have a2 := h.anti y z; have a3 := h.anti x z
    have := h.tr z y x (by omega) (by omega)
    omega
end
def orL : List Int → Int
  | [] => 0
  | x :: l => if x = 0 then orL l else x
theorem orL_ok : ∀ (l : List Int), m_cmp_Or_int l = some (orL l) := by
  intro l
  unfold m_cmp_Or_int
  have key : ∀ (l : List Int) (i : Nat), rangeM (σ := Unit) (ρ := Int) (fun i1 x3 s2 => bif (x3 : Int) != 0 then (bi (some x3) fun v => some (.out v)) else (some (.go ()))) i l () = some (if orL l = 0 then .go () else .out (orL l)) := by
    intro l
    induction l with
    | nil => intro i; rfl
    | cons x l ih =>
      intro i
      unfold orL
      simp only [rangeM]
      by_cases h : x = 0
      · subst h; simpa using ih (i + 1)
      · rw [show (x != 0) = true by simpa using h]
        simp [h, bi]
  rw [key]
  by_cases h : orL l = 0
  · rw [if_pos h, h]; rfl
  · rw [if_neg h]; rfl
def recC (a b : T_api_Record) : Int := orL [Lib.compareBytes a.Name b.Name, cmpI a.Kind b.Kind, cmpI a.Addr.Hi b.Addr.Hi, cmpI a.Addr.Lo b.Addr.Lo, Lib.compareBytes a.To b.To, Lib.compareBytes a.Words b.Words]
theorem rec_ok (a b : T_api_Record) : m_laneref1_recordOrder a b = some (recC a b) := by
  unfold m_laneref1_recordOrder recC
  have hc : ∀ s t : Str, m_strings_Compare s t = some (Lib.compareBytes s t) := fun _ _ => rfl
  simp only [hc, bi_some, cmpInt_ok, cmpU_ok, orL_ok]
theorem rec_eq : m_name_compareRecords = m_laneref1_recordOrder := rfl
theorem rec_pre : Pre recC := by
  have := ((Pre.str.on T_api_Record.Name).lex ((Pre.int.on T_api_Record.Kind).lex ((Pre.int.on fun r : T_api_Record => r.Addr.Hi).lex ((Pre.int.on fun r : T_api_Record => r.Addr.Lo).lex ((Pre.str.on T_api_Record.To).lex ((Pre.str.on T_api_Record.Words).lex (Pre.zero (α := T_api_Record))))))))
  exact this
theorem rec_cmp : CmpOk m_laneref1_recordOrder := rec_pre.swo rec_ok
theorem cmpI_zero {x y : Int} (h : cmpI x y = 0) : x = y := by
  unfold cmpI at h
  repeat' split at h
  all_goals omega
theorem cb_zero {a b : Str} (h : Lib.compareBytes a b = 0) : a = b := by
  have := cb_sign a b; have := cb_sign b a
  exact cb_anti a b (by omega) (by omega)
theorem recC_zero {a b : T_api_Record} (h : recC a b = 0) : a.Name = b.Name ∧ a.Kind = b.Kind ∧ a.Addr.Hi = b.Addr.Hi ∧ a.Addr.Lo = b.Addr.Lo ∧ a.To = b.To ∧ a.Words = b.Words := by
  unfold recC at h
  simp only [orL] at h
  by_cases h1 : Lib.compareBytes a.Name b.Name = 0
  · rw [if_pos h1] at h
    by_cases h2 : cmpI a.Kind b.Kind = 0
    · rw [if_pos h2] at h
      by_cases h3 : cmpI a.Addr.Hi b.Addr.Hi = 0
      · rw [if_pos h3] at h
        by_cases h4 : cmpI a.Addr.Lo b.Addr.Lo = 0
        · rw [if_pos h4] at h
          by_cases h5 : Lib.compareBytes a.To b.To = 0
          · rw [if_pos h5] at h
            by_cases h6 : Lib.compareBytes a.Words b.Words = 0
            · exact ⟨cb_zero h1, cmpI_zero h2, cmpI_zero h3, cmpI_zero h4, cb_zero h5, cb_zero h6⟩
            · rw [if_neg h6] at h; exact absurd h h6
          · rw [if_neg h5] at h; exact absurd h h5
        · rw [if_neg h4] at h; exact absurd h h4
      · rw [if_neg h3] at h; exact absurd h h3
    · rw [if_neg h2] at h; exact absurd h h2
  · rw [if_neg h1] at h; exact absurd h h1
/-! ### The two sorts -/
theorem symMerge_eq : ∀ k, m_slices_symMergeCmpFunc_api_Record k = gSym m_laneref1_recordOrder k
  | 0 => by funext data a m b; rfl
  | k + 1 => by
    have ih := symMerge_eq k
    funext data a m b
    unfold m_slices_symMergeCmpFunc_api_Record gSym
    rw [ih]
    rfl
theorem bi_id {α : Type} (x : Option α) : (bi x fun y => some y) = x := by cases x <;> rfl
theorem stableM_eq (k : Nat) (x : List T_api_Record) : m_slices_SortStableFunc_api_Record_api_Record k x = gStable m_laneref1_recordOrder k x (x.length : Int) := by
  unfold m_slices_SortStableFunc_api_Record_api_Record
  rw [bi_id]
  unfold m_slices_stableCmpFunc_api_Record
  rw [symMerge_eq]
  rfl
/-- Records of one kind of life: equal where the order sees no difference. -/
def OneLife (life : Int) (r : T_api_Record) : Prop := r.Life = life ∧ (r.Kind = 28 ∧ r.Addr.Six = true ∨ r.Kind = 1 ∧ r.Addr.Six = false ∨ r.Kind = 12 ∧ r.Addr.Six = false)
theorem tie_one {life : Int} {a b : T_api_Record} (ha : OneLife life a) (hb : OneLife life b) (h1 : ltO m_laneref1_recordOrder a b = false) (h2 : ltO m_laneref1_recordOrder b a = false) : a = b := by
  unfold ltO at h1 h2
  rw [rec_ok, Option.getD_some, decide_eq_false_iff_not] at h1 h2
  have h3 := rec_pre.anti a b; have h4 := rec_pre.anti b a
  obtain ⟨e1, e2, e3, e4, e5, e6⟩ := recC_zero (show recC a b = 0 by omega)
  obtain ⟨l1, s1⟩ := ha
  obtain ⟨l2, s2⟩ := hb
  have e7 : a.Addr.Six = b.Addr.Six := by
    rcases s1 with ⟨k1, k2⟩ | ⟨k1, k2⟩ | ⟨k1, k2⟩ <;> rcases s2 with ⟨k3, k4⟩ | ⟨k3, k4⟩ | ⟨k3, k4⟩ <;> first | omega | rw [k2, k4]
  cases a with
  | mk n k ad t w li =>
    cases b with
    | mk n' k' ad' t' w' li' =>
      cases ad; cases ad'
      simp only at *
      subst e1; subst e2; subst e3; subst e4; subst e5; subst e6; subst e7; subst l1; subst l2
      rfl
theorem sorts_ok {life : Int} {l : List T_api_Record} (h : ∀ r ∈ l, OneLife life r) (hl : l.length < 40) :
    ∃ r, m_slices_SortFunc_api_Record_api_Record l = some r ∧ m_slices_SortStableFunc_api_Record_api_Record 400 l = some r ∧ r.Perm l := by
  obtain ⟨r, h1, h2, h3, h4⟩ := stable_sortF rec_cmp 400 l (by decide) hl fun x hx y hy h1 h2 => tie_one (h x hx) (h y hy) h1 h2
  exact ⟨r, h2, by rw [stableM_eq]; exact h1, h4⟩
end Go.Gk
