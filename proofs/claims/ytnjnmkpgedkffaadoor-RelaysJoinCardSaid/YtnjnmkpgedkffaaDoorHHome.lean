/-
  The plain law: the homes of a node, two ways.
-/
import Derived.Test.YtnjnmkpgedkffaaDoorHHist
set_option linter.unusedVariables false
set_option linter.unusedSimpArgs false
set_option linter.unusedSectionVars false
set_option maxRecDepth 100000
namespace Go.Gk
/-! ### Handles in plain lists -/
theorem hGet_new {α : Type} (l : List (Nat × α)) (n : Nat) (x : α) : hGet ((n, x) :: l) (n + 1) = some x := by simp [hGet]
theorem hGet_cons {α : Type} (l : List (Nat × α)) (n : Nat) (x : α) (h : Nat) (hn : h ≠ n + 1) : hGet ((n, x) :: l) h = hGet l h := by
  cases h with
  | zero => rfl
  | succ t =>
    have : (t == n) = false := by simp; omega
    simp [hGet, List.find?_cons, this]
theorem hGet_set {α : Type} (l : List (Nat × α)) (h h' : Nat) (x y : α) (hy : hGet l h = some y) : hGet (hSet l h x) h' = if h' = h then some x else hGet l h' := by
  obtain ⟨t, i, rfl, h1, h2⟩ := hGet_idx hy
  have hset : hSet l (t + 1) x = l.set i (t, x) := by simp only [hSet, h1]
  rw [hset]
  cases h' with
  | zero => rw [if_neg (by omega)]; rfl
  | succ s =>
    have e := mGet_set (K := Int) (V := α) [] 0 x 0
    clear e
    have key : ∀ (l : List (Nat × α)) (i : Nat), l.findIdx? (fun e => t == e.1) = some i → ((l.set i (t, x)).find? fun e => s == e.1).map (·.2) = if s = t then some x else (l.find? fun e => s == e.1).map (·.2) := by
      intro l
      induction l with
      | nil => intro i h; simp at h
      | cons e l ih =>
        intro i h
        rw [List.findIdx?_cons] at h
        by_cases ht : t = e.1
        · have h0 : (t == e.1) = true := by simpa using ht
          rw [h0] at h
          simp only [if_true, Option.some.injEq] at h
          subst h
          simp only [List.set_cons_zero, List.find?_cons]
          by_cases hs : s = t
          · subst hs; simp
          · have e1 : (s == t) = false := by simpa using hs
            have e2 : (s == e.1) = false := by rw [← ht]; exact e1
            simp only [e1, e2, if_neg hs]
        · have h0 : (t == e.1) = false := by simpa using ht
          rw [h0] at h
          simp only [Bool.false_eq_true, if_false, Option.map_eq_some_iff] at h
          obtain ⟨j, hj, rfl⟩ := h
          simp only [List.set_cons_succ, List.find?_cons]
          by_cases hs : s = e.1
          · have e1 : (s == e.1) = true := by simpa using hs
            simp only [e1]
            rw [if_neg (by rw [hs]; exact Ne.symm ht)]
          · have e1 : (s == e.1) = false := by simpa using hs
            simp only [e1]
            exact ih j hj
    have := key l i h1
    simp only [hGet]
    rw [this]
    by_cases hs : s = t
    · subst hs; simp
    · rw [if_neg hs, if_neg (by omega)]

abbrev ownP (l : List T_api_Probe) (node : Str) : List T_api_Probe := l.filter fun x => x.Node == node
abbrev at' (own : List T_api_Probe) (t : Int) : List T_api_Probe := own.filter fun x => x.At == t
noncomputable def nwH (own : List T_api_Probe) (gain : Int) : Nat → Str
  | 0 => []
  | i + 1 => nxt (ans (at' own (tt (mos own) i))) gain (nwH own gain i)

theorem delP_ok (l : List T_api_Probe) (node : Str) (hl : l.length ≤ 37) : m_slices_DeleteFunc_api_Probe_api_Probe 400 l node = some (ownP l node) := by
  have h1 : ∀ x ∈ l, m_route_homes_1 x node = some (!(x.Node == node)) := fun x _ => rfl
  have hix : m_slices_IndexFunc_api_Probe_api_Probe l node = some (ixZ (fun x => !(x.Node == node)) l) := by
    unfold m_slices_IndexFunc_api_Probe_api_Probe
    rw [decide_eq_true (show (l.length : Int) ≤ 9223372036854775807 by omega), gd_true, bi_rangeI_ix (fun x : T_api_Probe => !(x.Node == node)) l]
    intro j x hx
    simp only [getZ_cast, hx, bi_some, h1 x (List.mem_of_getElem? hx)]
    cases (x.Node == node) <;> rfl
  unfold m_slices_DeleteFunc_api_Probe_api_Probe
  rw [hix]
  simp only [bi_some]
  rw [del_ok (fun x : T_api_Probe => !(x.Node == node)) (fun x => m_route_homes_1 x node) l 400 h1 (by omega) (by omega)]
  simp

/-- THE PROGRAM. -/
theorem homes_ok (l : List T_api_Probe) (gain : Int) (node : Str) (hl : l.length ≤ 37) (hv : ValidP l) : m_route_homes 400 l gain node = some (PRh (mos (ownP l node)) (nwH (ownP l node) gain) (mos (ownP l node)).length).1 := by
  have hso : (ownP l node).Pairwise fun x y => x.At ≤ y.At := hv.2.sublist List.filter_sublist
  have hvo : ∀ x ∈ ownP l node, 0 ≤ x.At ∧ x.At < End ∧ x.Relay ≠ [] := fun x hx => hv.1 x (List.mem_filter.1 hx).1
  have hlo : (ownP l node).length ≤ 37 := Nat.le_trans (List.length_filter_le _ _) hl
  unfold m_route_homes
  have hcl : m_slices_Clone_api_Probe_api_Probe l = some l := by unfold m_slices_Clone_api_Probe_api_Probe; rw [apd_some (by simp; omega)]; rfl
  rw [hcl]
  simp only [bi_some]
  rw [delP_ok l node hl]
  simp only [bi_some]
  generalize ownP l node = own at hso hvo hlo
  have hTs := mos_up _ own rfl hso
  have hTE : ∀ t ∈ mos own, t < End := fun t ht => by obtain ⟨x, hx, rfl⟩ := (mos_in own t).1 ht; exact (hvo x hx).2.1
  have hTl : (mos own).length ≤ 37 := Nat.le_trans (mos_len own) hlo
  have hget : ∀ {p q : Nat} {x y : T_api_Probe}, p ≤ q → own[p]? = some x → own[q]? = some y → x.At ≤ y.At := fun {p q x y} hpq hx hy => by
    rcases Nat.eq_or_lt_of_le hpq with rfl | h
    · rw [hx] at hy; cases hy; exact Int.le_refl _
    · exact pw_ne hso h hx hy
  generalize hT : mos own = T at hTs hTE hTl
  have hH := hist_ok T hTs hTE (by omega) (nwH own gain) rfl
  have hmem : ∀ t, t ∈ T ↔ ∃ x ∈ own, x.At = t := fun t => by rw [← hT]; exact mos_in own t
  suffices h : Ok (loopM (σ := (List T_api_Turn) × Str × Int) (ρ := List T_api_Turn) _ 400 (([] : List T_api_Turn), [], 0)) fun q => q = (PRh T (nwH own gain) T.length).1 by
    obtain ⟨r, h1, h2⟩ := h
    rw [h1, ← h2]; rfl
  refine ok_loopM (fun s => ∃ j i : Nat, s = ((PRh T (nwH own gain) j).1, nwH own gain j, (i : Int)) ∧ j ≤ T.length ∧ i ≤ own.length ∧ (∀ p x, p < i → own[p]? = some x → x.At ∈ T.take j) ∧ (∀ p x, i ≤ p → own[p]? = some x → x.At ∉ T.take j)) (fun s => own.length - s.2.2.toNat) _
    ⟨0, 0, rfl, Nat.zero_le _, Nat.zero_le _, fun p x h => absurd h (Nat.not_lt_zero _), fun p x _ _ => by simp⟩ (by show own.length - _ < _; omega) ?_
  rintro s ⟨j, i, rfl, hj, hi, hlo', hhi⟩
  simp only
  by_cases hin : i < own.length
  · rw [decide_eq_true (show (i : Int) < (own.length : Int) by omega)]
    simp only [cond_true]
    have hx := List.getElem?_eq_getElem hin
    refine ok_get rfl hx ?_
    -- the moment
    have hxT : own[i].At ∈ T := (hmem _).2 ⟨_, List.getElem_mem hin, rfl⟩
    have hxn := hhi i _ (Nat.le_refl _) hx
    obtain ⟨m, hm, hmx⟩ := List.getElem_of_mem hxT
    have hjm : j ≤ m := Nat.le_of_not_lt fun h => hxn (by rw [List.mem_take_iff_getElem]; exact ⟨m, by omega, hmx⟩)
    have hjT : j < T.length := by omega
    have htj : own[i].At = tt T j := by
      have h1 := tt_get hjT
      obtain ⟨y, hy, hyt⟩ := (hmem (tt T j)).1 (List.mem_of_getElem? h1)
      obtain ⟨p, hp, rfl⟩ := List.getElem_of_mem hy
      have hpi : i ≤ p := Nat.le_of_not_lt fun h => by
        have h2 := hlo' p _ h (List.getElem?_eq_getElem hp)
        rw [hyt, List.mem_take_iff_getElem] at h2
        obtain ⟨q, hq, e⟩ := h2
        have := pw_ne hTs (show q < j by omega) (List.getElem?_eq_getElem (by omega)) h1
        omega
      have h3 := hget hpi hx (List.getElem?_eq_getElem hp)
      rw [hyt] at h3
      rcases Nat.eq_or_lt_of_le hjm with rfl | h
      · rw [List.getElem?_eq_getElem hm] at h1
        rw [← hmx]; exact Option.some.inj h1
      · have := pw_ne hTs h h1 (List.getElem?_eq_getElem hm)
        omega
    -- what answers
    refine ok_bi (P := fun q => ∃ i2 : Nat, q = (ans (at' own (tt T j)), (i2 : Int)) ∧ i < i2 ∧ i2 ≤ own.length ∧ (∀ p x, i ≤ p → p < i2 → own[p]? = some x → x.At = tt T j) ∧ (∀ p x, i2 ≤ p → own[p]? = some x → tt T j < x.At)) ?_ ?_
    · refine ok_loopM (fun s => ∃ i2 : Nat, s = (ans ((own.take i2).drop i), (i2 : Int)) ∧ i ≤ i2 ∧ i2 ≤ own.length ∧ ∀ p x, i ≤ p → p < i2 → own[p]? = some x → x.At = tt T j) (fun s => own.length - s.2.toNat) _
        ⟨i, by rw [List.drop_eq_nil_of_le (by simp; omega)]; rfl, Nat.le_refl _, hi, fun p x h1 h2 => absurd h2 (by omega)⟩ (by show own.length - _ < _; omega) ?_
      rintro s ⟨i2, rfl, h1, h2, h3⟩
      simp only
      have hfin : (∀ p x, i2 ≤ p → own[p]? = some x → tt T j < x.At) → ans ((own.take i2).drop i) = ans (at' own (tt T j)) := fun hq => by
        congr 1
        have e : own = own.take i ++ ((own.take i2).drop i ++ own.drop i2) := by
          have e1 : own.take i2 = own.take i ++ (own.take i2).drop i := by
            have := (List.take_append_drop i (own.take i2)).symm
            rw [List.take_take, Nat.min_eq_left h1] at this
            exact this
          rw [← List.append_assoc, ← e1, List.take_append_drop]
        have g1 : (own.take i).filter (fun x => x.At == tt T j) = [] := List.filter_eq_nil_iff.2 fun x hx' => by
          obtain ⟨p, hp, rfl⟩ := List.getElem_of_mem hx'
          rw [List.length_take] at hp
          have h4 := hlo' p _ (by omega) (List.getElem?_eq_getElem (show p < own.length by omega))
          rw [List.getElem_take]
          simp only [beq_iff_eq]
          intro e1
          rw [← htj] at e1
          rw [e1] at h4
          exact hxn h4
        have g2 : (own.drop i2).filter (fun x => x.At == tt T j) = [] := List.filter_eq_nil_iff.2 fun x hx' => by
          obtain ⟨p, hp, rfl⟩ := List.getElem_of_mem hx'
          rw [List.length_drop] at hp
          rw [List.getElem_drop]
          have := hq (i2 + p) _ (by omega) (List.getElem?_eq_getElem (by omega))
          simp only [beq_iff_eq]
          omega
        have g3 : ((own.take i2).drop i).filter (fun x => x.At == tt T j) = (own.take i2).drop i := List.filter_eq_self.2 fun x hx' => by
          obtain ⟨p, hp, rfl⟩ := List.getElem_of_mem hx'
          rw [List.length_drop, List.length_take] at hp
          rw [List.getElem_drop, List.getElem_take]
          have := h3 (i + p) _ (by omega) (by omega) (List.getElem?_eq_getElem (by omega))
          simpa using this
        show _ = own.filter (fun x => x.At == tt T j)
        conv => rhs; rw [e]
        rw [List.filter_append, List.filter_append, g1, g2, g3]
        simp
      have hlast : ∀ (_ : i < i2) (hq : ∀ p x, i2 ≤ p → own[p]? = some x → tt T j < x.At), ∃ i3 : Nat, (ans ((own.take i2).drop i), (i2 : Int)) = (ans (at' own (tt T j)), (i3 : Int)) ∧ i < i3 ∧ i3 ≤ own.length ∧ (∀ p x, i ≤ p → p < i3 → own[p]? = some x → x.At = tt T j) ∧ (∀ p x, i3 ≤ p → own[p]? = some x → tt T j < x.At) := fun h hq =>
        ⟨i2, by rw [hfin hq], h, h2, h3, hq⟩
      by_cases hi2 : i2 < own.length
      · rw [decide_eq_true (show (i2 : Int) < (own.length : Int) by omega)]
        have hy := List.getElem?_eq_getElem hi2
        simp only [cond_true, getZ_cast, hy, bi_some]
        refine ok_bif (fun he => ?_) (fun he => ?_)
        · have he' : own[i2].At = tt T j := by rw [← htj]; simpa using he
          have hw : wi ((i2 : Int) + 1) = ((i2 + 1 : Nat) : Int) := by rw [wi_id (by omega) (by omega)]; omega
          have hans : ans ((own.take (i2 + 1)).drop i) = addA (ans ((own.take i2).drop i)) own[i2] := by
            rw [← ans_snoc, List.take_add_one, hy, Option.toList_some, List.drop_append, List.length_take]
            rw [show i - min i2 own.length = 0 by omega]
            rfl
          have hI : ∃ i3 : Nat, (addA (ans ((own.take i2).drop i)) own[i2], wi ((i2 : Int) + 1)) = (ans ((own.take i3).drop i), (i3 : Int)) ∧ i ≤ i3 ∧ i3 ≤ own.length ∧ ∀ p x, i ≤ p → p < i3 → own[p]? = some x → x.At = tt T j :=
            ⟨i2 + 1, by rw [hw, hans], by omega, hi2, fun p x h4 h5 h6 => by
              by_cases e : p = i2
              · subst e; rw [hy] at h6; cases h6; exact he'
              · exact h3 p x h4 (by omega) h6⟩
          have hμ : own.length - (wi ((i2 : Int) + 1)).toNat < own.length - (i2 : Int).toNat := by rw [hw]; omega
          unfold addA at hI
          cases hM : decide (own[i2].Millis ≥ 0) with
          | true => rw [hM] at hI; exact ok_some ⟨hI, hμ⟩
          | false => rw [hM] at hI; exact ok_some ⟨hI, hμ⟩
        · have hne : own[i2].At ≠ tt T j := by rw [← htj]; simpa using he
          have hge : tt T j ≤ own[i2].At := by rw [← htj]; exact hget h1 hx hy
          have hii : i < i2 := by
            rcases Nat.eq_or_lt_of_le h1 with rfl | h
            · exact absurd htj hne
            · exact h
          exact ok_some (hlast hii fun p x h4 h5 => by have := hget h4 hy h5; omega)
      · rw [decide_eq_false (show ¬ (i2 : Int) < (own.length : Int) by omega)]
        simp only [cond_false, bi_some]
        exact ok_some (hlast (by omega) fun p x h4 h5 => by have := (List.getElem?_eq_some_iff.1 h5).1; omega)
    · rintro q ⟨i2, rfl, h1, h2, h3, h4⟩
      obtain ⟨gs, gk⟩ := ans_ok (at' own (tt T j)) fun x hx' => (hvo x (List.mem_filter.1 hx').1).2.2
      have hnw : nwH own gain (j + 1) = nxt (ans (at' own (tt T j))) gain (nwH own gain j) := by rw [nwH, hT]
      obtain ⟨n1, _⟩ := nxt_ok _ gs gk (nwH own gain j) gain
      have hI : ∃ j' i' : Nat, ((PRh T (nwH own gain) (j + 1)).1, nwH own gain (j + 1), (i2 : Int)) = ((PRh T (nwH own gain) j').1, nwH own gain j', (i' : Int)) ∧ j' ≤ T.length ∧ i' ≤ own.length ∧ (∀ p x, p < i' → own[p]? = some x → x.At ∈ T.take j') ∧ (∀ p x, i' ≤ p → own[p]? = some x → x.At ∉ T.take j') := by
        refine ⟨j + 1, i2, rfl, hjT, h2, fun p x hp hpx => ?_, fun p x hp hpx => ?_⟩
        · rw [List.take_add_one, tt_get hjT]
          by_cases hpi : p < i
          · exact List.mem_append_left _ (hlo' p x hpi hpx)
          · exact List.mem_append_right _ (by simp [h3 p x (by omega) hp hpx])
        · rw [List.take_add_one, tt_get hjT]
          intro hm'
          rcases List.mem_append.1 hm' with hm' | hm'
          · exact hhi p x (by omega) hpx hm'
          · have := h4 p x hp hpx
            simp at hm'
            omega
      have hμ : own.length - (i2 : Int).toNat < own.length - (i : Int).toNat := by omega
      simp only
      by_cases hG : ans (at' own (tt T j)) = []
      · have hnn : nwH own gain (j + 1) = nwH own gain j := by rw [hnw, nxt, if_pos hG]
        have hbs := begins_same (hH j hj).1 (by omega) (by have := hTE _ (List.mem_of_getElem? (tt_get hjT)); omega)
        have hb2 := ((hH (j + 1) hjT).2 j (Nat.lt_succ_self j)).1
        rw [hnn] at hb2
        rw [hbs] at hb2
        have hP : (PRh T (nwH own gain) (j + 1)).1 = (PRh T (nwH own gain) j).1 := (Option.some.inj hb2).symm
        rw [hP, hnn] at hI
        rw [hG]
        exact ok_some ⟨hI, hμ⟩
      · have e : (((ans (at' own (tt T j))).length : Int) == 0) = false := by
          simp only [beq_eq_false_iff_ne, ne_eq]
          exact fun h => hG (List.eq_nil_of_length_eq_zero (by omega))
        rw [e, n1 hG, ← hnw, htj]
        simp only [cond_false, bi_some]
        rw [((hH (j + 1) hjT).2 j (Nat.lt_succ_self j)).1]
        exact ok_some ⟨hI, hμ⟩
  · rw [decide_eq_false (show ¬ (i : Int) < (own.length : Int) by omega)]
    refine ok_some ?_
    have : j = T.length := by
      refine Nat.le_antisymm hj (Nat.le_of_not_lt fun h => ?_)
      have h1 := tt_get h
      obtain ⟨y, hy, hyt⟩ := (hmem (tt T j)).1 (List.mem_of_getElem? h1)
      obtain ⟨p, hp, rfl⟩ := List.getElem_of_mem hy
      have h2 := hlo' p _ (by omega) (List.getElem?_eq_getElem hp)
      rw [hyt, List.mem_take_iff_getElem] at h2
      obtain ⟨q, hq, e⟩ := h2
      have := pw_ne hTs (show q < j by omega) (List.getElem?_eq_getElem (by omega)) h1
      omega
    rw [this]
end Go.Gk
