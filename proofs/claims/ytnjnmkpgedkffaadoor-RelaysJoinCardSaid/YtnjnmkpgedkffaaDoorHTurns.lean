/-
  The plain law: the homes of a node by the reference; both agree.
-/
import Derived.Test.YtnjnmkpgedkffaaDoorHHome
set_option linter.unusedVariables false
set_option linter.unusedSimpArgs false
set_option linter.unusedSectionVars false
set_option maxRecDepth 100000
namespace Go.Gk
/-- What the reference knows behind some probes: the rounds, by handles. -/
structure RefI (own : List T_api_Probe) (al : BagT) (rounds : List (Int × Nat)) (moments : List Int) : Prop where
  ms : moments = mos own
  no : ∀ t, t ∉ mos own → mGet rounds t = none
  yes : ∀ t, t ∈ mos own → ∃ h, mGet rounds t = some h ∧ 0 < h ∧ h ≤ al.1.length ∧ hGet al.2 h = some (ans (at' own t))
  one : ∀ t t' h, mGet rounds t = some h → mGet rounds t' = some h → t = t'
theorem RefI.getD {own : List T_api_Probe} {al : BagT} {rounds : List (Int × Nat)} {moments : List Int} (h : RefI own al rounds moments) (t : Int) (ht : t ∈ mos own) :
    hGet al.2 ((mGet rounds t).getD 0) = some (ans (at' own t)) := by
  obtain ⟨x, h1, _, _, h2⟩ := h.yes t ht
  rw [h1]; exact h2
theorem RefI.step {own : List T_api_Probe} {al : BagT} {rounds : List (Int × Nat)} {moments : List Int} (h : RefI own al rounds moments) (x : T_api_Probe) (hl : own.length ≤ 1000) :
    Ok (bi (bif (((mGet rounds x.At).getD 0) == 0) then (bi (apd moments [x.At]) fun y17 => some (((al.1 ++ [false]), ((al.1.length, ([] : List (Str × Int))) :: al.2)), (mSet rounds x.At (al.1.length + 1)), y17)) else (some (al, rounds, moments))) fun q14 =>
      bif decide ((x.Millis : Int) ≥ 0) then (bi (hGet q14.1.2 ((mGet q14.2.1 x.At).getD 0)) fun m21 => some ((q14.1.1, (hSet q14.1.2 ((mGet q14.2.1 x.At).getD 0) (mSet m21 x.Relay x.Millis))), q14.2.1, q14.2.2)) else (some (q14.1, q14.2.1, q14.2.2)))
      fun q => RefI (own ++ [x]) q.1 q.2.1 q.2.2 := by
  -- a round that is there
  have hmid : Ok (bif (((mGet rounds x.At).getD 0) == 0) then (bi (apd moments [x.At]) fun y17 => some (((al.1 ++ [false]), ((al.1.length, ([] : List (Str × Int))) :: al.2)), (mSet rounds x.At (al.1.length + 1)), y17)) else (some (al, rounds, moments)))
      fun q => q.2.2 = mos (own ++ [x]) ∧ (∀ t, t ∉ mos (own ++ [x]) → mGet q.2.1 t = none) ∧ (∀ t, t ∈ mos (own ++ [x]) → ∃ h, mGet q.2.1 t = some h ∧ 0 < h ∧ h ≤ q.1.1.length ∧ hGet q.1.2 h = some (ans (at' own t))) ∧ (∀ t t' h, mGet q.2.1 t = some h → mGet q.2.1 t' = some h → t = t') := by
    by_cases hx : x.At ∈ mos own
    · obtain ⟨hh, h1, h2, _⟩ := h.yes x.At hx
      have e : (((mGet rounds x.At).getD 0) == 0) = false := by rw [h1]; simp; omega
      have hm : mos (own ++ [x]) = mos own := by rw [mos_snoc]; simp [hx]
      rw [e, hm]
      exact ok_some ⟨h.ms, h.no, h.yes, h.one⟩
    · have e : (((mGet rounds x.At).getD 0) == 0) = true := by rw [h.no x.At hx]; rfl
      have hm : mos (own ++ [x]) = mos own ++ [x.At] := by rw [mos_snoc]; simp [hx]
      rw [e, hm]
      simp only [cond_true]
      have hml := mos_len own
      refine ok_app (by rw [h.ms]; simp; omega) (ok_some ⟨by rw [h.ms], fun t ht => ?_, fun t ht => ?_, fun t t' hh k1 k2 => ?_⟩)
      · simp only [List.mem_append, List.mem_singleton, not_or] at ht
        have : (t == x.At) = false := by simpa using ht.2
        simp [mGet_set, this, h.no t ht.1]
      · by_cases hts : t = x.At
        · subst hts
          refine ⟨al.1.length + 1, by simp [mGet_set], by omega, by simp, ?_⟩
          rw [hGet_new]
          have : at' own x.At = [] := List.filter_eq_nil_iff.2 fun y hy => by
            simp only [beq_iff_eq]
            exact fun e1 => hx ((mos_in own x.At).2 ⟨y, hy, e1⟩)
          rw [this]; rfl
        · have ht' : t ∈ mos own := by
            rcases List.mem_append.1 ht with ht | ht
            · exact ht
            · exact absurd (by simpa using ht) hts
          obtain ⟨hh, k1, k2, k3, k4⟩ := h.yes t ht'
          have : (t == x.At) = false := by simpa using hts
          refine ⟨hh, by simp [mGet_set, this, k1], k2, by simp; omega, ?_⟩
          rw [hGet_cons _ _ _ _ (by omega)]; exact k4
      · have key : ∀ s, mGet rounds s = some hh → hh ≤ al.1.length := fun s hs => by
          by_cases hsm : s ∈ mos own
          · obtain ⟨h', e1, _, e2, _⟩ := h.yes s hsm
            rw [hs] at e1; cases e1; exact e2
          · rw [h.no s hsm] at hs; cases hs
        simp only [mGet_set] at k1 k2
        by_cases h1 : t = x.At
        · by_cases h2 : t' = x.At
          · rw [h1, h2]
          · have e2 : (t' == x.At) = false := by simpa using h2
            have e1 : (t == x.At) = true := by simpa using h1
            rw [e1] at k1; rw [e2] at k2
            simp only [if_true, Option.some.injEq, Bool.false_eq_true, if_false] at k1 k2
            have := key t' k2; omega
        · have e1 : (t == x.At) = false := by simpa using h1
          rw [e1] at k1
          simp only [Bool.false_eq_true, if_false] at k1
          by_cases h2 : t' = x.At
          · have e2 : (t' == x.At) = true := by simpa using h2
            rw [e2] at k2
            simp only [if_true, Option.some.injEq] at k2
            have := key t k1; omega
          · have e2 : (t' == x.At) = false := by simpa using h2
            rw [e2] at k2
            simp only [Bool.false_eq_true, if_false] at k2
            exact h.one t t' hh k1 k2
  refine ok_bi hmid ?_
  rintro ⟨al', rounds', moments'⟩ ⟨h1, h2, h3, h4⟩
  simp only at h1 h2 h3 h4 ⊢
  have hxm : x.At ∈ mos (own ++ [x]) := (mos_in _ _).2 ⟨x, by simp, rfl⟩
  obtain ⟨hh, g1, g2, g3, g4⟩ := h3 x.At hxm
  have hat : ∀ t, t ≠ x.At → at' (own ++ [x]) t = at' own t := fun t ht => by
    have : (x.At == t) = false := by simpa using Ne.symm ht
    simp [at', List.filter_append, List.filter_cons, this]
  have hatx : at' (own ++ [x]) x.At = at' own x.At ++ [x] := by simp [at', List.filter_append, List.filter_cons]
  cases hM : decide (x.Millis ≥ 0) with
  | true =>
    rw [g1]
    simp only [cond_true, Option.getD_some, g4, bi_some]
    refine ok_some ⟨h1, h2, fun t ht => ?_, h4⟩
    obtain ⟨ht', k1, k2, k3, k4⟩ := h3 t ht
    refine ⟨ht', k1, k2, k3, ?_⟩
    show hGet (hSet al'.2 hh _) ht' = _
    rw [hGet_set _ _ _ _ _ g4]
    by_cases e : t = x.At
    · subst e
      rw [g1] at k1; cases k1
      rw [if_pos rfl, hatx, ans_snoc, addA, hM]; rfl
    · rw [if_neg (fun e2 => e (h4 t x.At hh (by rw [k1, e2]) g1)), hat t e]; exact k4
  | false =>
    simp only [cond_false]
    refine ok_some ⟨h1, h2, fun t ht => ?_, h4⟩
    obtain ⟨ht', k1, k2, k3, k4⟩ := h3 t ht
    refine ⟨ht', k1, k2, k3, ?_⟩
    by_cases e : t = x.At
    · subst e
      rw [hatx, ans_snoc, addA, hM]; exact k4
    · rw [hat t e]; exact k4
/-- THE REFERENCE. -/
theorem turns_ok (l : List T_api_Probe) (gain : Int) (node : Str) (hl : l.length ≤ 37) (hv : ValidP l) (al : BagT) :
    Ok (m_laneref1_HomeTurns l gain node al) fun q => q.1 = (PRh (mos (ownP l node)) (nwH (ownP l node) gain) (mos (ownP l node)).length).1 := by
  have hso : (ownP l node).Pairwise fun x y => x.At ≤ y.At := hv.2.sublist List.filter_sublist
  have hvo : ∀ x ∈ ownP l node, 0 ≤ x.At ∧ x.At < End ∧ x.Relay ≠ [] := fun x hx => hv.1 x (List.mem_filter.1 hx).1
  have hlo : (ownP l node).length ≤ 37 := Nat.le_trans (List.length_filter_le _ _) hl
  unfold m_laneref1_HomeTurns
  refine ok_bi (P := fun q => RefI (ownP l node) q.1 q.2.1 q.2.2) ?_ ?_
  · refine ok_mono (ok_rangeF (fun i s => RefI (ownP (l.take i) node) s.1 s.2.1 s.2.2) ⟨rfl, fun t _ => rfl, fun t ht => by simp [mos, ownP] at ht, fun t t' h k => by simp [mGet_nil] at k⟩ ?_) fun r hr => by rw [List.take_length] at hr; exact hr
    rintro i x ⟨al, rounds, moments⟩ hx hI
    simp only at hI
    have htk : l.take (i + 1) = l.take i ++ [x] := by rw [List.take_add_one, hx]; rfl
    cases hn : (x.Node == node) with
    | false =>
      simp only [Bool.not_false, cond_true]
      refine ok_some ?_
      have : ownP (l.take (i + 1)) node = ownP (l.take i) node := by rw [htk]; simp [ownP, List.filter_append, List.filter_cons, hn]
      rw [this]
      exact hI
    | true =>
      simp only [Bool.not_true, cond_false]
      have : ownP (l.take (i + 1)) node = ownP (l.take i) node ++ [x] := by rw [htk]; simp [ownP, List.filter_append, List.filter_cons, hn]
      rw [this]
      refine hI.step x ?_
      have h1 : (ownP (l.take i) node).length ≤ (l.take i).length := List.length_filter_le _ _
      rw [List.length_take] at h1
      omega
  · rintro ⟨al', rounds, moments⟩ hI
    simp only at hI ⊢
    generalize ownP l node = own at hso hvo hlo hI
    have hTs := mos_up _ own rfl hso
    have hTE : ∀ t ∈ mos own, t < End := fun t ht => by obtain ⟨x, hx, rfl⟩ := (mos_in own t).1 ht; exact (hvo x hx).2.1
    have hTl : (mos own).length ≤ 37 := Nat.le_trans (mos_len own) hlo
    have hH := hist_ok (mos own) hTs hTE (by omega) (nwH own gain) rfl
    have hE := hist_end (mos own) hTs hTE (by omega) (nwH own gain) rfl
    have hms := hI.ms
    subst hms
    have hw : wi (((mos own ++ [(345686400 : Int)]).length : Int) - 1) = ((mos own).length : Int) := by rw [wi_id (by simp <;> omega) (by simp <;> omega)]; simp
    refine ok_app (by simp; omega) ?_
    have hsub : subZ (mos own ++ [(345686400 : Int)]) 0 ((mos own).length : Int) = some (mos own) := by
      have := subZ_cast (l := mos own ++ [(345686400 : Int)]) (i := 0) (j := (mos own).length) (Nat.zero_le _) (by simp)
      rw [show ((mos own ++ [(345686400 : Int)]).take (mos own).length).drop 0 = mos own by simp] at this
      exact this
    rw [hw, hsub]
    simp only [bi_some]
    refine ok_bi (ok_rangeF (fun i s => s = ((PRh (mos own) (nwH own gain) i).2, nwH own gain i)) rfl ?_) ?_
    · rintro i t s ht rfl
      have hi : i < (mos own).length := (List.getElem?_eq_some_iff.1 ht).1
      have htt : t = tt (mos own) i := by rw [tt_get hi] at ht; exact (Option.some.inj ht).symm
      have htm : t ∈ mos own := List.mem_of_getElem? ht
      obtain ⟨gs, gk⟩ := ans_ok (at' own t) fun x hx => (hvo x (List.mem_filter.1 hx).1).2.2
      obtain ⟨_, b, b1, b2⟩ := nxt_ok _ gs gk (nwH own gain i) gain
      have hnw : nwH own gain (i + 1) = nxt (ans (at' own t)) gain (nwH own gain i) := by rw [nwH, htt]
      simp only [hI.getD t htm, bi_some, b1]
      refine ok_bi (P := fun c => (bif c then some b else some (nwH own gain i)) = some (nwH own gain (i + 1))) ?_ ?_
      · rw [hnw, ← b2]
        cases hb : ((b : Str) == []) with
        | true => simp only [Bool.not_true, cond_false, bi_some]; exact ok_some rfl
        | false =>
          simp only [Bool.not_false, cond_true]
          cases (mGet (ans (at' own t)) (nwH own gain i)).isSome with
          | true => simp only [cond_true, bi_some]; exact ok_some rfl
          | false => simp only [cond_false, bi_some]; exact ok_some rfl
      · intro c hc
        rw [hc]
        simp only [bi_some]
        have hw2 : wi ((i : Int) + 1) = ((i + 1 : Nat) : Int) := by rw [wi_id (by omega) (by omega)]; omega
        have hnext : (mos own ++ [(345686400 : Int)])[i + 1]? = some (tt (mos own) (i + 1)) := by
          by_cases h : i + 1 < (mos own).length
          · rw [List.getElem?_append_left h]; exact tt_get h
          · have e : i + 1 = (mos own).length := by omega
            rw [e, tt_end]; simp
        rw [hw2, getZ_nn hnext]
        simp only [bi_some]
        have := ((hH (i + 1) hi).2 i (Nat.lt_succ_self i)).2
        rw [htt, this]
        exact ok_some rfl
    · rintro r rfl
      exact ok_some hE.symm
end Go.Gk
