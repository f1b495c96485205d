/-
  The plain law: samples, checked two ways; what is used, two ways.
-/
import Derived.Test.YtnjnmkpgedkffaaDoorUTurn
set_option linter.unusedVariables false
set_option linter.unusedSimpArgs false
set_option linter.unusedSectionVars false
set_option maxRecDepth 100000
namespace Go.Gk
def pathT : List Str := [[112], [113], [114], []]
theorem path_tab : ∀ x ∈ pathT, ∃ b, m_kit_IsKey 400 x = some b ∧ m_laneref2_Key x = some b ∧ (b = true → x ≠ []) := by
  intro x hx
  simp only [pathT, List.mem_cons, List.not_mem_nil, or_false] at hx
  rcases hx with rfl | rfl | rfl | rfl <;> exact ⟨_, rfl, rfl, by decide⟩
def okS (l : List T_api_Sample) : Prop := (∀ x ∈ l, x.Path ∈ pathT) ∧ l.length ≤ 30
def Valid (l : List T_api_Sample) : Prop := (∀ x ∈ l, 0 ≤ x.At ∧ x.At < End ∧ x.Path ≠ []) ∧ ∀ (i j : Nat) (x y : T_api_Sample), i < j → l[i]? = some x → l[j]? = some y → x.At ≤ y.At
theorem cmp_or (a b : Int) (s t : Str) : ∃ c, m_cmp_Or_int [cmpI a b, Lib.compareBytes s t] = some c ∧ (c < 0 → a ≤ b) := by
  obtain ⟨c, h1, h2⟩ := orInt_ok (cmpI a b) [Lib.compareBytes s t]
  refine ⟨c, h1, fun hc => ?_⟩
  by_cases h : cmpI a b = 0
  · unfold cmpI at h
    split at h
    · cases h
    · split at h
      · cases h
      · omega
  · rw [h2 h] at hc
    unfold cmpI at hc
    split at hc
    · omega
    · split at hc <;> omega
theorem faults_ok (l : List T_api_Sample) (h : okS l) : ∃ e, m_route_CheckSamples 400 l = some e ∧ m_laneref1_SamplesFault l = some e ∧ (e = 0 → Valid l) := by
  unfold m_route_CheckSamples m_laneref1_SamplesFault
  have hl := h.2
  rw [decide_eq_false (show ¬ (l.length : Int) > 2000 by omega)]
  simp only [cond_false]
  have key := rangeM_two (f := fun i3 x5 s4 => bi (m_kit_IsMoment x5.At) fun y14 => bif !y14 then (bi (some 1) fun v => some (LS.out v)) else (bi (m_kit_IsKey 400 x5.Path) fun y20 => bif !y20 then (bi (some 5) fun v => some (.out v)) else (bi (m_kit_Outside x5.Millis (-1) 1000000) fun y26 => bif y26 then (bi (some 1) fun v => some (.out v)) else (bi (bif decide (((i3 : Int) : Int) > 0) then (bi (getZ l (wi ((i3 : Int) - 1))) fun x35 => bi (m_cmp_Compare_int x35.At x5.At) fun y37 => bi (getZ l (wi ((i3 : Int) - 1))) fun x39 => bi (m_strings_Compare x39.Path x5.Path) fun y41 => bi (m_cmp_Or_int [y37, y41]) fun y43 => some (decide ((y43 : Int) ≥ 0))) else (some false)) fun q32 => bif q32 then (bi (some 7) fun v => some (.out v)) else (some (.go ()))))))
    (g := fun i3 x5 s4 => bi (m_laneref2_Moment x5.At) fun y14 => bif !y14 then (bi (some 1) fun v => some (LS.out v)) else (bi (m_laneref2_Key x5.Path) fun y20 => bif !y20 then (bi (some 5) fun v => some (.out v)) else (bi (m_laneref1_in x5.Millis (-1) 1000000) fun y26 => bif !y26 then (bi (some 1) fun v => some (.out v)) else (bi (bif decide (((i3 : Int) : Int) > 0) then (bi (getZ l (wi ((i3 : Int) - 1))) fun x35 => bi (m_cmp_Compare_int x35.At x5.At) fun y37 => bi (getZ l (wi ((i3 : Int) - 1))) fun x39 => bi (m_strings_Compare x39.Path x5.Path) fun y41 => bi (m_cmp_Or_int [y37, y41]) fun y43 => some (decide ((y43 : Int) ≥ 0))) else (some false)) fun q32 => bif q32 then (bi (some 7) fun v => some (.out v)) else (some (.go ()))))))
    l (fun i (_ _ : Unit) => (∀ j x, j < i → l[j]? = some x → 0 ≤ x.At ∧ x.At < End ∧ x.Path ≠ []) ∧ ∀ (a b : Nat) (x y : T_api_Sample), a < b → b < i → l[a]? = some x → l[b]? = some y → x.At ≤ y.At)
    (fun (r q : Int) => r = q ∧ r ≠ 0) ?_ l 0 () () rfl ⟨fun j x hj => absurd hj (Nat.not_lt_zero _), fun a b x y _ hb => absurd hb (Nat.not_lt_zero _)⟩
  · rcases key with ⟨s', t', e1, e2, h1, h2⟩ | ⟨r, q, e1, e2, rfl, hr⟩
    · rw [e1, e2]
      refine ⟨0, rfl, rfl, fun _ => ⟨fun x hx => ?_, fun i j x y hij hi hj => h2 i j x y hij (by have := (List.getElem?_eq_some_iff.1 hj).1; omega) hi hj⟩⟩
      obtain ⟨j, hj⟩ := List.getElem?_of_mem hx
      exact h1 j x (by have := (List.getElem?_eq_some_iff.1 hj).1; omega) hj
    · rw [e1, e2]
      exact ⟨r, rfl, rfl, fun h0 => absurd h0 hr⟩
  · rintro i x ⟨⟩ ⟨⟩ hx ⟨g1, g2⟩
    have hil : i < l.length := (List.getElem?_eq_some_iff.1 hx).1
    obtain ⟨kb, k1, k2, k3⟩ := path_tab x.Path (h.1 x (List.mem_of_getElem? hx))
    obtain ⟨ot, o1, o2⟩ := outside_in x.Millis (-1) 1000000
    have m1 : m_kit_IsMoment x.At = some (decide (x.At ≥ 0) && decide (x.At < 345686400)) := rfl
    have m2 : m_laneref2_Moment x.At = some (decide (x.At ≥ 0) && decide (x.At < 345686400)) := by
      unfold m_laneref2_Moment m_laneref2_in
      simp only [bi_some]
      congr 1
      rw [Bool.eq_iff_iff]
      simp only [Bool.and_eq_true, decide_eq_true_eq]
      omega
    have hord : ∃ q, (bif decide (((i : Int) : Int) > 0) then (bi (getZ l (wi ((i : Int) - 1))) fun x35 => bi (m_cmp_Compare_int x35.At x.At) fun y37 => bi (getZ l (wi ((i : Int) - 1))) fun x39 => bi (m_strings_Compare x39.Path x.Path) fun y41 => bi (m_cmp_Or_int [y37, y41]) fun y43 => some (decide ((y43 : Int) ≥ 0))) else (some false)) = some q ∧
        (q = false → ∀ y, 0 < i → l[i - 1]? = some y → y.At ≤ x.At) := by
      by_cases h0 : i = 0
      · subst h0; exact ⟨false, rfl, fun _ y hy => absurd hy (Nat.lt_irrefl _)⟩
      · rw [decide_eq_true (show (i : Int) > 0 by omega)]
        have w1 : wi ((i : Int) - 1) = ((i - 1 : Nat) : Int) := by rw [wi_id (by omega) (by omega)]; omega
        have e1 : l[i - 1]? = some l[i - 1] := List.getElem?_eq_getElem (by omega)
        obtain ⟨c, c1, c2⟩ := cmp_or l[i - 1].At x.At l[i - 1].Path x.Path
        have hc : ∀ s t : Str, m_strings_Compare s t = some (Lib.compareBytes s t) := fun _ _ => rfl
        rw [w1, getZ_nn e1]
        simp only [cond_true, bi_some, cmpInt_ok, hc, c1]
        refine ⟨_, rfl, fun hq y _ hy => ?_⟩
        rw [e1] at hy
        cases hy
        have : ¬ c ≥ 0 := by simpa using hq
        exact c2 (by omega)
    obtain ⟨q, q1, q2⟩ := hord
    simp only [m1, m2, bi_some, k1, k2, o1, o2, q1]
    cases hm : (decide (x.At ≥ 0) && decide (x.At < 345686400)) with
    | false => exact .inr ⟨1, 1, rfl, rfl, rfl, by decide⟩
    | true =>
      cases kb with
      | false => exact .inr ⟨5, 5, rfl, rfl, rfl, by decide⟩
      | true =>
        cases ot with
        | true => exact .inr ⟨1, 1, rfl, rfl, rfl, by decide⟩
        | false =>
          cases q with
          | true => exact .inr ⟨7, 7, rfl, rfl, rfl, by decide⟩
          | false =>
            refine .inl ⟨(), (), rfl, rfl, fun j y hj hy => ?_, fun a b y z hab hb hy hz => ?_⟩
            · by_cases e : j = i
              · subst e
                rw [hx] at hy; cases hy
                simp only [Bool.and_eq_true, decide_eq_true_eq] at hm
                exact ⟨hm.1, hm.2, k3 rfl⟩
              · exact g1 j y (by omega) hy
            · by_cases e : b = i
              · subst e
                rw [hx] at hz; cases hz
                by_cases e2 : a = b - 1
                · subst e2; exact q2 rfl y (by omega) hy
                · have h3 := List.getElem?_eq_getElem (show b - 1 < l.length by omega)
                  have := g2 a (b - 1) y _ (by omega) (by omega) hy h3
                  have := q2 rfl _ (by omega) h3
                  omega
              · exact g2 a b y z hab (by omega) hy hz

/-! ### What is used -/
def tt (T : List Int) (i : Nat) : Int := (T[i]?).getD End
noncomputable def pickW (l : List T_api_Sample) (gain fresh t : Int) (now : Str) : Str := ((m_laneref1_goodAt l fresh t).bind fun G => m_route_choose G now gain).getD []
noncomputable def nw (l : List T_api_Sample) (gain fresh : Int) (T : List Int) : Nat → Str
  | 0 => []
  | i + 1 => pickW l gain fresh (tt T i) (nw l gain fresh T i)
noncomputable def PR (l : List T_api_Sample) (gain fresh : Int) (T : List Int) : Nat → List T_api_Turn × List T_api_Turn
  | 0 => ([], [])
  | i + 1 => ((m_route_begins (PR l gain fresh T i).1 (tt T i) (nw l gain fresh T (i + 1))).getD [], (m_laneref1_addTurn (PR l gain fresh T i).2 (nw l gain fresh T (i + 1)) (tt T i) (tt T (i + 1))).getD [])
theorem choose_ok (G : List (Str × Int)) (hs : SM G) (hk : ∀ e ∈ G, e.1 ≠ []) (now : Str) (gain : Int) : ∃ b c, rangeP (σ := Str) (fun x8 s7 => bif ((((s7 : Str) == []) || (decide ((x8.2 : Int) < ((mGet G s7).getD 0)))) || (((x8.2 : Int) == ((mGet G s7).getD 0)) && (Op.bytesLess x8.1 s7))) then (some x8.1) else (some s7)) G [] = some b ∧
    m_route_choose G now gain = some c ∧ (bif !(((mGet G now).isSome) && (decide ((wi (((mGet G now).getD 0) - ((mGet G b).getD 0)) : Int) < gain))) then (some b) else (some now)) = some c := by
  obtain ⟨b, h1, _⟩ := best_ok G hs hk
  have h2 : m_route_choose G now gain = bif (((mGet G now).isSome) && (decide ((wi (((mGet G now).getD 0) - ((mGet G b).getD 0)) : Int) < gain))) then some now else some b := by
    unfold m_route_choose
    rw [h1]
    rfl
  refine ⟨b, bif (((mGet G now).isSome) && (decide ((wi (((mGet G now).getD 0) - ((mGet G b).getD 0)) : Int) < gain))) then now else b, h1, ?_, ?_⟩
  · rw [h2]
    generalize (((mGet G now).isSome) && (decide ((wi (((mGet G now).getD 0) - ((mGet G b).getD 0)) : Int) < gain))) = q
    cases q <;> rfl
  · generalize (((mGet G now).isSome) && (decide ((wi (((mGet G now).getD 0) - ((mGet G b).getD 0)) : Int) < gain))) = q
    cases q <;> rfl
def mo (fresh : Int) (x : T_api_Sample) : List Int := if x.At + fresh < End then [x.At, x.At + fresh] else [x.At]
def mo2 (fresh : Int) (x : T_api_Sample) : List Int := [x.At, if End < x.At + fresh then End else x.At + fresh]
def kn (l : List T_api_Sample) (j : Nat) : List (Str × T_api_Sample) := (l.take j).foldl (fun m x => mSet m x.Path x) []
theorem kn_known (l : List T_api_Sample) (t : Int) (j : Nat) (h1 : ∀ p x, p < j → l[p]? = some x → x.At ≤ t) (h2 : ∀ p x, j ≤ p → l[p]? = some x → ¬ x.At ≤ t) : kn l j = known l t := by
  unfold kn known
  congr 1
  have e : l.filter (fun x => decide (x.At ≤ t)) = (l.take j).filter (fun x => decide (x.At ≤ t)) ++ (l.drop j).filter (fun x => decide (x.At ≤ t)) := by rw [← List.filter_append, List.take_append_drop]
  rw [e, List.filter_eq_self.2 (fun x hx => ?_), List.filter_eq_nil_iff.2 (fun x hx => ?_), List.append_nil]
  · obtain ⟨p, hp⟩ := List.getElem?_of_mem hx
    rw [List.getElem?_drop] at hp
    simpa using h2 (j + p) x (by omega) hp
  · obtain ⟨p, hp⟩ := List.getElem?_of_mem hx
    have hlt : p < j := by have := (List.getElem?_eq_some_iff.1 hp).1; simp at this; omega
    rw [List.getElem?_take_of_lt hlt] at hp
    exact decide_eq_true (h1 p x hlt hp)
theorem used_ok (l : List T_api_Sample) (hs : okS l) (hv : Valid l) (gain fresh : Int) (hf1 : 1 ≤ fresh) (hf2 : fresh ≤ End) (hc : m_route_CheckSamples 400 l = some 0) (hg : m_route_gainFault gain = some 0) (ho : m_kit_Outside fresh 1 345686400 = some false) :
    ∃ T, m_route_Used 400 l gain fresh = some (T, 0) ∧ m_laneref1_UsedPaths 400 l gain fresh = some T := by
  obtain ⟨hv1, hv2⟩ := hv
  have hlen := hs.2
  -- the moments
  have hmo : ∀ x : T_api_Sample, (mo fresh x).length ≤ 2 := fun x => by unfold mo; split <;> simp
  have hfl : ∀ (q : List T_api_Sample) (f : T_api_Sample → List Int), (∀ x, (f x).length ≤ 2) → (q.flatMap f).length ≤ 2 * q.length := by
    intro q f hf
    induction q with
    | nil => simp
    | cons x q ih => simp only [List.flatMap_cons, List.length_append, List.length_cons]; have := hf x; omega
  have hL1 := hfl l (mo fresh) hmo
  have hL2 := hfl l (mo2 fresh) (fun x => by simp [mo2])
  obtain ⟨s1, c1⟩ := rise_ok 400 (l.flatMap (mo fresh)) (by omega) (by omega)
  obtain ⟨s2, c2⟩ := rise_ok 400 (End :: l.flatMap (mo2 fresh)) (by rw [List.length_cons]; omega) (by rw [List.length_cons]; omega)
  generalize hT : rise (l.flatMap (mo fresh)) = T at c1
  have hTs : T.Pairwise (· < ·) := hT ▸ rise_sorted _
  have hTm : ∀ t, t ∈ T ↔ t ∈ l.flatMap (mo fresh) := fun t => hT ▸ rise_mem _ t
  have hTE : ∀ t ∈ T, 0 ≤ t ∧ t < End := fun t ht => by
    obtain ⟨x, hx, hm⟩ := List.mem_flatMap.1 ((hTm t).1 ht)
    have := hv1 x hx
    unfold mo at hm
    split at hm <;> simp only [List.mem_cons, List.not_mem_nil, or_false] at hm
    · rcases hm with rfl | rfl <;> omega
    · subst hm; omega
  have hTT : rise (End :: l.flatMap (mo2 fresh)) = T ++ [End] := by
    refine rise_ext (rise_sorted _) (List.pairwise_append.2 ⟨hTs, List.pairwise_singleton .., fun x hx y hy => ?_⟩) fun t => ?_
    · simp only [List.mem_singleton] at hy
      subst hy
      exact (hTE x hx).2
    · rw [rise_mem, List.mem_append, hTm]
      simp only [List.mem_cons, List.mem_flatMap, List.not_mem_nil, or_false, mo, mo2]
      constructor
      · rintro (h | ⟨x, hx, h | h⟩)
        · exact .inr h
        · refine .inl ⟨x, hx, ?_⟩
          split <;> simp [h]
        · split at h
          · exact .inr h
          · by_cases he : x.At + fresh = End
            · exact .inr (by omega)
            · refine .inl ⟨x, hx, ?_⟩
              rw [if_pos (by omega)]
              simp [h]
      · rintro (⟨x, hx, h⟩ | h)
        · split at h <;> simp only [List.mem_cons, List.not_mem_nil, or_false] at h
          · rcases h with h | h
            · exact .inr ⟨x, hx, .inl h⟩
            · refine .inr ⟨x, hx, .inr ?_⟩
              rw [if_neg (by omega)]
              exact h
          · exact .inr ⟨x, hx, .inl h⟩
        · exact .inl h
  rw [hTT] at c2
  have hTl : T.length ≤ 100 := by
    have : (rise (l.flatMap (mo fresh))).length ≤ (l.flatMap (mo fresh)).length := dd_le _ _
    rw [hT] at this
    omega
  have hti : ∀ i, i < T.length → T[i]? = some (tt T i) := fun i hi => by unfold tt; rw [List.getElem?_eq_getElem hi]; rfl
  have htt : ∀ i, i < T.length → tt T i < tt T (i + 1) ∧ tt T (i + 1) ≤ End := fun i hi => by
    have h1 := hti i hi
    have m1 := hTE _ (List.mem_of_getElem? h1)
    by_cases h2 : i + 1 < T.length
    · have h3 := hti (i + 1) h2
      have m2 := hTE _ (List.mem_of_getElem? h3)
      refine ⟨?_, by omega⟩
      have := List.pairwise_iff_getElem.1 hTs i (i + 1) hi h2 (Nat.lt_succ_self i)
      rw [List.getElem?_eq_getElem hi] at h1
      rw [List.getElem?_eq_getElem h2] at h3
      rw [← Option.some.inj h1, ← Option.some.inj h3]
      exact this
    · have h3 : tt T (i + 1) = End := by unfold tt; rw [List.getElem?_eq_none (by omega)]; rfl
      rw [h3]
      exact ⟨m1.2, Int.le_refl _⟩
  have hgood : ∀ t, ∃ G, m_laneref1_goodAt l fresh t = some G ∧ SM G ∧ (∀ e ∈ G, e.1 ≠ []) ∧
      rangeP (σ := List (Str × Int)) (fun x21 s20 => bif ((decide ((x21.2.Millis : Int) ≥ 0)) && (decide ((wi (x21.2.At + fresh) : Int) > t))) then (some (mSet s20 x21.1 x21.2.Millis)) else (some s20)) (known l t) ([] : List (Str × Int)) = some G := fun t => goodAt_ok l fresh t fun x hx => (hv1 x hx).2.2
  -- the two histories
  have hRel : ∀ i, i ≤ T.length → RelT (tt T i) i (nw l gain fresh T i) (PR l gain fresh T i).1 (PR l gain fresh T i).2 ∧
      (∀ j, j < i → m_route_begins (PR l gain fresh T j).1 (tt T j) (nw l gain fresh T (j + 1)) = some (PR l gain fresh T (j + 1)).1 ∧ m_laneref1_addTurn (PR l gain fresh T j).2 (nw l gain fresh T (j + 1)) (tt T j) (tt T (j + 1)) = some (PR l gain fresh T (j + 1)).2) := by
    intro i
    induction i with
    | zero => exact fun _ => ⟨⟨⟨Nat.le_refl _, Nat.le_refl _⟩, fun _ => ⟨rfl, fun x hx => by cases hx⟩, fun h => absurd rfl h⟩, fun j hj => absurd hj (Nat.not_lt_zero _)⟩
    | succ i ih =>
      intro hi
      obtain ⟨r1, r2⟩ := ih (by omega)
      obtain ⟨t1, t2⟩ := htt i (by omega)
      obtain ⟨P', R', e1, e2, e3⟩ := turn_step r1 (by omega) t1 t2 (nw l gain fresh T (i + 1))
      have hp : PR l gain fresh T (i + 1) = (P', R') := by rw [PR, e1, e2]; rfl
      rw [hp]
      refine ⟨e3, fun j hj => ?_⟩
      by_cases e : j = i
      · subst e; rw [e1, e2, hp]; exact ⟨rfl, rfl⟩
      · exact r2 j (by omega)
  have hend := hRel T.length (Nat.le_refl _)
  have hEnd : tt T T.length = End := by unfold tt; rw [List.getElem?_eq_none (Nat.le_refl _)]; rfl
  have hsame : (PR l gain fresh T T.length).1 = (PR l gain fresh T T.length).2 := by
    obtain ⟨⟨_, hoff, hon⟩, _⟩ := hend
    by_cases hn : nw l gain fresh T T.length = []
    · exact (hoff hn).1
    · obtain ⟨a, f, h1, h2, _⟩ := hon hn
      rw [h1, h2, hEnd]
  refine ⟨(PR l gain fresh T T.length).1, ?_, ?_⟩
  · unfold m_route_Used
    rw [hc, hg, ho]
    simp only [bi_some]
    rw [show ((0 : Int) != 0) = false from rfl]
    simp only [cond_false]
    refine bi_rangeF (I := fun i s => s = (l.take i).flatMap (mo fresh)) rfl (fun i x s hx hi => ?_) (fun r hr => ?_)
    · have hb := hv1 x (List.mem_of_getElem? hx)
      have hil : i < l.length := (List.getElem?_eq_some_iff.1 hx).1
      have hw : wi (x.At + fresh) = x.At + fresh := wi_id (by simp only [End] at *; omega) (by simp only [End] at *; omega)
      have hsl : s.length ≤ 60 := by rw [hi]; have := hfl (l.take i) (mo fresh) hmo; simp only [List.length_take] at this; omega
      have e : (l.take (i + 1)).flatMap (mo fresh) = s ++ mo fresh x := by rw [List.take_add_one, hx, hi]; simp
      rw [e, hw, apd_some (by simp; omega)]
      simp only [bi_some]
      unfold mo
      by_cases h : x.At + fresh < End
      · rw [if_pos h, decide_eq_true (show x.At + fresh < 345686400 from h), apd_some (by simp; omega)]
        exact ⟨_, rfl, by simp⟩
      · rw [if_neg h, decide_eq_false (show ¬ x.At + fresh < 345686400 from h)]
        exact ⟨_, rfl, rfl⟩
    · rw [List.take_length] at hr
      subst hr
      rw [s1]
      simp only [bi_some]
      rw [decide_eq_true (by simp)]
      simp only [gd_true]
      rw [c1]
      simp only [bi_some]
      rw [decide_eq_true (show (T.length : Int) ≤ 9223372036854775807 by omega)]
      simp only [gd_true]
      refine bi_rangeG (I := fun i s => ∃ j : Nat, s = (kn l j, (PR l gain fresh T i).1, nw l gain fresh T i, (j : Int)) ∧ j ≤ l.length ∧ ∀ p x, p < j → l[p]? = some x → x.At ≤ tt T i) ⟨0, rfl, Nat.zero_le _, fun p x hp => absurd hp (Nat.not_lt_zero _)⟩ ?_ ?_
      · rintro i s hi ⟨j, rfl, hj, hjt⟩
        simp only [Int.toNat_natCast] at hi
        rw [getZ_nn (hti i hi)]
        simp only [bi_some]
        -- the samples up to now
        have hwhile : ∃ j' : Nat, loopM (σ := (List (Str × T_api_Sample)) × Int) (ρ := (List (Str × T_api_Sample)) × Int) (fun s52 => bi (bif decide ((s52.2 : Int) < (l.length : Int)) then (bi (getZ l s52.2) fun x64 => some (decide ((x64.At : Int) ≤ tt T i))) else (some false)) fun q61 => bif q61 then (bi (getZ l s52.2) fun x68 => bi (getZ l s52.2) fun x70 => some (.go ((mSet s52.1 x68.Path x70), wi (s52.2 + 1)))) else (some (.out (s52.1, s52.2)))) 400 (kn l j, (j : Int)) = some (kn l j', (j' : Int)) ∧ j' ≤ l.length ∧ (∀ p x, p < j' → l[p]? = some x → x.At ≤ tt T i) ∧ (∀ p x, j' ≤ p → l[p]? = some x → ¬ x.At ≤ tt T i) := by
          obtain ⟨r, e1, j', rfl, e2, e3, e4⟩ := loopM_inv (f := fun s52 => bi (bif decide ((s52.2 : Int) < (l.length : Int)) then (bi (getZ l s52.2) fun x64 => some (decide ((x64.At : Int) ≤ tt T i))) else (some false)) fun q61 => bif q61 then (bi (getZ l s52.2) fun x68 => bi (getZ l s52.2) fun x70 => some (LS.go ((mSet s52.1 x68.Path x70), wi (s52.2 + 1)))) else (some (.out (s52.1, s52.2))))
            (fun s => ∃ q : Nat, s = (kn l q, (q : Int)) ∧ q ≤ l.length ∧ ∀ p x, p < q → l[p]? = some x → x.At ≤ tt T i) (fun s => l.length - s.2.toNat)
            (fun r => ∃ j' : Nat, r = (kn l j', (j' : Int)) ∧ j' ≤ l.length ∧ (∀ p x, p < j' → l[p]? = some x → x.At ≤ tt T i) ∧ (∀ p x, j' ≤ p → l[p]? = some x → ¬ x.At ≤ tt T i)) (by
              rintro s ⟨q, rfl, hq, hqt⟩
              by_cases hql : q < l.length
              · have hx := List.getElem?_eq_getElem hql
                simp only
                rw [decide_eq_true (show (q : Int) < (l.length : Int) by omega), getZ_nn hx]
                simp only [cond_true, bi_some]
                by_cases hle : l[q].At ≤ tt T i
                · rw [decide_eq_true hle]
                  simp only [cond_true]
                  have hw : wi ((q : Int) + 1) = ((q + 1 : Nat) : Int) := by rw [wi_id (by omega) (by omega)]; omega
                  rw [hw]
                  refine .inr ⟨_, rfl, ⟨q + 1, ?_, by omega, fun p x hp hx2 => ?_⟩, by simp; omega⟩
                  · refine Prod.ext ?_ rfl
                    show mSet (kn l q) l[q].Path l[q] = kn l (q + 1)
                    unfold kn
                    rw [List.take_add_one, hx, Option.toList_some, List.foldl_append]
                    rfl
                  · by_cases e : p = q
                    · subst e; rw [hx] at hx2; cases hx2; exact hle
                    · exact hqt p x (by omega) hx2
                · rw [decide_eq_false hle]
                  refine .inl ⟨_, rfl, q, rfl, hq, hqt, fun p x hp hx2 hle2 => ?_⟩
                  by_cases e : p = q
                  · subst e; rw [hx] at hx2; cases hx2; exact hle hle2
                  · have := hv2 q p _ x (by omega) hx hx2
                    omega
              · simp only
                rw [decide_eq_false (show ¬ (q : Int) < (l.length : Int) by omega)]
                refine .inl ⟨_, rfl, q, rfl, hq, hqt, fun p x hp hx2 => ?_⟩
                have := (List.getElem?_eq_some_iff.1 hx2).1
                omega) 400 (kn l j, (j : Int)) (by simp; omega) ⟨j, rfl, hj, hjt⟩
          exact ⟨j', e1, e2, e3, e4⟩
        obtain ⟨j', w1, w2, w3, w4⟩ := hwhile
        rw [w1]
        simp only [bi_some]
        rw [kn_known l (tt T i) j' w3 w4]
        obtain ⟨G, g1, g2, g3, g4⟩ := hgood (tt T i)
        rw [g4]
        simp only [bi_some]
        obtain ⟨b, c, b1, b2, b3⟩ := choose_ok G g2 g3 (nw l gain fresh T i) gain
        have hnw : nw l gain fresh T (i + 1) = c := by
          show pickW l gain fresh (tt T i) (nw l gain fresh T i) = c
          unfold pickW
          rw [g1, Option.bind_some, b2]
          rfl
        rw [b2]
        simp only [bi_some]
        rw [← hnw, (hend.2 i hi).1]
        simp only [bi_some]
        refine ⟨_, rfl, j', by rw [kn_known l (tt T i) j' w3 w4], w2, fun p x hp hx => ?_⟩
        have := w3 p x hp hx
        have := (htt i hi).1
        omega
      · rintro r ⟨j, rfl, _⟩
        simp only [Int.toNat_natCast]
  · unfold m_laneref1_UsedPaths
    refine bi_rangeF (I := fun i s => s = End :: (l.take i).flatMap (mo2 fresh)) rfl (fun i x s hx hi => ?_) (fun r hr => ?_)
    · have hb := hv1 x (List.mem_of_getElem? hx)
      have hil : i < l.length := (List.getElem?_eq_some_iff.1 hx).1
      have hw : wi (x.At + fresh) = x.At + fresh := wi_id (by simp only [End] at *; omega) (by simp only [End] at *; omega)
      have hsl : s.length ≤ 61 := by rw [hi]; have := hfl (l.take i) (mo2 fresh) (fun x => by simp [mo2]); simp only [List.length_take, List.length_cons] at this ⊢; omega
      rw [hw, apd_some (by simp; omega)]
      refine ⟨_, rfl, ?_⟩
      rw [List.take_add_one, hx, hi]
      simp [mo2]
    · rw [List.take_length] at hr
      subst hr
      rw [s2]
      simp only [bi_some]
      rw [decide_eq_true (by simp)]
      simp only [gd_true]
      rw [c2]
      simp only [bi_some]
      have hw : wi (((T ++ [End]).length : Int) - 1) = (T.length : Int) := by rw [wi_id (by simp <;> omega) (by simp <;> omega)]; simp
      rw [hw, decide_eq_true (show (T.length : Int) ≤ 9223372036854775807 by omega)]
      simp only [gd_true]
      have hget : ∀ i, i ≤ T.length → (T ++ [End])[i]? = some (tt T i) := fun i hi => by
        by_cases h : i < T.length
        · rw [List.getElem?_append_left h]; exact hti i h
        · have : i = T.length := by omega
          subst this
          rw [hEnd]; simp
      refine bi_rangeG (I := fun i s => s = ((PR l gain fresh T i).2, nw l gain fresh T i)) rfl ?_ ?_
      · rintro i s hi rfl
        simp only [Int.toNat_natCast] at hi
        have hw2 : wi ((i : Int) + 1) = ((i + 1 : Nat) : Int) := by rw [wi_id (by omega) (by omega)]; omega
        rw [getZ_nn (hget i (by omega)), hw2, getZ_nn (hget (i + 1) (by omega))]
        simp only [bi_some]
        obtain ⟨G, g1, g2, g3, g4⟩ := hgood (tt T i)
        rw [g1]
        simp only [bi_some]
        obtain ⟨b, c, b1, b2, b3⟩ := choose_ok G g2 g3 (nw l gain fresh T i) gain
        have hnw : nw l gain fresh T (i + 1) = c := by
          show pickW l gain fresh (tt T i) (nw l gain fresh T i) = c
          unfold pickW
          rw [g1, Option.bind_some, b2]
          rfl
        rw [b1]
        simp only [bi_some]
        rw [b3]
        simp only [bi_some]
        rw [← hnw, (hend.2 i hi).2]
        exact ⟨_, rfl, rfl⟩
      · rintro r rfl
        simp only [Int.toNat_natCast, hsame]
end Go.Gk
