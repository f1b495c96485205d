/-
  The plain law of HomesChosen.
-/
import Derived.Test.YtnjnmkpgedkffaaDoorHTurns
set_option linter.unusedVariables false
set_option linter.unusedSimpArgs false
set_option linter.unusedSectionVars false
set_option maxRecDepth 100000
namespace Go.Gk
/-! ### A way between two relays -/
theorem dist_ok (n m : Nat) : m_route_distances 400 [([97], ((n, [(⟨[98], 3⟩ : T_route_step)]) : Tl T_route_step)), ([98], (m, [⟨[97], 3⟩]))] [97] = some [([97], ⟨0, 0⟩), ([98], ⟨3, 1⟩)] := by
  unfold m_route_distances
  have e0 : mSet ([] : List (Str × T_route_far)) [97] ⟨0, 0⟩ = [([97], ⟨0, 0⟩)] := rfl
  rw [e0]
  refine bi_loop_go (k := 399) ([([97], ⟨0, 0⟩), ([98], ⟨3, 1⟩)], [([97], true)]) ?_ ?_
  · dsimp only
    rw [rangeP_one (r := (([97], true) : Str × Bool)) rfl]
    rfl
  refine bi_loop_go (k := 398) ([([97], ⟨0, 0⟩), ([98], ⟨3, 1⟩)], [([97], true), ([98], true)]) ?_ ?_
  · dsimp only
    rw [rangeP_two (r := (([98], true) : Str × Bool)) rfl rfl]
    rfl
  refine bi_loop_out (k := 397) [([97], ⟨0, 0⟩), ([98], ⟨3, 1⟩)] ?_ rfl
  · dsimp only
    rw [rangeP_two (r := (([], false) : Str × Bool)) rfl rfl]
    rfl
theorem routed_ok (al : BagT) : Ok (m_lanelaw1_routed 400 al) fun q => q.1 = true := by
  unfold m_lanelaw1_routed m_route_Through
  rw [show m_route_CheckLinks 400 [(⟨[97], [98], 3⟩ : T_api_Link)] = some 0 from rfl, show m_kit_IsKey 400 [98] = some true from rfl, show m_kit_IsKey 400 [97] = some true from rfl]
  simp only [bi_some]
  rw [show ((0 : Int) != 0) = false from rfl]
  simp only [cond_false, Bool.not_true, bi_some]
  have hs : Ok (m_route_stepsOf [(⟨[97], [98], 3⟩ : T_api_Link)] al) fun q => ∃ n m : Nat, q.1 = [([97], ((n, [(⟨[98], 3⟩ : T_route_step)]) : Tl T_route_step)), ([98], (m, [⟨[97], 3⟩]))] := by
    refine ⟨_, rfl, ?_⟩
    exact ⟨_, _, rfl⟩
  unfold m_route_through
  refine ok_bi (P := fun y => y.1 = [[98], [97]] ∧ y.2.1 = 3 ∧ y.2.2.1 = 0) ?_ ?_
  · refine ok_bi (P := fun y => y.1 = [[98], [97]] ∧ y.2.1 = 3 ∧ y.2.2.1 = 0) ?_ fun y hy => ok_some hy
    refine ok_bi hs ?_
    rintro ⟨S, al'⟩ ⟨n, m, h⟩
    simp only at h
    subst h
    simp only
    rw [dist_ok n m]
    exact ⟨_, rfl, rfl, rfl, rfl⟩
  · rintro ⟨a, b, c, al'⟩ ⟨h1, h2, h3⟩
    simp only at h1 h2 h3
    subst h1; subst h2; subst h3
    exact ⟨_, rfl, rfl⟩
/-! ### Faults -/
theorem or_ok (l : List Int) : m_cmp_Or_api_Errno l = some ((l.find? fun x => x != 0).getD 0) := by
  unfold m_cmp_Or_api_Errno
  have key : ∀ (l : List Int) (i : Nat), rangeM (σ := Unit) (ρ := Int) (fun i1 x3 s2 => bif (x3 : Int) != 0 then (bi (some x3) fun v => some (.out v)) else (some (.go ()))) i l () = some (match l.find? fun x => x != 0 with | some x => .out x | none => .go ()) := by
    intro l
    induction l with
    | nil => intro i; rfl
    | cons x l ih =>
      intro i
      simp only [rangeM, List.find?_cons]
      cases hx : (x != 0) with
      | true => rfl
      | false => exact ih (i + 1)
  rw [key]
  cases l.find? fun x => x != 0 <;> rfl
theorem who_ok (l : List T_api_Turn) (t : Int) : ∃ w, m_route_whoAt l t = some w ∧ m_laneref1_turnAt l t = some w := by
  have h : ∃ w, m_route_whoAt l t = some w := by
    unfold m_route_whoAt
    obtain ⟨r, hr⟩ := rangeM_ex (f := fun i1 (x3 : T_api_Turn) (s2 : Unit) => bif ((decide ((x3.From : Int) ≤ t)) && (decide ((t : Int) < x3.To))) then (bi (some x3.Who) fun v => some (LS.out v)) else (some (.go ()))) l 0 (fun j x _ _ => by
      cases ((decide ((x.From : Int) ≤ t)) && (decide ((t : Int) < x.To))) <;> exact ⟨_, rfl⟩)
    rw [hr]
    cases r <;> exact ⟨_, rfl⟩
  obtain ⟨w, hw⟩ := h
  exact ⟨w, hw, hw⟩
theorem gain_two (g : Int) : ∃ c : Bool, m_route_gainFault g = some (bif c then 1 else 0) ∧ m_laneref1_GainFault g = some (bif c then 1 else 0) := by
  obtain ⟨og, g1, g2⟩ := outside_in g 0 1000000
  refine ⟨og, ?_, ?_⟩
  · unfold m_route_gainFault; rw [g1]; cases og <;> rfl
  · unfold m_laneref1_GainFault; rw [g2]; cases og <;> rfl
theorem mom_two (t : Int) : ∃ c : Bool, m_route_momentFault t = some (bif c then 1 else 0) ∧ m_laneref1_MomentFault t = some (bif c then 1 else 0) ∧ m_kit_IsMoment t = some (!c) := by
  obtain ⟨h1, h2⟩ := moment_two t
  refine ⟨!(decide (t ≥ 0) && decide (t < 345686400)), ?_, ?_, by rw [h1, Bool.not_not]⟩
  · unfold m_route_momentFault; rw [h1]; cases (decide (t ≥ 0) && decide (t < 345686400)) <;> rfl
  · unfold m_laneref1_MomentFault; rw [h2]; cases (decide (t ≥ 0) && decide (t < 345686400)) <;> rfl
theorem keyF_ok (x : Str) (b : Bool) (h : m_laneref2_Key x = some b) : m_laneref1_KeyFault x = some (bif b then 0 else 5) := by
  unfold m_laneref1_KeyFault m_laneref1_keyFault; rw [h]; cases b <;> rfl
theorem HomesChosen_ok (l : List Int) (hl : l.length ≤ 9223372036854775807) (al : BagT) : Ok (m_lanelaw1_HomesChosen 400 l al) fun q => q.1 = true := by
  unfold m_lanelaw1_HomesChosen
  refine ok_bi (range_o (l := l) (a := 0) (b := 0) ⟨rfl, Int.le_refl _, Int.le_refl _⟩ 0 6 hl (by omega) (by omega) (by omega) (by omega) (by omega)) fun y1 h1 => ?_
  refine ok_bi (probes_o h1.2.2 y1.1 hl (by omega) (by omega) h1.2.1) fun y3 h3 => ?_
  refine ok_bi (pick_o h3.2 _ hl (by omega) (by omega) (by simp) (by simp)) fun y5 h5 => ?_
  refine ok_bi (some_o h5.2 _ hl (by omega) (by omega) (by simp) (by simp)) fun y7 h7 => ?_
  refine ok_bi (pick_o h7.2 _ hl (by omega) (by omega) (by simp) (by simp)) fun y9 h9 => ?_
  have hx := h3.1
  have hk := inT' (xs := [[110, 97], [110, 97], [110, 98], []]) rfl h7.1
  generalize y3.1 = x at hx ⊢
  generalize y5.1 = gain
  generalize y7.1 = key at hk ⊢
  generalize y9.1 = t
  clear h1 h3 h5 h7 h9 y1 y3 y5 y7 y9
  obtain ⟨e, e1, e2, e3⟩ := pfaults_ok x hx
  obtain ⟨og, g1, g2⟩ := gain_two gain
  obtain ⟨kb, k1, k2, k3⟩ := key_tab key hk
  have k4 := keyF_ok key kb k2
  obtain ⟨om, m1, m2, _⟩ := mom_two t
  have hee : (e != e) = false := by simp
  have hF : m_route_homeFault 400 x gain key = some (([e, bif og then 1 else 0, bif kb then 0 else 5].find? fun x => x != 0).getD 0) := by
    unfold m_route_homeFault
    rw [e1]
    simp only [bi_some, g1, k1]
    cases he : (e != 0) with
    | true => simp [List.find?_cons, he]
    | false =>
      cases og with
      | true => simp [List.find?_cons, he]
      | false => cases kb <;> simp [List.find?_cons, he]
  unfold m_route_Home m_route_Homes
  simp only [hF, e1, e2, g2, k4, m1, m2, bi_some, hee, cond_false, or_ok]
  by_cases he : e = 0
  · cases og with
    | false =>
      cases kb with
      | true =>
        -- all is right
        subst he
        have hv := e3 rfl
        obtain ⟨T, hT⟩ : ∃ T, T = (PRh (mos (ownP x key)) (nwH (ownP x key) gain) (mos (ownP x key)).length).1 := ⟨_, rfl⟩
        have hP : m_route_homes 400 x gain key = some T := by rw [hT]; exact homes_ok x gain key hx.2 hv
        have hR : ∀ al, Ok (m_laneref1_HomeTurns x gain key al) fun q => q.1 = T := fun al => by rw [hT]; exact turns_ok x gain key hx.2 hv al
        obtain ⟨w, w1, w2⟩ := who_ok T t
        have h0 : (([0, bif false then 1 else 0, bif true then 0 else 5] : List Int).find? fun x => x != 0).getD 0 = 0 := rfl
        simp only [h0, hP, w1, bi_some]
        rw [show ((0 : Int) != 0) = false from rfl]
        simp only [cond_false, bi_some]
        cases om with
        | true =>
          rw [show ((([0, bif true then 1 else 0] : List Int).find? fun x => x != 0).getD 0) = 1 from rfl, show (((bif true then 1 else 0) : Int) != 0) = true from rfl, show ((1 : Int) == 0) = false from rfl]
          simp only [cond_true, cond_false, bi_some]
          rw [show (((1 : Int) == 1) && (([] : Str) == []) && ((0 : Int) == 0)) = true from rfl]
          simp only [cond_true]
          refine ok_bi (P := fun q : BagT × Bool => q.2 = true) ?_ ?_
          · refine ok_bi (P := fun q : BagT × Bool => q.2 = true) ?_ fun q hq => ok_some hq
            refine ok_bi (hR al) fun q hq => ?_
            rw [hq, turns_equal]
            exact ok_some rfl
          · intro q hq
            rw [hq]
            simp only [cond_true]
            refine ok_bi (P := fun q : BagT × Bool => q.2 = true) (ok_bi (routed_ok q.1) fun z hz => ok_some hz) fun z hz => ok_some hz
        | false =>
          rw [show ((([0, bif false then 1 else 0] : List Int).find? fun x => x != 0).getD 0) = 0 from rfl, show (((bif false then 1 else 0) : Int) != 0) = false from rfl, show ((0 : Int) == 0) = true from rfl]
          simp only [cond_true, cond_false]
          refine ok_bi (P := fun y : Str × Int => y = bif ((w : Str) == []) then ([], 8) else (w, 0)) (by cases ((w : Str) == []) <;> exact ok_some rfl) fun y11 hy11 => ?_
          subst hy11
          refine ok_bi (P := fun q : BagT × Int × Str => q.2.1 = (bif ((w : Str) == []) then 8 else 0) ∧ q.2.2 = w) ?_ ?_
          · unfold m_laneref1_HomeAt
            refine ok_bi (P := fun q : Str × BagT => q.1 = w) (ok_bi (hR al) fun q hq => by rw [hq, w2]; exact ok_some rfl) fun q hq => ?_
            unfold m_lanelaw1_when
            rw [hq]
            cases ((w : Str) == []) <;> exact ok_some ⟨rfl, rfl⟩
          · rintro ⟨al', c, w'⟩ ⟨h1, h2⟩
            simp only at h1 h2
            subst h1; subst h2
            have hc : ((((bif ((w' : Str) == []) then (([], 8) : Str × Int) else (w', 0)).2 : Int) == (bif ((w' : Str) == []) then 8 else 0)) && ((bif ((w' : Str) == []) then (([], 8) : Str × Int) else (w', 0)).1 == w') && ((0 : Int) == 0)) = true := by
              cases hw : ((w' : Str) == []) with
              | true =>
                have : w' = [] := by simpa using hw
                subst this; rfl
              | false => simp
            simp only [beq_self_eq_true, Bool.and_true] at hc ⊢
            rw [hc]
            simp only [cond_true]
            refine ok_bi (P := fun q : BagT × Bool => q.2 = true) ?_ ?_
            · refine ok_bi (P := fun q : BagT × Bool => q.2 = true) ?_ fun q hq => ok_some hq
              refine ok_bi (hR al') fun q hq => ?_
              rw [hq, turns_equal]
              exact ok_some rfl
            · intro q hq
              rw [hq]
              simp only [cond_true]
              refine ok_bi (P := fun q : BagT × Bool => q.2 = true) (ok_bi (routed_ok q.1) fun z hz => ok_some hz) fun z hz => ok_some hz
      | false =>
        subst he
        rw [show (([0, bif false then 1 else 0, bif false then 0 else 5] : List Int).find? fun x => x != 0).getD 0 = 5 from rfl]
        rw [show ((([5, bif om then 1 else 0] : List Int).find? fun x => x != 0).getD 0) = 5 from rfl]
        exact ok_bi (P := fun q : BagT × Bool => q.2 = true) (ok_bi (routed_ok al) fun z hz => ok_some hz) fun z hz => ok_some hz
    | true =>
      subst he
      have h1 : (([0, bif true then 1 else 0, bif kb then 0 else 5] : List Int).find? fun x => x != 0).getD 0 = 1 := rfl
      rw [h1]
      rw [show ((([1, bif om then 1 else 0] : List Int).find? fun x => x != 0).getD 0) = 1 from rfl]
      exact ok_bi (P := fun q : BagT × Bool => q.2 = true) (ok_bi (routed_ok al) fun z hz => ok_some hz) fun z hz => ok_some hz
  · have hne : (e != 0) = true := by simpa using he
    have hne2 : (e == 0) = false := by simpa using he
    have h1 : (([e, bif og then 1 else 0, bif kb then 0 else 5] : List Int).find? fun x => x != 0).getD 0 = e := by simp [List.find?_cons, hne]
    have h2 : (([e, bif om then 1 else 0] : List Int).find? fun x => x != 0).getD 0 = e := by simp [List.find?_cons, hne]
    simp only [h1, h2, hne, hne2, cond_true, cond_false, bi_some, beq_self_eq_true, Bool.and_self]
    exact ok_bi (P := fun q : BagT × Bool => q.2 = true) (ok_bi (routed_ok al) fun z hz => ok_some hz) fun z hz => ok_some hz
theorem HomesChosen_true (l : List Int) (hl : l.length ≤ 9223372036854775807) (al : BagT) : ∃ al', m_lanelaw1_HomesChosen 400 l al = some (true, al') := by
  obtain ⟨⟨b, al'⟩, h1, h2⟩ := HomesChosen_ok l hl al
  exact ⟨al', by rw [h1, show b = true from h2]⟩
end Go.Gk
