/-
  The plain law of PathsUsed.
-/
import Derived.Test.YtnjnmkpgedkffaaDoorUSamp
set_option linter.unusedVariables false
set_option linter.unusedSimpArgs false
set_option linter.unusedSectionVars false
set_option maxRecDepth 100000
namespace Go.Gk
theorem samplesD (l : List Int) (a many : Int) (hl : l.length ≤ 9223372036854775807) (h0 : 0 ≤ a) (h1 : a < 4611686018427360000) (h2 : 0 ≤ many) (h3 : many ≤ 7) : Dr l a 1000 (m_lanemake_Stream_Samples ⟨l, a⟩ many) okS := by
  unfold m_lanemake_Stream_Samples Dr
  rw [decide_eq_true (show many ≤ 9223372036854775807 by omega)]
  simp only [gd_true]
  obtain ⟨r, hr, a1, b1, b2, b3, b4, b5⟩ := rangeG_at (n := many) (s := ((⟨l, a⟩ : T_lanemake_Stream), ([] : List T_api_Sample), (0 : Int))) (f := fun i1 s2 => bi (m_lanemake_Stream_Pick s2.1 [1, 1, 5, 20]) fun y13 => bi (rangeF (σ := T_lanemake_Stream × (List T_api_Sample)) (fun i15 x17 s16 => bi (m_lanemake_Stream_Flip s16.1 2) fun y26 => bif y26.1 then (bi (m_lanemake_Stream_Pick y26.2 [-1, 3, 5, 8, 8, 12]) fun y29 => bi (apd s16.2 [(⟨wi (s2.2.2 + y13.1), x17, y29.1⟩ : T_api_Sample)]) fun y31 => some (y29.2, y31)) else (some (y26.2, s16.2))) 0 [[112], [113], [114]] (y13.2, s2.2.1)) fun q18 => some (q18.1, q18.2, wi (s2.2.2 + y13.1)))
    (fun i s => ∃ a', s.1 = ⟨l, a'⟩ ∧ a ≤ a' ∧ a' ≤ a + 7 * i ∧ (∀ x ∈ s.2.1, x.Path ∈ pathT) ∧ s.2.1.length ≤ 3 * i) ⟨a, rfl, by omega, by omega, (fun x hx => by cases hx), by simp⟩ (by
      rintro i ⟨s, out, now⟩ hi ⟨a', e1, e2, e3, e4, e5⟩
      simp only at e1 e2 e3 e4 e5 ⊢
      subst e1
      obtain ⟨y, _, hy⟩ := pick_ok l a' [1, 1, 5, 20] hl (by omega) (by omega) (by simp) (by simp)
      rw [hy]
      simp only [bi_some]
      obtain ⟨r, hr, a2, c1, c2, c3, c4, c5⟩ := rangeF_at (f := fun i15 x17 s16 => bi (m_lanemake_Stream_Flip s16.1 2) fun y26 => bif y26.1 then (bi (m_lanemake_Stream_Pick y26.2 [-1, 3, 5, 8, 8, 12]) fun y29 => bi (apd s16.2 [(⟨wi (now + y), x17, y29.1⟩ : T_api_Sample)]) fun y31 => some (y29.2, y31)) else (some (y26.2, s16.2)))
        [[112], [113], [114]] (fun j s => ∃ a2, s.1 = (⟨l, a2⟩ : T_lanemake_Stream) ∧ a' + 1 ≤ a2 ∧ a2 ≤ a' + 1 + 2 * j ∧ (∀ x ∈ s.2, x.Path ∈ pathT) ∧ s.2.length ≤ 3 * i + j) (by
          rintro j x ⟨s, out2⟩ hx ⟨a2, d1, d2, d3, d4, d5⟩
          simp only at d1 d2 d3 d4 d5 ⊢
          subst d1
          have hj : j < 3 := by have := (List.getElem?_eq_some_iff.1 hx).1; simpa using this
          obtain ⟨b, hb⟩ := flip_ok l a2 2 hl (by omega) (by omega) (by decide) (by decide)
          rw [hb]
          simp only [bi_some]
          cases b with
          | false => exact ⟨_, rfl, a2 + 1, rfl, by omega, by omega, d4, by simp only; omega⟩
          | true =>
            obtain ⟨z, _, hz⟩ := pick_ok l (a2 + 1) [-1, 3, 5, 8, 8, 12] hl (by omega) (by omega) (by simp) (by simp)
            simp only [cond_true, hz, bi_some]
            rw [apd_some (by simp; omega)]
            refine ⟨_, rfl, a2 + 1 + 1, rfl, by omega, by omega, fun w hw => ?_, by simp; omega⟩
            rcases List.mem_append.1 hw with hw | hw
            · exact d4 w hw
            · have := List.mem_of_getElem? hx
              simp only [List.mem_singleton] at hw
              subst hw
              simp only [pathT, List.mem_cons, List.not_mem_nil, or_false] at this ⊢
              rcases this with h | h | h <;> simp [h]) [[112], [113], [114]] 0 (⟨l, a' + 1⟩, out) rfl ⟨a' + 1, rfl, by omega, by omega, e4, by omega⟩
      rw [hr]
      simp only [List.length_cons, List.length_nil] at c3 c5
      exact ⟨_, rfl, a2, c1, by omega, by omega, c4, by omega⟩)
  rw [hr]
  obtain ⟨s, out, now⟩ := r
  simp only at b1 b2 b3 b4 b5 ⊢
  subst b1
  have hmt : many.toNat ≤ 7 := by omega
  have ht : (many.toNat : Int) ≤ 7 := by omega
  simp only [bi_some]
  obtain ⟨f, hf⟩ := flip_ok l a1 20 hl (by omega) (by omega) (by decide) (by decide)
  rw [hf]
  simp only [bi_some]
  cases f with
  | false =>
    simp only [cond_false, bi_some]
    refine ⟨_, _, ⟨b4, ?_⟩, ?_, ?_, rfl⟩ <;> omega
  | true =>
    obtain ⟨o1, a2, _, p1, p2, p3⟩ := oddD l (a1 + 1) 0 100 hl (by omega) (by omega) (by omega) (by omega) (by omega)
    obtain ⟨k, hk, q1⟩ := some_ok l a2 [[], [112]] hl (by omega) (by omega) (by simp) (by simp)
    obtain ⟨o2, a3, _, r1, r2, r3⟩ := oddD l (a2 + 1) (-1) 100 hl (by omega) (by omega) (by omega) (by omega) (by omega)
    simp only [cond_true, p3, q1, r3, bi_some]
    rw [apd_some (by simp; omega)]
    simp only [bi_some]
    refine ⟨_, _, ⟨fun w hw => ?_, ?_⟩, ?_, ?_, rfl⟩
    · rcases List.mem_append.1 hw with hw | hw
      · exact b4 w hw
      · simp only [List.mem_singleton] at hw
        subst hw
        simp only [pathT, List.mem_cons, List.not_mem_nil, or_false] at hk ⊢
        rcases hk with h | h <;> simp [h]
    · simp; omega
    · omega
    · omega
/-! ### A way between two relays -/
theorem dist_ok : m_route_distances 400 [([97], [(⟨[98], 3⟩ : T_route_step)]), ([98], [⟨[97], 3⟩])] [97] = some [([97], ⟨0, 0⟩), ([98], ⟨3, 1⟩)] := by
  unfold m_route_distances
  have e0 : mSet ([] : List (Str × T_route_far)) [97] ⟨0, 0⟩ = [([97], ⟨0, 0⟩)] := rfl
  rw [e0]
  refine bi_loop_go (k := 399) ([([97], ⟨0, 0⟩), ([98], ⟨3, 1⟩)], [([97], true)]) ?_ ?_
  · dsimp only
    rw [rangeP_one (r := (([97], true) : Str × Bool)) rfl]
    rfl
  refine bi_loop_go (k := 398) ([([97], ⟨0, 0⟩), ([98], ⟨3, 1⟩)], [([97], true), ([98], true)]) ?_ ?_
  · dsimp only
    rw [rangeP_two (r := (([98], true) : Str × Bool)) rfl rfl]
    rfl
  refine bi_loop_out (k := 397) [([97], ⟨0, 0⟩), ([98], ⟨3, 1⟩)] ?_ rfl
  · dsimp only
    rw [rangeP_two (r := (([], false) : Str × Bool)) rfl rfl]
    rfl
theorem through_ok : m_route_Through 400 [(⟨[97], [98], 3⟩ : T_api_Link)] [98] [97] = some ([[98], [97]], 3, 0) := by
  unfold m_route_Through
  rw [show m_route_CheckLinks 400 [(⟨[97], [98], 3⟩ : T_api_Link)] = some 0 from rfl, show m_kit_IsKey 400 [98] = some true from rfl, show m_kit_IsKey 400 [97] = some true from rfl]
  simp only [bi_some]
  rw [show ((0 : Int) != 0) = false from rfl]
  simp only [cond_false, Bool.not_true, bi_some]
  have h : m_route_through 400 [(⟨[97], [98], 3⟩ : T_api_Link)] [98] [97] = some ([[98], [97]], 3, 0) := by
    unfold m_route_through
    rw [show m_route_stepsOf [(⟨[97], [98], 3⟩ : T_api_Link)] = some [([97], [(⟨[98], 3⟩ : T_route_step)]), ([98], [⟨[97], 3⟩])] from rfl]
    simp only [bi_some]
    rw [dist_ok]
    rfl
  rw [h]
  rfl
theorem routed_ok : m_lanelaw1_routed 400 = some true := by
  unfold m_lanelaw1_routed
  rw [through_ok]
  rfl
/-! ### The law -/
theorem inT {x : Int} {xs : List Int} (p : Int → Bool) (h : xs.all p = true) (hx : x ∈ xs) : p x = true := List.all_eq_true.1 h x hx
theorem PathsUsed_true (l : List Int) (hl : l.length ≤ 9223372036854775807) : m_lanelaw1_PathsUsed 400 l = some true := by
  unfold m_lanelaw1_PathsUsed
  obtain ⟨n, n0, n1, hn⟩ := range_ok l 0 0 7 hl (by omega) (by omega) (by omega) (by omega) (by omega)
  obtain ⟨x, a1, hx, a2, a3, hs⟩ := samplesD l 1 n hl (by omega) (by omega) n0 n1
  obtain ⟨gain, hg, hp1⟩ := pick_ok l a1 [0, 1, 3, 5, 20, -1] hl (by omega) (by omega) (by simp) (by simp)
  obtain ⟨fresh, hf, hp2⟩ := pick_ok l (a1 + 1) [1, 5, 10, 30, 0, 345686400, 345686401] hl (by omega) (by omega) (by simp) (by simp)
  rw [hn]
  simp only [bi_some]
  rw [show (0 : Int) + 1 = 1 from rfl, hs]
  simp only [bi_some, hp1, hp2]
  obtain ⟨e, e1, e2, e3⟩ := faults_ok x hx
  obtain ⟨og, g1, g2⟩ := outside_in gain 0 1000000
  obtain ⟨of, f1, f2⟩ := outside_in fresh 1 345686400
  have hG : m_route_gainFault gain = some (bif og then 1 else 0) := by unfold m_route_gainFault; rw [g1]; cases og <;> rfl
  have hG2 : m_laneref1_GainFault gain = some (bif og then 1 else 0) := by unfold m_laneref1_GainFault; rw [g2]; cases og <;> rfl
  have hF2 : m_laneref1_FreshFault fresh = some (bif of then 1 else 0) := by unfold m_laneref1_FreshFault; rw [f2]; cases of <;> rfl
  have hor : m_cmp_Or_api_Errno [e, bif og then 1 else 0, bif of then 1 else 0] = some (if e ≠ 0 then e else bif og then 1 else bif of then 1 else 0) := by
    unfold m_cmp_Or_api_Errno
    by_cases he : e = 0
    · subst he; cases og <;> cases of <;> rfl
    · have : (e != 0) = true := by simpa using he
      simp [rangeM, this, goI, he]
  rw [e2, e1, hG2, hF2]
  simp only [bi_some]
  rw [show (e != e) = false by simp]
  simp only [cond_false]
  rw [hor, routed_ok]
  simp only [bi_some]
  by_cases he : e = 0
  · subst he
    have hv := e3 rfl
    simp only [ne_eq, not_true_eq_false, if_false]
    have h00 : ((0 : Int) != 0) = false := rfl
    have hU : m_route_Used 400 x gain fresh = (bif og then some ([], 1) else bif of then some ([], 1) else m_route_Used 400 x gain fresh) := by
      cases og with
      | true => unfold m_route_Used; rw [e1, hG]; rfl
      | false =>
        cases of with
        | true => unfold m_route_Used; rw [e1, hG, f1]; rfl
        | false => rfl
    rw [hU]
    cases og with
    | true => rfl
    | false =>
      cases of with
      | true => rfl
      | false =>
        have hfr : 1 ≤ fresh ∧ fresh ≤ End := by
          have : m_kit_Outside fresh 1 345686400 = some (decide (fresh < 1) || decide (fresh > 345686400)) := rfl
          rw [this] at f1
          simp only [Option.some.injEq, Bool.or_eq_false_iff, decide_eq_false_iff_not] at f1
          simp only [End]
          omega
        obtain ⟨T, t1, t2⟩ := used_ok x hx hv gain fresh hfr.1 hfr.2 e1 hG f1
        simp only [cond_false]
        rw [t1, t2]
        simp only [bi_some]
        rw [turns_equal]
        rfl
  · have hne : (e != 0) = true := by simpa using he
    have hU : m_route_Used 400 x gain fresh = some ([], e) := by unfold m_route_Used; rw [e1]; simp only [bi_some, hne, cond_true]
    rw [hU, if_pos he]
    simp only [bi_some, hne, cond_true]
    rw [show (e == e) = true by simp]
    rfl
end Go.Gk
