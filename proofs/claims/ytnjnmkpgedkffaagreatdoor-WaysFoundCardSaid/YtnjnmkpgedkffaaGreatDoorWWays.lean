/-
  The plain law of WaysFound.
-/
import Derived.Test.YtnjnmkpgedkffaaGreatDoorWLeads
set_option linter.unusedVariables false
set_option linter.unusedSimpArgs false
set_option linter.unusedSectionVars false
set_option maxRecDepth 100000
namespace Go.Gk
theorem dist_ok : m_route_distances 400 [([97], [(⟨[98], 3⟩ : T_route_step)]), ([98], [⟨[97], 3⟩])] [97] = some [([97], ⟨0, 0⟩), ([98], ⟨3, 1⟩)] := by
  unfold m_route_distances
  have e0 : mSet ([] : List (Str × T_route_far)) [97] ⟨0, 0⟩ = [([97], ⟨0, 0⟩)] := rfl
  rw [e0]
  refine bi_loop_go (k := 399) ([([97], ⟨0, 0⟩), ([98], ⟨3, 1⟩)], [([97], true)]) ?_ ?_
  · dsimp only
    rw [rangeP_one (r := (([97], true) : Str × Bool)) rfl]
    rfl
  refine bi_loop_go (k := 398) ([([97], ⟨0, 0⟩), ([98], ⟨3, 1⟩)], [([97], true), ([98], true)]) ?_ ?_
  · dsimp only
    rw [rangeP_two (r := (([98], true) : Str × Bool)) rfl rfl]
    rfl
  refine bi_loop_out (k := 397) [([97], ⟨0, 0⟩), ([98], ⟨3, 1⟩)] ?_ rfl
  · dsimp only
    rw [rangeP_two (r := (([], false) : Str × Bool)) rfl rfl]
    rfl
theorem through_ok : m_route_Through 400 [(⟨[97], [98], 3⟩ : T_api_Link)] [98] [97] = some ([[98], [97]], 3, 0) := by
  unfold m_route_Through
  rw [show m_route_CheckLinks 400 [(⟨[97], [98], 3⟩ : T_api_Link)] = some 0 from rfl, show m_kit_IsKey 400 [98] = some true from rfl, show m_kit_IsKey 400 [97] = some true from rfl]
  simp only [bi_some]
  rw [show ((0 : Int) != 0) = false from rfl]
  simp only [cond_false, Bool.not_true, bi_some]
  have h : m_route_through 400 [(⟨[97], [98], 3⟩ : T_api_Link)] [98] [97] = some ([[98], [97]], 3, 0) := by
    unfold m_route_through
    rw [show m_route_stepsOf [(⟨[97], [98], 3⟩ : T_api_Link)] = some [([97], [(⟨[98], 3⟩ : T_route_step)]), ([98], [⟨[97], 3⟩])] from rfl]
    simp only [bi_some]
    rw [dist_ok]
    rfl
  rw [h]
  rfl
theorem routed_ok : m_lanelaw1_routed 400 = some true := by
  unfold m_lanelaw1_routed
  rw [through_ok]
  rfl

/-! ### The first error -/
theorem orE_ok : ∀ (l : List Int), m_cmp_Or_api_Errno l = some ((l.find? (· != 0)).getD 0) := by
  intro l
  unfold m_cmp_Or_api_Errno
  have key : ∀ (l : List Int) (i : Nat), (bi (rangeM (σ := Unit) (ρ := Int) (fun i1 x3 s2 => bif (x3 : Int) != 0 then (bi (some x3) fun v => some (.out v)) else (some (.go ()))) i l ()) fun q => goI q fun a6 => some 0) = some ((l.find? (· != 0)).getD 0) := by
    intro l
    induction l with
    | nil => intro i; rfl
    | cons x l ih =>
      intro i
      simp only [rangeM, List.find?_cons]
      cases h : (x != 0) with
      | true => simp
      | false => simp only [cond_false]; exact ih (i + 1)
  exact key l 0
def or2 (x y : Int) : Int := if x = 0 then y else x
theorem orE2 (x y : Int) : m_cmp_Or_api_Errno [x, y] = some (or2 x y) := by
  rw [orE_ok]
  unfold or2
  by_cases h1 : x = 0 <;> by_cases h2 : y = 0 <;> simp [List.find?_cons, h1, h2]
theorem orE3 (x y z : Int) : m_cmp_Or_api_Errno [x, y, z] = some (or2 x (or2 y z)) := by
  rw [orE_ok]
  unfold or2
  by_cases h1 : x = 0 <;> by_cases h2 : y = 0 <;> by_cases h3 : z = 0 <;> simp [List.find?_cons, h1, h2, h3]
def mfZ (t : Int) : Int := if 0 ≤ t ∧ t < End then 0 else 1
theorem mf_ok (t : Int) : m_route_momentFault t = some (mfZ t) ∧ m_laneref1_MomentFault t = some (mfZ t) := by
  unfold m_route_momentFault m_laneref1_MomentFault mfZ
  rw [(moment_ok t).1, (moment_ok t).2]
  by_cases h : 0 ≤ t ∧ t < End
  · rw [decide_eq_true h, if_pos h]; exact ⟨rfl, rfl⟩
  · rw [decide_eq_false h, if_neg h]; exact ⟨rfl, rfl⟩
/-! ### Lists that are equal -/
theorem bi_rangeM_true {α : Type} {f : Nat → α → Unit → Option (LS Unit Bool)} (l : List α) (h : ∀ (j : Nat) x, l[j]? = some x → f j x () = some (.go ())) : (bi (rangeM f 0 l ()) fun q => goI q fun _ => some true) = some true := by
  rw [rangeM_all (fun _ => true) false l 0 fun j x hx => by rw [Nat.zero_add, if_pos rfl]; exact h j x hx]
  simp
theorem eqStr_ok (s : List Str) : m_slices_Equal_string_string s s = some true := by
  unfold m_slices_Equal_string_string
  rw [bne_self_eq_false]
  refine bi_rangeM_true s fun j x hx => ?_
  simp only [getZ_cast, hx, bi_some, beq_self_eq_true, Bool.not_true, cond_false]
theorem eqLead_ok (s : List T_api_Lead) : m_slices_Equal_api_Lead_api_Lead s s = some true := by
  unfold m_slices_Equal_api_Lead_api_Lead
  rw [bne_self_eq_false]
  refine bi_rangeM_true s fun j x hx => ?_
  simp only [getZ_cast, hx, bi_some, beq_self_eq_true, Bool.and_self, Bool.not_true, cond_false]
theorem eqTurn_ok (s : List T_api_Turn) : m_slices_Equal_api_Turn_api_Turn s s = some true := by
  unfold m_slices_Equal_api_Turn_api_Turn
  rw [bne_self_eq_false]
  refine bi_rangeM_true s fun j x hx => ?_
  simp only [getZ_cast, hx, bi_some, beq_self_eq_true, Bool.and_self, Bool.not_true, cond_false]
/-! ### What both say of routers and health -/
theorem rf_ok {r : List T_api_Router} {h : List T_api_Health} (hr : okR r) (hh : okH h) : ∃ er eh, m_laneref1_RoutersFault 400 r = some er ∧ m_laneref1_HealthFault h = some eh ∧ m_route_CheckRouters 400 r = some er ∧ m_route_CheckHealth 400 h = some eh ∧ m_route_routersFault 400 r h = some (or2 er eh) ∧ (or2 er eh = 0 → er = 0 ∧ eh = 0) ∧ (er = 0 → ValR r) ∧ (eh = 0 → ValH h) := by
  obtain ⟨er, a1, a2, a3⟩ := routers_ok r hr
  obtain ⟨eh, b1, b2, b3⟩ := health_ok h hh
  refine ⟨er, eh, a2, b2, a1, b1, ?_, ?_, a3, b3⟩
  · unfold m_route_routersFault
    rw [a1, b1]
    unfold or2
    by_cases h : er = 0
    · subst h; rfl
    · rw [if_neg h]; simp only [bi_some]; rw [bne_iff_ne.2 h]; rfl
  · unfold or2
    intro h
    by_cases h1 : er = 0
    · rw [if_pos h1] at h; exact ⟨h1, h⟩
    · rw [if_neg h1] at h; exact absurd h h1
theorem WaysFound_true (l : List Int) (hl : l.length ≤ 9223372036854775807) (al : List Bool) : ∃ al', m_lanelaw1_WaysFound 400 l al = some (true, al') := by
  unfold m_lanelaw1_WaysFound
  obtain ⟨r, a1, hr, d1, d2, e1⟩ := routersD l hl 0 (by decide) (by decide)
  obtain ⟨n, n0, n1, e2⟩ := range_ok l a1 0 8 hl (by omega) (by omega) (by decide) (by decide) (by decide)
  obtain ⟨h, a2, hh, d3, d4, e3⟩ := healthD l hl (a1 + 1) n (by omega) (by omega) (by omega) (by omega)
  obtain ⟨t, a3, _, d5, d6, e4⟩ := timeD l hl a2 (by omega) (by omega)
  obtain ⟨a, a4, ha, d7, d8, e5⟩ := rawD l hl a3 (by omega) (by omega)
  obtain ⟨six, e6⟩ := flip_ok l a4 4 hl (by omega) (by omega) (by decide) (by decide)
  obtain ⟨er, eh, f1, f2, f3, f4, f5, f6, f7, f8⟩ := rf_ok hr hh
  obtain ⟨g1, g2⟩ := mf_ok t
  rw [e1]; simp only [bi_some]
  rw [e2]; simp only [bi_some]
  rw [e3]; simp only [bi_some]
  rw [e4]; simp only [bi_some]
  rw [e5]; simp only [bi_some]
  rw [e6]; simp only [bi_some]
  rw [f1, f2, g2, afR a ha.h0]
  simp only [bi_some, orE2, orE3]
  -- what the program says
  unfold m_route_Firsts m_route_Way m_route_Exits
  rw [f5, g1, afP a]
  simp only [bi_some]
  generalize hf : or2 er eh = f at f6
  by_cases h0 : f = 0
  · subst h0
    obtain ⟨rfl, rfl⟩ := f6 rfl
    have vR := f7 rfl
    have vH := f8 rfl
    have hlr := hr.2
    have hlh : h.length ≤ 40 := by have := hh.2; omega
    simp only [bne_self_eq_false, cond_false]
    by_cases ht : mfZ t = 0
    · rw [ht]
      simp only [bne_self_eq_false, cond_false]
      obtain ⟨al1, p1⟩ := firsts_ok vR hlr vH hlh t al
      obtain ⟨E, p2, p3⟩ := exits_two hlr vH six t
      rw [p1, p2]
      simp only [bi_some]
      rw [leadsAt_ok vR hlr vH hlh t, p3]
      by_cases hz : afZ a = 0
      · rw [hz]
        obtain ⟨al2, p4⟩ := firsts_ok vR hlr vH hlh t al1
        simp only [bne_self_eq_false, cond_false]
        rw [p4]
        simp only [bi_some]
        obtain ⟨w, fd, p5, p6⟩ := way_ok vR (fstAt r h t) ha
        unfold m_laneref1_WayAt
        rw [leadsAt_ok vR hlr vH hlh t]
        simp only [bi_some]
        rw [p5, p6]
        simp only [bi_some, or2, if_true, bne_self_eq_false, Bool.or_self, cond_false, beq_self_eq_true, cond_true, eqLead_ok, eqStr_ok, Bool.not_true, Bool.and_self, routed_ok]
        exact ⟨_, rfl⟩
      · have hz1 : (afZ a != 0) = true := bne_iff_ne.2 hz
        simp only [bi_some, or2, if_true, if_neg hz, hz1, bne_self_eq_false, Bool.or_self, cond_false, beq_self_eq_true, cond_true, eqLead_ok, eqStr_ok, Bool.not_true, Bool.not_false, Bool.and_self, routed_ok]
        exact ⟨_, rfl⟩
    · have ht1 : (mfZ t != 0) = true := bne_iff_ne.2 ht
      have ht2 : (mfZ t == 0) = false := beq_eq_false_iff_ne.2 ht
      simp only [ht1, cond_true, bi_some]
      by_cases hz : afZ a = 0
      · rw [hz]
        simp only [or2, if_true, ht1, ht2, bne_self_eq_false, Bool.or_self, cond_false, cond_true, bi_some, Bool.not_false, routed_ok]
        exact ⟨_, rfl⟩
      · have hz1 : (afZ a != 0) = true := bne_iff_ne.2 hz
        simp only [or2, if_true, if_neg hz, hz1, ht1, ht2, bne_self_eq_false, Bool.or_self, cond_false, cond_true, bi_some, Bool.not_false, routed_ok]
        exact ⟨_, rfl⟩
  · have h1 : (f != 0) = true := bne_iff_ne.2 h0
    have h2 : (f == 0) = false := beq_eq_false_iff_ne.2 h0
    simp only [or2, if_neg h0, h1, h2, cond_true, bi_some, bne_self_eq_false, Bool.or_self, cond_false, Bool.not_false, routed_ok]
    exact ⟨_, rfl⟩
end Go.Gk
