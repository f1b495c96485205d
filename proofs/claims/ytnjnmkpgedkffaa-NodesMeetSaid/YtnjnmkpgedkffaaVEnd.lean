/-
  The plain law of NodesMeet, the end: faults, all rounds, draws.
-/
import Derived.Test.YtnjnmkpgedkffaaVLaw
set_option linter.unusedVariables false
set_option linter.unusedSimpArgs false
set_option linter.unusedSectionVars false
set_option maxRecDepth 100000
namespace Go.Gk
theorem dist_ok : m_route_distances 400 [([97], [(⟨[98], 3⟩ : T_route_step)]), ([98], [⟨[97], 3⟩])] [97] = some [([97], ⟨0, 0⟩), ([98], ⟨3, 1⟩)] := by
  unfold m_route_distances
  have e0 : mSet ([] : List (Str × T_route_far)) [97] ⟨0, 0⟩ = [([97], ⟨0, 0⟩)] := rfl
  rw [e0]
  refine bi_loop_go (k := 399) ([([97], ⟨0, 0⟩), ([98], ⟨3, 1⟩)], [([97], true)]) ?_ ?_
  · dsimp only
    rw [rangeP_one (r := (([97], true) : Str × Bool)) rfl]
    rfl
  refine bi_loop_go (k := 398) ([([97], ⟨0, 0⟩), ([98], ⟨3, 1⟩)], [([97], true), ([98], true)]) ?_ ?_
  · dsimp only
    rw [rangeP_two (r := (([98], true) : Str × Bool)) rfl rfl]
    rfl
  refine bi_loop_out (k := 397) [([97], ⟨0, 0⟩), ([98], ⟨3, 1⟩)] ?_ rfl
  · dsimp only
    rw [rangeP_two (r := (([], false) : Str × Bool)) rfl rfl]
    rfl
theorem through_ok : m_route_Through 400 [(⟨[97], [98], 3⟩ : T_api_Link)] [98] [97] = some ([[98], [97]], 3, 0) := by
  unfold m_route_Through
  rw [show m_route_CheckLinks 400 [(⟨[97], [98], 3⟩ : T_api_Link)] = some 0 from rfl, show m_kit_IsKey 400 [98] = some true from rfl, show m_kit_IsKey 400 [97] = some true from rfl]
  simp only [bi_some]
  rw [show ((0 : Int) != 0) = false from rfl]
  simp only [cond_false, Bool.not_true, bi_some]
  have h : m_route_through 400 [(⟨[97], [98], 3⟩ : T_api_Link)] [98] [97] = some ([[98], [97]], 3, 0) := by
    unfold m_route_through
    rw [show m_route_stepsOf [(⟨[97], [98], 3⟩ : T_api_Link)] = some [([97], [(⟨[98], 3⟩ : T_route_step)]), ([98], [⟨[97], 3⟩])] from rfl]
    simp only [bi_some]
    rw [dist_ok]
    rfl
  rw [h]
  rfl
theorem routed_ok : m_lanelaw1_routed 400 = some true := by
  unfold m_lanelaw1_routed
  rw [through_ok]
  rfl
theorem inT {x : Int} {xs : List Int} (p : Int → Bool) (h : xs.all p = true) (hx : x ∈ xs) : p x = true := List.all_eq_true.1 h x hx
theorem u64_nn (x : Int) : 0 ≤ IntKind.u64.wrap x := Int.emod_nonneg _ (by decide)
theorem addrD (l : List Int) (hl : l.length ≤ 9223372036854775807) (a : Int) (h0 : 0 ≤ a) (h1 : a < 4611686018427360000) : Dr l a 3 (m_lanemake_Stream_Addr ⟨l, a⟩) fun x => 0 ≤ x.Hi := by
  unfold m_lanemake_Stream_Addr Dr
  obtain ⟨r, r0, r1, e⟩ := next_ok l a 6 hl h0 (by omega) (by decide) (by decide)
  rw [e]
  simp only [bi_some]
  cases (r == 0) with
  | true =>
    obtain ⟨r2, s0, s1, e2⟩ := next_ok l (a + 1) 5 hl (by omega) (by omega) (by decide) (by decide)
    obtain ⟨x, hx, e3⟩ := getZ_in ([0, 18230571291595767808, 2306139568115548160, 9223372036854775808, 18446744073709551615] : List Int) s0 (by simpa using s1)
    obtain ⟨r3, t0, t1, e4⟩ := next_ok l (a + 1 + 1) 5 hl (by omega) (by omega) (by decide) (by decide)
    obtain ⟨y, hy, e5⟩ := getZ_in ([0, 1, 2, 4294967296, 18446744073709551615] : List Int) t0 (by simpa using t1)
    simp only [cond_true, e2, e3, e4, e5, bi_some]
    refine ⟨_, _, ?_, ?_, ?_, rfl⟩; exact of_decide_eq_true (inT (fun x => decide (0 ≤ x)) (by decide) hx); omega; omega
  | false =>
    simp only [cond_false]
    cases (r == 1) with
    | true =>
      obtain ⟨r3, t0, t1, e4⟩ := next_ok l (a + 1) 5 hl (by omega) (by omega) (by decide) (by decide)
      obtain ⟨y, hy, e5⟩ := getZ_in ([0, 1, 4294967295, 2130706433, 3232235521] : List Int) t0 (by simpa using t1)
      simp only [cond_true, e4, e5, bi_some]
      refine ⟨_, _, ?_, ?_, ?_, rfl⟩; exact Int.le_refl _; omega; omega
    | false =>
      simp only [cond_false]
      cases (r == 2) with
      | true =>
        obtain ⟨r3, t0, t1, e4⟩ := range_ok l (a + 1) 0 16777216 hl (by omega) (by omega) (by decide) (by decide) (by decide)
        simp only [cond_true, e4, bi_some, remZ]
        refine ⟨_, _, ?_, ?_, ?_, rfl⟩; exact Int.le_refl _; omega; omega
      | false =>
        obtain ⟨r3, t0, t1, e4⟩ := range_ok l (a + 1) 0 20 hl (by omega) (by omega) (by decide) (by decide) (by decide)
        simp only [cond_false, e4, bi_some]
        refine ⟨_, _, ?_, ?_, ?_, rfl⟩; exact Int.le_refl _; omega; omega
theorem rawD (l : List Int) (hl : l.length ≤ 9223372036854775807) (a : Int) (h0 : 0 ≤ a) (h1 : a < 4611686018427350000) : Dr l a 10 (m_lanemake_Stream_Raw ⟨l, a⟩) fun x => 0 ≤ x.Hi := by
  unfold m_lanemake_Stream_Raw Dr
  obtain ⟨x, a1, hx, c1, c2, e⟩ := addrD l hl a h0 (by omega)
  obtain ⟨f, hf⟩ := flip_ok l a1 15 hl (by omega) (by omega) (by decide) (by decide)
  rw [e]
  simp only [bi_some]
  rw [hf]
  simp only [bi_some]
  cases f with
  | false => simp only [cond_false]; refine ⟨_, _, hx, ?_, ?_, rfl⟩; omega; omega
  | true =>
    obtain ⟨r2, s0, s1, e2⟩ := next_ok l (a1 + 1) 2 hl (by omega) (by omega) (by decide) (by decide)
    obtain ⟨r3, t0, t1, e4⟩ := next_ok l (a1 + 1 + 1) 3 hl (by omega) (by omega) (by decide) (by decide)
    obtain ⟨y, hy, e5⟩ := getZ_in ([4294967296, 5, 1099511627776] : List Int) t0 (by simpa using t1)
    simp only [cond_true, e2, e4, e5, bi_some]
    refine ⟨_, _, u64_nn _, ?_, ?_, rfl⟩; omega; omega
theorem natD (l : List Int) (hl : l.length ≤ 9223372036854775807) (a : Int) (h0 : 0 ≤ a) (h1 : a < 4611686018427340000) : Dr l a 60 (m_lanemake_Stream_Nat ⟨l, a⟩) fun n => (1 ≤ n.Ports ∧ n.Ports ≤ 6) ∧ 0 ≤ n.Outer.Hi := by
  unfold m_lanemake_Stream_Nat Dr m_lanemake_at
  obtain ⟨x1, _, _, e1⟩ := range_ok l a 1 3 hl (by omega) (by omega) (by decide) (by decide) (by decide)
  obtain ⟨x2, _, _, e2⟩ := range_ok l (a + 1) 1 3 hl (by omega) (by omega) (by decide) (by decide) (by decide)
  obtain ⟨x3, _, e3⟩ := pick_ok l (a + 1 + 1) [1, 2, 5, 30] hl (by omega) (by omega) (by simp) (by simp)
  obtain ⟨x4, _, e4⟩ := pick_ok l (a + 1 + 1 + 1) [1, 5000, 65530] hl (by omega) (by omega) (by simp) (by simp)
  obtain ⟨x5, hx5, e5⟩ := pick_ok l (a + 1 + 1 + 1 + 1) [1, 2, 3, 6] hl (by omega) (by omega) (by simp) (by simp)
  obtain ⟨x6, _, _, e6⟩ := range_ok l (a + 1 + 1 + 1 + 1 + 1) 1 3 hl (by omega) (by omega) (by decide) (by decide) (by decide)
  obtain ⟨f, hf⟩ := flip_ok l (a + 1 + 1 + 1 + 1 + 1 + 1) 20 hl (by omega) (by omega) (by decide) (by decide)
  have hp : 1 ≤ x5 ∧ x5 ≤ 6 := of_decide_eq_true (inT (fun x => decide (1 ≤ x ∧ x ≤ 6)) (by decide) hx5)
  rw [e1]; simp only [bi_some]
  rw [e2]; simp only [bi_some]
  rw [e3]; simp only [bi_some]
  rw [e4]; simp only [bi_some]
  rw [e5]; simp only [bi_some]
  rw [e6]; simp only [bi_some]
  rw [hf]; simp only [bi_some]
  cases f with
  | false => simp only [cond_false, bi_some]; refine ⟨_, _, ⟨hp, ?_⟩, ?_, ?_, rfl⟩; exact Int.le_refl _; omega; omega
  | true =>
    obtain ⟨w1, a1, _, c1, d1, g1⟩ := oddD l (a + 1 + 1 + 1 + 1 + 1 + 1 + 1) 1 3 hl (by omega) (by omega) (by decide) (by decide) (by decide)
    obtain ⟨w2, a2, _, c2, d2, g2⟩ := oddD l a1 1 3 hl (by omega) (by omega) (by decide) (by decide) (by decide)
    obtain ⟨w3, a3, _, c3, d3, g3⟩ := oddD l a2 1 1000000 hl (by omega) (by omega) (by decide) (by decide) (by decide)
    obtain ⟨w4, a4, _, c4, d4, g4⟩ := oddD l a3 1 65535 hl (by omega) (by omega) (by decide) (by decide) (by decide)
    obtain ⟨w5, a5, hw, c5, d5, g5⟩ := rawD l hl a4 (by omega) (by omega)
    simp only [cond_true, g1, g2, g3, g4, g5, bi_some]
    refine ⟨_, _, ⟨hp, hw⟩, ?_, ?_, rfl⟩; omega; omega
/-! ### The translator's settings -/
def nfZ (n : T_api_Nat) : Int := if ¬ ((1 ≤ n.Maps ∧ n.Maps ≤ 3) ∧ (1 ≤ n.Lets ∧ n.Lets ≤ 3)) then 4 else if ¬ ((1 ≤ n.Timeout ∧ n.Timeout ≤ 1000000) ∧ (1 ≤ n.First ∧ n.First ≤ 65535) ∧ (1 ≤ n.Ports ∧ n.Ports ≤ wi (65536 - n.First))) then 1 else afZ n.Outer
theorem nfP (n : T_api_Nat) : m_route_natFault n = some (nfZ n) := by
  unfold m_route_natFault nfZ
  simp only [out_ok, bi_some, afP]
  by_cases h1 : 1 ≤ n.Maps ∧ n.Maps ≤ 3 <;> by_cases h2 : 1 ≤ n.Lets ∧ n.Lets ≤ 3 <;> by_cases h3 : 1 ≤ n.Timeout ∧ n.Timeout ≤ 1000000 <;> by_cases h4 : 1 ≤ n.First ∧ n.First ≤ 65535 <;> by_cases h5 : 1 ≤ n.Ports ∧ n.Ports ≤ wi (65536 - n.First) <;>
    simp only [h1, h2, h3, h4, h5, decide_true, decide_false, Bool.not_true, Bool.not_false, cond_true, cond_false, bi_some, and_self, not_true_eq_false, not_false_eq_true, if_true, if_false, and_true, true_and, and_false, false_and]
theorem nfR (n : T_api_Nat) (h0 : 0 ≤ n.Outer.Hi) : m_laneref1_NatFault n = some (nfZ n) := by
  unfold m_laneref1_NatFault nfZ
  simp only [in_ok, bi_some, afR _ h0]
  by_cases h1 : 1 ≤ n.Maps ∧ n.Maps ≤ 3 <;> by_cases h2 : 1 ≤ n.Lets ∧ n.Lets ≤ 3 <;> by_cases h3 : 1 ≤ n.Timeout ∧ n.Timeout ≤ 1000000 <;> by_cases h4 : 1 ≤ n.First ∧ n.First ≤ 65535 <;> by_cases h5 : 1 ≤ n.Ports ∧ n.Ports ≤ wi (65536 - n.First) <;>
    simp only [h1, h2, h3, h4, h5, decide_true, decide_false, Bool.not_true, Bool.not_false, cond_true, cond_false, bi_some, and_self, not_true_eq_false, not_false_eq_true, if_true, if_false, and_true, true_and, and_false, false_and]
theorem nf0 {n : T_api_Nat} (hp : 1 ≤ n.Ports ∧ n.Ports ≤ 6) (h : nfZ n = 0) : NOk n := by
  unfold nfZ at h
  by_cases h1 : (1 ≤ n.Maps ∧ n.Maps ≤ 3) ∧ (1 ≤ n.Lets ∧ n.Lets ≤ 3)
  · rw [if_neg (not_not_intro h1)] at h
    by_cases h2 : (1 ≤ n.Timeout ∧ n.Timeout ≤ 1000000) ∧ (1 ≤ n.First ∧ n.First ≤ 65535) ∧ (1 ≤ n.Ports ∧ n.Ports ≤ wi (65536 - n.First))
    · have := h2.2.2.2
      rw [wi_id (by omega) (by omega)] at this
      exact ⟨h2.1, h2.2.1, hp, by omega⟩
    · rw [if_pos h2] at h; omega
  · rw [if_pos h1] at h; omega

theorem nats_ok {T : Type} (a b : T_api_Nat) (v : Int → T) :
    loopM (σ := Int) (ρ := Unit ⊕ T) (fun s2 => bif decide ((s2 : Int) < 2) then (bi (getZ ([a, b] : List T_api_Nat) s2) fun x12 => bi (m_route_natFault x12) fun y14 => bif (y14 : Int) != 0 then (bi (some (v y14)) fun v => some (.out (.inr v))) else (some (.go (wi (s2 + 1))))) else (some (.out (.inl ())))) 400 0 =
      some (if nfZ a ≠ 0 then .inr (v (nfZ a)) else if nfZ b ≠ 0 then .inr (v (nfZ b)) else .inl ()) := by
  unfold loopM
  have g0 : getZ ([a, b] : List T_api_Nat) 0 = some a := rfl
  have g1 : getZ ([a, b] : List T_api_Nat) (wi (0 + 1)) = some b := rfl
  rw [show decide ((0 : Int) < 2) = true from rfl]
  simp only [cond_true, g0, bi_some, nfP]
  by_cases h1 : nfZ a = 0
  · rw [h1]
    simp only [bne_self_eq_false, cond_false, ne_eq, not_true_eq_false, if_false]
    unfold loopM
    rw [show decide ((wi (0 + 1) : Int) < 2) = true from rfl]
    simp only [cond_true, g1, bi_some, nfP]
    by_cases h2 : nfZ b = 0
    · rw [h2]
      simp only [bne_self_eq_false, cond_false, ne_eq, not_true_eq_false, if_false]
      rfl
    · rw [bne_iff_ne.2 h2, if_pos h2]
      rfl
  · rw [bne_iff_ne.2 h1, if_pos h1]
    rfl
def fQ (r : RQ) : T_api_Punched := ⟨r.2.2.2.2.2.2.2.2.2.2.2.1, r.2.2.2.2.2.2.2.2.2.2.2.2.2.2.2.2.2.2.2.2.2.2.1⟩
def fC (r : RC) : T_api_Punched := ⟨r.2.2.2.2.2.2.2.2.2.2.2.2.2.2.2.2.2.2.2.2.2.2.2.2.2.1, r.2.2.2.2.2.2.2.2.2.2.2.2.2.2.2.2.2.2.2.2.2.2.2.2.2.2⟩
section
variable {nA nB : T_api_Nat} (hA : NOk nA) (hB : NOk nB) (oA : 0 ≤ nA.Outer.Hi) (oB : 0 ≤ nB.Outer.Hi)
include hA hB oA oB
theorem rounds_all {rounds : Int} (hr : rounds ≤ 50) : ∀ (d k : Nat) (i : Int) {al : List Bool} {LA : List T_route_entry} {nxA : Int} {outA : List T_laneref1_sent} {lastA nowA : Int} {LB : List T_route_entry} {nxB : Int} {outB : List T_laneref1_sent} {lastB nowB : Int} {c : Nat} {KA KB : List T_api_Spot} (eA eB : Int) (alR : List Bool),
    i + d = rounds + 1 → 0 ≤ i → d < k → c + 7 * d ≤ 49 → TwoI nA nB al LA nxA outA lastA nowA LB nxB outB lastB nowB c c → KOk nB KA → KOk nA KB →
    ∃ rq rc, loopM (gQ 400 rounds) k (qS nA nB al nowA nxA eA nowB nxB eB LA LB KA KB i) = some rq ∧ loopM (gC 400 rounds) k (cS nA nB alR outA lastA nowA outB lastB nowB KB KA eA eB i) = some rc ∧ fQ rq = fC rc
  | d, 0, i, al, LA, nxA, outA, lastA, nowA, LB, nxB, outB, lastB, nowB, c, KA, KB, eA, eB, alR, _, _, h, _, _, _, _ => absurd h (Nat.not_lt_zero _)
  | 0, k + 1, i, al, LA, nxA, outA, lastA, nowA, LB, nxB, outB, lastB, nowB, c, KA, KB, eA, eB, alR, hi, h0, _, _, h, hKA, hKB => by
    have hd : decide (i ≤ rounds) = false := decide_eq_false (by omega)
    have e1 : gQ 400 rounds (qS nA nB al nowA nxA eA nowB nxB eB LA LB KA KB i) = some (.out (al, nA.Maps, nA.Lets, nA.Timeout, nA.First, nA.Ports, nA.Outer.Six, nA.Outer.Hi, nA.Outer.Lo, nowA, nxA, eA, nB.Maps, nB.Lets, nB.Timeout, nB.First, nB.Ports, nB.Outer.Six, nB.Outer.Hi, nB.Outer.Lo, nowB, nxB, eB, LA, LB, KA, KB)) := by
      unfold gQ qS
      simp only
      rw [hd]
      rfl
    have e2 : gC 400 rounds (cS nA nB alR outA lastA nowA outB lastB nowB KB KA eA eB i) = some (.out (alR, outA, nA.Maps, nA.Lets, nA.Timeout, nA.First, nA.Ports, nA.Outer.Six, nA.Outer.Hi, nA.Outer.Lo, lastA, nowA, outB, nB.Maps, nB.Lets, nB.Timeout, nB.First, nB.Ports, nB.Outer.Six, nB.Outer.Hi, nB.Outer.Lo, lastB, nowB, KB, KA, (eA, eB))) := by
      unfold gC cS
      simp only
      rw [hd]
      rfl
    refine ⟨_, _, by unfold loopM; rw [e1], by unfold loopM; rw [e2], rfl⟩
  | d + 1, k + 1, i, al, LA, nxA, outA, lastA, nowA, LB, nxB, outB, lastB, nowB, c, KA, KB, eA, eB, alR, hi, h0, hk, hc, h, hKA, hKB => by
    obtain ⟨al1, LA1, nxA1, outA1, lastA1, nowA1, LB1, nxB1, outB1, lastB1, nowB1, KA1, KB1, eA1, eB1, alR1, p1, p2, p3, p4, p5⟩ := round_two hA hB oA oB (rounds := rounds) eA eB alR i (by omega) (wi_id (by omega) (by omega)) h (by omega) hKA hKB
    obtain ⟨rq, rc, q1, q2, q3⟩ := rounds_all hr d k (i + 1) eA1 eB1 alR1 (by omega) (by omega) (by omega) (by omega) p3 p4 p5
    refine ⟨rq, rc, ?_, ?_, q3⟩
    · unfold loopM; rw [p1]; exact q1
    · unfold loopM; rw [p2]; exact q2
/-- Where nothing is wrong both meet alike. -/
theorem meet_two {rounds : Int} (hr0 : 0 ≤ rounds) (hr : rounds ≤ 5) (al alR : List Bool) : ∃ x al' alR',
    (bi m_route_inner fun y27 => bi (m_route_Translator_Out 400 (⟨nA, 0, nA.First, ([] : List T_route_entry)⟩ : T_route_Translator) 0 y27 (⟨(⟨false, 0, 16843009⟩ : T_api_Addr), 3478⟩ : T_api_Spot) al) fun y29 => bi m_route_inner fun y31 => bi (m_route_Translator_Out 400 (⟨nB, 0, nB.First, ([] : List T_route_entry)⟩ : T_route_Translator) 0 y31 (⟨(⟨false, 0, 16843009⟩ : T_api_Addr), 3478⟩ : T_api_Spot) y29.2.2.2) fun y33 =>
      bi (loopM (gQ 400 rounds) 400 (y33.2.2.2, y29.2.2.1.nat.Maps, y29.2.2.1.nat.Lets, y29.2.2.1.nat.Timeout, y29.2.2.1.nat.First, y29.2.2.1.nat.Ports, y29.2.2.1.nat.Outer.Six, y29.2.2.1.nat.Outer.Hi, y29.2.2.1.nat.Outer.Lo, y29.2.2.1.now, y29.2.2.1.v_next, 0, y33.2.2.1.nat.Maps, y33.2.2.1.nat.Lets, y33.2.2.1.nat.Timeout, y33.2.2.1.nat.First, y33.2.2.1.nat.Ports, y33.2.2.1.nat.Outer.Six, y33.2.2.1.nat.Outer.Hi, y33.2.2.1.nat.Outer.Lo, y33.2.2.1.now, y33.2.2.1.v_next, 0, y29.2.2.1.list, y33.2.2.1.list, [y33.1], [y29.1], 1)) fun q38 => some (fQ q38, (0 : Int), q38.1)) = some (x, 0, al') ∧ m_laneref1_CanOf 400 nA nB rounds alR = some (x, alR') := by
  have fA := hA.fi
  have fB := hB.fi
  have i0 : ∀ (n : T_api_Nat) (ts : List Nat) (al : List Bool), Lv al ts → Inv n ts al [] n.First [] 0 0 0 := fun n ts al hl => ⟨by decide, by decide, Nat.le_refl _, (fun _ h => by cases h), .nil, List.nodup_nil, (fun _ h => by cases h), List.nodup_nil, hl, by unfold cyc qn; simp, .inl rfl⟩
  obtain ⟨spA, erA, al1, LA, nxA, outA, lastA, nowA, o1, o2, o3, o4⟩ := out_sep (i0 nA [] al ⟨(fun _ h => by cases h), List.Pairwise.nil⟩) hA (by decide) 400 (by decide) 0 ⟨⟨false, 0, 167772161⟩, 1000⟩ ⟨⟨false, 0, 16843009⟩, 3478⟩ (Int.le_refl _) (Int.le_refl _)
  obtain ⟨alR1, o2⟩ := o2 alR
  have hlvA : Lv al1 (LA.map (·.sent.1)) := by have := o3.lv; rwa [List.append_nil] at this
  obtain ⟨spB, erB, al2, LB, nxB, outB, lastB, nowB, b1, b2, b3, b4⟩ := out_sep (i0 nB (LA.map (·.sent.1)) al1 hlvA) hB (by decide) 400 (by decide) 0 ⟨⟨false, 0, 167772161⟩, 1000⟩ ⟨⟨false, 0, 16843009⟩, 3478⟩ (Int.le_refl _) (Int.le_refl _)
  obtain ⟨alR2, b2⟩ := b2 alR1
  have h : TwoI nA nB al2 LA nxA outA lastA nowA LB nxB outB lastB nowB 1 1 := ⟨o3.beside (Nat.le_refl _) b3.lv, b3⟩
  obtain ⟨rq, rc, q1, q2, q3⟩ := rounds_all hA hB oA oB (rounds := rounds) (by omega) rounds.toNat 400 1 (KA := [spB]) (KB := [spA]) 0 0 alR2 (by omega) (by decide) (by omega) (by omega) h ⟨by simp, fun s hs => by rw [List.mem_singleton.1 hs]; exact b4⟩ ⟨by simp, fun s hs => by rw [List.mem_singleton.1 hs]; exact o4⟩
  refine ⟨fQ rq, rq.1, rc.1, ?_, ?_⟩
  · simp only [m_route_inner, bi_some]
    rw [o1]
    simp only [bi_some]
    rw [b1]
    simp only [bi_some]
    exact (congrArg (fun o => bi o fun q38 => some (fQ q38, (0 : Int), q38.1)) q1).trans rfl
  · have e : m_laneref1_CanOf 400 nA nB rounds alR = bi (m_laneref1_NewTranslator nA) fun y1 => bi (m_laneref1_NewTranslator nB) fun y3 => bi m_laneref1_server fun y5 => bi (m_laneref1_Translator_Out 400 y1 0 (⟨(⟨false, 0, 167772161⟩ : T_api_Addr), 1000⟩ : T_api_Spot) y5 alR) fun y7 => bi m_laneref1_server fun y9 => bi (m_laneref1_Translator_Out 400 y3 0 (⟨(⟨false, 0, 167772161⟩ : T_api_Addr), 1000⟩ : T_api_Spot) y9 y7.2.2.2) fun y11 => bi (loopM (gC 400 rounds) 400 (y11.2.2.2, y7.2.2.1.out, y7.2.2.1.n.Maps, y7.2.2.1.n.Lets, y7.2.2.1.n.Timeout, y7.2.2.1.n.First, y7.2.2.1.n.Ports, y7.2.2.1.n.Outer.Six, y7.2.2.1.n.Outer.Hi, y7.2.2.1.n.Outer.Lo, y7.2.2.1.last, y7.2.2.1.now, y11.2.2.1.out, y11.2.2.1.n.Maps, y11.2.2.1.n.Lets, y11.2.2.1.n.Timeout, y11.2.2.1.n.First, y11.2.2.1.n.Ports, y11.2.2.1.n.Outer.Six, y11.2.2.1.n.Outer.Hi, y11.2.2.1.n.Outer.Lo, y11.2.2.1.last, y11.2.2.1.now, [y7.1], [y11.1], (0, 0), 1)) fun q16 => some (fC q16, q16.1) := rfl
    rw [e]
    simp only [m_laneref1_NewTranslator, m_laneref1_server, bi_some]
    rw [o2]
    simp only [bi_some]
    rw [b2]
    simp only [bi_some]
    rw [q3]
    exact (congrArg (fun o => bi o fun q16 => some (fC q16, q16.1)) q2).trans rfl
end
theorem pick_rounds : ∀ x ∈ ([0, 1, 2, 3, 5, -1, 51] : List Int), ((0 ≤ x ∧ x ≤ 5) ∧ m_kit_Outside x 0 50 = some false ∧ m_laneref1_in x 0 50 = some true) ∨ (m_kit_Outside x 0 50 = some true ∧ m_laneref1_in x 0 50 = some false) := by
  intro x hx
  simp only [List.mem_cons, List.not_mem_nil, or_false] at hx
  rcases hx with rfl | rfl | rfl | rfl | rfl | rfl | rfl
  · exact .inl ⟨by decide, rfl, rfl⟩
  · exact .inl ⟨by decide, rfl, rfl⟩
  · exact .inl ⟨by decide, rfl, rfl⟩
  · exact .inl ⟨by decide, rfl, rfl⟩
  · exact .inl ⟨by decide, rfl, rfl⟩
  · exact .inr ⟨rfl, rfl⟩
  · exact .inr ⟨rfl, rfl⟩
theorem orE_two (x y : Int) : m_cmp_Or_api_Errno [x, y] = some (if x ≠ 0 then x else y) := by
  rw [orE_ok]
  by_cases h1 : x = 0 <;> by_cases h2 : y = 0 <;> simp [List.find?_cons, h1, h2]
def conf (a b : T_api_Nat) : Bool := ((((a.Outer.Six : Bool) == b.Outer.Six) && (((a.Outer.Hi : Int) == b.Outer.Hi) && (((a.Outer.Lo : Int) == b.Outer.Lo) && true))) || (((a.Outer.Six : Bool) == false) && (((a.Outer.Hi : Int) == 0) && (((a.Outer.Lo : Int) == 16843009) && true)))) || (((b.Outer.Six : Bool) == false) && (((b.Outer.Hi : Int) == 0) && (((b.Outer.Lo : Int) == 16843009) && true)))
theorem NodesMeet_true (l : List Int) (hl : l.length ≤ 9223372036854775807) (al : List Bool) : ∃ al', m_lanelaw1_NodesMeet 400 l al = some (true, al') := by
  unfold m_lanelaw1_NodesMeet
  obtain ⟨a, a0, ⟨pA, hiA⟩, d1, d2, e1⟩ := natD l hl 0 (by decide) (by decide)
  obtain ⟨b, b0, ⟨pB, hiB⟩, d3, d4, e2⟩ := natD l hl a0 (by omega) (by omega)
  obtain ⟨rounds, hrd, e3⟩ := pick_ok l b0 [0, 1, 2, 3, 5, -1, 51] hl (by omega) (by omega) (by simp) (by simp)
  rw [e1]; simp only [bi_some]
  rw [e2]; simp only [bi_some]
  rw [e3]; simp only [bi_some]
  -- the faults
  have hF : m_laneref1_CanFault a b rounds = bif (if nfZ a ≠ 0 then nfZ a else nfZ b) != 0 then some (if nfZ a ≠ 0 then nfZ a else nfZ b) else bif conf a b then some 13 else (bi (m_laneref1_in rounds 0 50) fun y21 => bif !y21 then (some 1) else (some 0)) := by
    unfold m_laneref1_CanFault
    rw [nfR a hiA, nfR b hiB]
    simp only [bi_some]
    rw [orE_two]
    simp only [bi_some, m_laneref1_server]
    congr 1
    have hc : (bif (((a.Outer.Six : Bool) == b.Outer.Six) && (((a.Outer.Hi : Int) == b.Outer.Hi) && (((a.Outer.Lo : Int) == b.Outer.Lo) && true))) then (some true) else (bif (((a.Outer.Six : Bool) == false) && (((a.Outer.Hi : Int) == 0) && (((a.Outer.Lo : Int) == 16843009) && true))) then (some true) else (some (((b.Outer.Six : Bool) == false) && (((b.Outer.Hi : Int) == 0) && (((b.Outer.Lo : Int) == 16843009) && true)))))) = some (conf a b) := by
      unfold conf
      generalize (((a.Outer.Six : Bool) == b.Outer.Six) && (((a.Outer.Hi : Int) == b.Outer.Hi) && (((a.Outer.Lo : Int) == b.Outer.Lo) && true))) = x
      generalize (((a.Outer.Six : Bool) == false) && (((a.Outer.Hi : Int) == 0) && (((a.Outer.Lo : Int) == 16843009) && true))) = y
      cases x <;> cases y <;> simp
    rw [hc]
    rfl
  have hP : ∀ al0, m_route_Can 400 a b rounds al0 = if nfZ a ≠ 0 then some (⟨0, 0⟩, nfZ a, al0) else if nfZ b ≠ 0 then some (⟨0, 0⟩, nfZ b, al0) else bif conf a b then some (⟨0, 0⟩, 13, al0) else (bi (m_kit_Outside rounds 0 50) fun y23 => bif y23 then (some ((⟨0, 0⟩ : T_api_Punched), 1, al0)) else (bi m_route_inner fun y27 => bi (m_route_Translator_Out 400 (⟨a, 0, a.First, ([] : List T_route_entry)⟩ : T_route_Translator) 0 y27 (⟨(⟨false, 0, 16843009⟩ : T_api_Addr), 3478⟩ : T_api_Spot) al0) fun y29 => bi m_route_inner fun y31 => bi (m_route_Translator_Out 400 (⟨b, 0, b.First, ([] : List T_route_entry)⟩ : T_route_Translator) 0 y31 (⟨(⟨false, 0, 16843009⟩ : T_api_Addr), 3478⟩ : T_api_Spot) y29.2.2.2) fun y33 =>
      bi (loopM (gQ 400 rounds) 400 (y33.2.2.2, y29.2.2.1.nat.Maps, y29.2.2.1.nat.Lets, y29.2.2.1.nat.Timeout, y29.2.2.1.nat.First, y29.2.2.1.nat.Ports, y29.2.2.1.nat.Outer.Six, y29.2.2.1.nat.Outer.Hi, y29.2.2.1.nat.Outer.Lo, y29.2.2.1.now, y29.2.2.1.v_next, 0, y33.2.2.1.nat.Maps, y33.2.2.1.nat.Lets, y33.2.2.1.nat.Timeout, y33.2.2.1.nat.First, y33.2.2.1.nat.Ports, y33.2.2.1.nat.Outer.Six, y33.2.2.1.nat.Outer.Hi, y33.2.2.1.nat.Outer.Lo, y33.2.2.1.now, y33.2.2.1.v_next, 0, y29.2.2.1.list, y33.2.2.1.list, [y33.1], [y29.1], 1)) fun q38 => some (fQ q38, (0 : Int), q38.1))) := by
    intro al0
    unfold m_route_Can
    rw [nats_ok a b fun y14 => ((⟨0, 0⟩ : T_api_Punched), y14, al0)]
    by_cases h1 : nfZ a = 0
    · by_cases h2 : nfZ b = 0
      · simp only [h1, h2, ne_eq, not_true_eq_false, if_false, bi_some, orI_inl]
        rfl
      · simp only [h1, h2, ne_eq, not_true_eq_false, not_false_eq_true, if_false, if_true, bi_some, orI_inr]
    · simp only [h1, ne_eq, not_false_eq_true, if_true, bi_some, orI_inr]
  rw [hP, hF]
  have bad : ∀ e : Int, e ≠ 0 → ∀ al0 : List Bool, ∃ al', (bi (some (((⟨0, 0⟩ : T_api_Punched), e, al0))) fun y7 => bi (some e) fun y9 => bif (y9 : Int) != 0 then (bi (bif (((y7.2.1 : Int) == y9) && (((y7.1.A : Int) == 0) && (((y7.1.v_B : Int) == 0) && true))) then (bi (m_lanelaw1_routed 400) fun y15 => some y15) else (some false)) fun q12 => some (q12, y7.2.2)) else (bi (bif (y7.2.1 : Int) == 0 then (bi (m_laneref1_CanOf 400 a b rounds y7.2.2) fun y22 => bif (((y7.1.A : Int) == y22.1.A) && (((y7.1.v_B : Int) == y22.1.v_B) && true)) then (bi (m_lanelaw1_routed 400) fun y25 => some (y22.2, y25)) else (some (y22.2, false))) else (some (y7.2.2, false))) fun q19 => some (q19.2, q19.1))) = some (true, al') := by
    intro e he al0
    simp only [bi_some]
    rw [bne_iff_ne.2 he]
    simp only [cond_true, beq_self_eq_true, Bool.and_self, bi_some, routed_ok]
    exact ⟨_, rfl⟩
  by_cases h1 : nfZ a = 0
  · have nA := nf0 pA h1
    by_cases h2 : nfZ b = 0
    · have nB := nf0 pB h2
      rw [h1, h2]
      simp only [ne_eq, not_true_eq_false, if_false, bne_self_eq_false, cond_false]
      cases hc : conf a b with
      | true => exact bad 13 (by decide) al
      | false =>
        simp only [cond_false]
        rcases pick_rounds rounds hrd with ⟨⟨r0, r5⟩, r1, r2⟩ | ⟨r1, r2⟩
        · rw [r1, r2]
          simp only [bi_some, cond_false, Bool.not_true]
          obtain ⟨x, al1, _, m1, _⟩ := meet_two nA nB hiA hiB r0 r5 al al
          obtain ⟨x2, al2, alR2, m2, m3⟩ := meet_two nA nB hiA hiB r0 r5 al al1
          rw [m1] at m2
          have hx := (Prod.mk.inj (Option.some.inj m2)).1
          subst hx
          rw [m1]
          simp only [bi_some, bne_self_eq_false, cond_false, beq_self_eq_true, cond_true]
          rw [m3]
          simp only [bi_some, beq_self_eq_true, Bool.and_self, cond_true, routed_ok]
          exact ⟨_, rfl⟩
        · rw [r1, r2]
          exact bad 1 (by decide) al
    · rw [h1]
      simp only [ne_eq, not_true_eq_false, if_false]
      rw [if_pos h2, bne_iff_ne.2 h2]
      exact bad _ h2 al
  · rw [if_pos h1, if_pos h1, bne_iff_ne.2 h1]
    exact bad _ h1 al
end Go.Gk
