/-
  The plain law of TranslatorsWork.
-/
import Derived.Test.YtnjnmkpgedkffaaTIn
set_option linter.unusedVariables false
set_option linter.unusedSimpArgs false
set_option linter.unusedSectionVars false
set_option maxRecDepth 100000
namespace Go.Gk
theorem dist_ok : m_route_distances 400 [([97], [(⟨[98], 3⟩ : T_route_step)]), ([98], [⟨[97], 3⟩])] [97] = some [([97], ⟨0, 0⟩), ([98], ⟨3, 1⟩)] := by
  unfold m_route_distances
  have e0 : mSet ([] : List (Str × T_route_far)) [97] ⟨0, 0⟩ = [([97], ⟨0, 0⟩)] := rfl
  rw [e0]
  refine bi_loop_go (k := 399) ([([97], ⟨0, 0⟩), ([98], ⟨3, 1⟩)], [([97], true)]) ?_ ?_
  · dsimp only
    rw [rangeP_one (r := (([97], true) : Str × Bool)) rfl]
    rfl
  refine bi_loop_go (k := 398) ([([97], ⟨0, 0⟩), ([98], ⟨3, 1⟩)], [([97], true), ([98], true)]) ?_ ?_
  · dsimp only
    rw [rangeP_two (r := (([98], true) : Str × Bool)) rfl rfl]
    rfl
  refine bi_loop_out (k := 397) [([97], ⟨0, 0⟩), ([98], ⟨3, 1⟩)] ?_ rfl
  · dsimp only
    rw [rangeP_two (r := (([], false) : Str × Bool)) rfl rfl]
    rfl
theorem through_ok : m_route_Through 400 [(⟨[97], [98], 3⟩ : T_api_Link)] [98] [97] = some ([[98], [97]], 3, 0) := by
  unfold m_route_Through
  rw [show m_route_CheckLinks 400 [(⟨[97], [98], 3⟩ : T_api_Link)] = some 0 from rfl, show m_kit_IsKey 400 [98] = some true from rfl, show m_kit_IsKey 400 [97] = some true from rfl]
  simp only [bi_some]
  rw [show ((0 : Int) != 0) = false from rfl]
  simp only [cond_false, Bool.not_true, bi_some]
  have h : m_route_through 400 [(⟨[97], [98], 3⟩ : T_api_Link)] [98] [97] = some ([[98], [97]], 3, 0) := by
    unfold m_route_through
    rw [show m_route_stepsOf [(⟨[97], [98], 3⟩ : T_api_Link)] = some [([97], [(⟨[98], 3⟩ : T_route_step)]), ([98], [⟨[97], 3⟩])] from rfl]
    simp only [bi_some]
    rw [dist_ok]
    rfl
  rw [h]
  rfl
theorem routed_ok : m_lanelaw1_routed 400 = some true := by
  unfold m_lanelaw1_routed
  rw [through_ok]
  rfl
theorem inT {x : Int} {xs : List Int} (p : Int → Bool) (h : xs.all p = true) (hx : x ∈ xs) : p x = true := List.all_eq_true.1 h x hx
theorem u64_nn (x : Int) : 0 ≤ IntKind.u64.wrap x := Int.emod_nonneg _ (by decide)
theorem addrD (l : List Int) (hl : l.length ≤ 9223372036854775807) (a : Int) (h0 : 0 ≤ a) (h1 : a < 4611686018427360000) : Dr l a 3 (m_lanemake_Stream_Addr ⟨l, a⟩) fun x => 0 ≤ x.Hi := by
  unfold m_lanemake_Stream_Addr Dr
  obtain ⟨r, r0, r1, e⟩ := next_ok l a 6 hl h0 (by omega) (by decide) (by decide)
  rw [e]
  simp only [bi_some]
  cases (r == 0) with
  | true =>
    obtain ⟨r2, s0, s1, e2⟩ := next_ok l (a + 1) 5 hl (by omega) (by omega) (by decide) (by decide)
    obtain ⟨x, hx, e3⟩ := getZ_in ([0, 18230571291595767808, 2306139568115548160, 9223372036854775808, 18446744073709551615] : List Int) s0 (by simpa using s1)
    obtain ⟨r3, t0, t1, e4⟩ := next_ok l (a + 1 + 1) 5 hl (by omega) (by omega) (by decide) (by decide)
    obtain ⟨y, hy, e5⟩ := getZ_in ([0, 1, 2, 4294967296, 18446744073709551615] : List Int) t0 (by simpa using t1)
    simp only [cond_true, e2, e3, e4, e5, bi_some]
    refine ⟨_, _, ?_, ?_, ?_, rfl⟩; exact of_decide_eq_true (inT (fun x => decide (0 ≤ x)) (by decide) hx); omega; omega
  | false =>
    simp only [cond_false]
    cases (r == 1) with
    | true =>
      obtain ⟨r3, t0, t1, e4⟩ := next_ok l (a + 1) 5 hl (by omega) (by omega) (by decide) (by decide)
      obtain ⟨y, hy, e5⟩ := getZ_in ([0, 1, 4294967295, 2130706433, 3232235521] : List Int) t0 (by simpa using t1)
      simp only [cond_true, e4, e5, bi_some]
      refine ⟨_, _, ?_, ?_, ?_, rfl⟩; exact Int.le_refl _; omega; omega
    | false =>
      simp only [cond_false]
      cases (r == 2) with
      | true =>
        obtain ⟨r3, t0, t1, e4⟩ := range_ok l (a + 1) 0 16777216 hl (by omega) (by omega) (by decide) (by decide) (by decide)
        simp only [cond_true, e4, bi_some, remZ]
        refine ⟨_, _, ?_, ?_, ?_, rfl⟩; exact Int.le_refl _; omega; omega
      | false =>
        obtain ⟨r3, t0, t1, e4⟩ := range_ok l (a + 1) 0 20 hl (by omega) (by omega) (by decide) (by decide) (by decide)
        simp only [cond_false, e4, bi_some]
        refine ⟨_, _, ?_, ?_, ?_, rfl⟩; exact Int.le_refl _; omega; omega
theorem rawD (l : List Int) (hl : l.length ≤ 9223372036854775807) (a : Int) (h0 : 0 ≤ a) (h1 : a < 4611686018427350000) : Dr l a 10 (m_lanemake_Stream_Raw ⟨l, a⟩) fun x => 0 ≤ x.Hi := by
  unfold m_lanemake_Stream_Raw Dr
  obtain ⟨x, a1, hx, c1, c2, e⟩ := addrD l hl a h0 (by omega)
  obtain ⟨f, hf⟩ := flip_ok l a1 15 hl (by omega) (by omega) (by decide) (by decide)
  rw [e]
  simp only [bi_some]
  rw [hf]
  simp only [bi_some]
  cases f with
  | false => simp only [cond_false]; refine ⟨_, _, hx, ?_, ?_, rfl⟩; omega; omega
  | true =>
    obtain ⟨r2, s0, s1, e2⟩ := next_ok l (a1 + 1) 2 hl (by omega) (by omega) (by decide) (by decide)
    obtain ⟨r3, t0, t1, e4⟩ := next_ok l (a1 + 1 + 1) 3 hl (by omega) (by omega) (by decide) (by decide)
    obtain ⟨y, hy, e5⟩ := getZ_in ([4294967296, 5, 1099511627776] : List Int) t0 (by simpa using t1)
    simp only [cond_true, e2, e4, e5, bi_some]
    refine ⟨_, _, u64_nn _, ?_, ?_, rfl⟩; omega; omega
theorem spotD (l : List Int) (hl : l.length ≤ 9223372036854775807) (a : Int) (h0 : 0 ≤ a) (h1 : a < 4611686018427340000) : Dr l a 20 (m_lanemake_Stream_Spot ⟨l, a⟩) fun x => 0 ≤ x.Addr.Hi := by
  unfold m_lanemake_Stream_Spot Dr m_lanemake_at
  obtain ⟨x, _, _, e⟩ := range_ok l a 5 7 hl (by omega) (by omega) (by decide) (by decide) (by decide)
  obtain ⟨y, _, e1⟩ := pick_ok l (a + 1) [80, 80, 443, 1000] hl (by omega) (by omega) (by simp) (by simp)
  obtain ⟨f, hf⟩ := flip_ok l (a + 1 + 1) 40 hl (by omega) (by omega) (by decide) (by decide)
  rw [e]
  simp only [bi_some]
  rw [e1]
  simp only [bi_some]
  rw [hf]
  simp only [bi_some]
  cases f with
  | false => simp only [cond_false, bi_some]; refine ⟨_, _, ?_, ?_, ?_, rfl⟩; exact Int.le_refl _; omega; omega
  | true =>
    obtain ⟨z, a1, hz, c1, c2, e2⟩ := rawD l hl (a + 1 + 1 + 1) (by omega) (by omega)
    obtain ⟨w, a2, _, c3, c4, e3⟩ := oddD l a1 1 65535 hl (by omega) (by omega) (by decide) (by decide) (by decide)
    simp only [cond_true, e2, e3, bi_some]
    refine ⟨_, _, hz, ?_, ?_, rfl⟩; omega; omega
theorem natD (l : List Int) (hl : l.length ≤ 9223372036854775807) (a : Int) (h0 : 0 ≤ a) (h1 : a < 4611686018427340000) : Dr l a 60 (m_lanemake_Stream_Nat ⟨l, a⟩) fun n => (1 ≤ n.Ports ∧ n.Ports ≤ 6) ∧ 0 ≤ n.Outer.Hi := by
  unfold m_lanemake_Stream_Nat Dr m_lanemake_at
  obtain ⟨x1, _, _, e1⟩ := range_ok l a 1 3 hl (by omega) (by omega) (by decide) (by decide) (by decide)
  obtain ⟨x2, _, _, e2⟩ := range_ok l (a + 1) 1 3 hl (by omega) (by omega) (by decide) (by decide) (by decide)
  obtain ⟨x3, _, e3⟩ := pick_ok l (a + 1 + 1) [1, 2, 5, 30] hl (by omega) (by omega) (by simp) (by simp)
  obtain ⟨x4, _, e4⟩ := pick_ok l (a + 1 + 1 + 1) [1, 5000, 65530] hl (by omega) (by omega) (by simp) (by simp)
  obtain ⟨x5, hx5, e5⟩ := pick_ok l (a + 1 + 1 + 1 + 1) [1, 2, 3, 6] hl (by omega) (by omega) (by simp) (by simp)
  obtain ⟨x6, _, _, e6⟩ := range_ok l (a + 1 + 1 + 1 + 1 + 1) 1 3 hl (by omega) (by omega) (by decide) (by decide) (by decide)
  obtain ⟨f, hf⟩ := flip_ok l (a + 1 + 1 + 1 + 1 + 1 + 1) 20 hl (by omega) (by omega) (by decide) (by decide)
  have hp : 1 ≤ x5 ∧ x5 ≤ 6 := of_decide_eq_true (inT (fun x => decide (1 ≤ x ∧ x ≤ 6)) (by decide) hx5)
  rw [e1]; simp only [bi_some]
  rw [e2]; simp only [bi_some]
  rw [e3]; simp only [bi_some]
  rw [e4]; simp only [bi_some]
  rw [e5]; simp only [bi_some]
  rw [e6]; simp only [bi_some]
  rw [hf]; simp only [bi_some]
  cases f with
  | false => simp only [cond_false, bi_some]; refine ⟨_, _, ⟨hp, ?_⟩, ?_, ?_, rfl⟩; exact Int.le_refl _; omega; omega
  | true =>
    obtain ⟨w1, a1, _, c1, d1, g1⟩ := oddD l (a + 1 + 1 + 1 + 1 + 1 + 1 + 1) 1 3 hl (by omega) (by omega) (by decide) (by decide) (by decide)
    obtain ⟨w2, a2, _, c2, d2, g2⟩ := oddD l a1 1 3 hl (by omega) (by omega) (by decide) (by decide) (by decide)
    obtain ⟨w3, a3, _, c3, d3, g3⟩ := oddD l a2 1 1000000 hl (by omega) (by omega) (by decide) (by decide) (by decide)
    obtain ⟨w4, a4, _, c4, d4, g4⟩ := oddD l a3 1 65535 hl (by omega) (by omega) (by decide) (by decide) (by decide)
    obtain ⟨w5, a5, hw, c5, d5, g5⟩ := rawD l hl a4 (by omega) (by omega)
    simp only [cond_true, g1, g2, g3, g4, g5, bi_some]
    refine ⟨_, _, ⟨hp, hw⟩, ?_, ?_, rfl⟩; omega; omega
/-! ### The translator's settings -/
def nfZ (n : T_api_Nat) : Int := if ¬ ((1 ≤ n.Maps ∧ n.Maps ≤ 3) ∧ (1 ≤ n.Lets ∧ n.Lets ≤ 3)) then 4 else if ¬ ((1 ≤ n.Timeout ∧ n.Timeout ≤ 1000000) ∧ (1 ≤ n.First ∧ n.First ≤ 65535) ∧ (1 ≤ n.Ports ∧ n.Ports ≤ wi (65536 - n.First))) then 1 else afZ n.Outer
theorem nfP (n : T_api_Nat) : m_route_natFault n = some (nfZ n) := by
  unfold m_route_natFault nfZ
  simp only [out_ok, bi_some, afP]
  by_cases h1 : 1 ≤ n.Maps ∧ n.Maps ≤ 3 <;> by_cases h2 : 1 ≤ n.Lets ∧ n.Lets ≤ 3 <;> by_cases h3 : 1 ≤ n.Timeout ∧ n.Timeout ≤ 1000000 <;> by_cases h4 : 1 ≤ n.First ∧ n.First ≤ 65535 <;> by_cases h5 : 1 ≤ n.Ports ∧ n.Ports ≤ wi (65536 - n.First) <;>
    simp only [h1, h2, h3, h4, h5, decide_true, decide_false, Bool.not_true, Bool.not_false, cond_true, cond_false, bi_some, and_self, not_true_eq_false, not_false_eq_true, if_true, if_false, and_true, true_and, and_false, false_and]
theorem nfR (n : T_api_Nat) (h0 : 0 ≤ n.Outer.Hi) : m_laneref1_NatFault n = some (nfZ n) := by
  unfold m_laneref1_NatFault nfZ
  simp only [in_ok, bi_some, afR _ h0]
  by_cases h1 : 1 ≤ n.Maps ∧ n.Maps ≤ 3 <;> by_cases h2 : 1 ≤ n.Lets ∧ n.Lets ≤ 3 <;> by_cases h3 : 1 ≤ n.Timeout ∧ n.Timeout ≤ 1000000 <;> by_cases h4 : 1 ≤ n.First ∧ n.First ≤ 65535 <;> by_cases h5 : 1 ≤ n.Ports ∧ n.Ports ≤ wi (65536 - n.First) <;>
    simp only [h1, h2, h3, h4, h5, decide_true, decide_false, Bool.not_true, Bool.not_false, cond_true, cond_false, bi_some, and_self, not_true_eq_false, not_false_eq_true, if_true, if_false, and_true, true_and, and_false, false_and]
theorem nf0 {n : T_api_Nat} (hp : 1 ≤ n.Ports ∧ n.Ports ≤ 6) (h : nfZ n = 0) : NOk n := by
  unfold nfZ at h
  by_cases h1 : (1 ≤ n.Maps ∧ n.Maps ≤ 3) ∧ (1 ≤ n.Lets ∧ n.Lets ≤ 3)
  · rw [if_neg (not_not_intro h1)] at h
    by_cases h2 : (1 ≤ n.Timeout ∧ n.Timeout ≤ 1000000) ∧ (1 ≤ n.First ∧ n.First ≤ 65535) ∧ (1 ≤ n.Ports ∧ n.Ports ≤ wi (65536 - n.First))
    · have := h2.2.2.2
      rw [wi_id (by omega) (by omega)] at this
      exact ⟨h2.1, h2.2.1, hp, by omega⟩
    · rw [if_pos h2] at h; omega
  · rw [if_pos h1] at h; omega
theorem rangeI_go {σ ρ : Type} {f : Nat → σ → Option (LS σ ρ)} {n : Int} {s : σ} (I : Nat → σ → Prop) (h0 : I 0 s)
    (step : ∀ (i : Nat) (s : σ), i < n.toNat → I i s → ∃ s', f i s = some (.go s') ∧ I (i + 1) s') : ∃ r, rangeI f n s = some (.go r) ∧ I n.toNat r := by
  rcases rangeM_at (f := fun i (_ : Unit) s => f i s) (List.replicate n.toNat ()) I (fun _ => False) (fun i x s hx hi => .inl (step i s (by have := (List.getElem?_eq_some_iff.1 hx).1; simpa using this) hi)) (List.replicate n.toNat ()) 0 s rfl h0 with ⟨r, h1, h2⟩ | ⟨r, _, h⟩
  · exact ⟨r, h1, by simpa using h2⟩
  · exact h.elim
theorem TranslatorsWork_true (l : List Int) (hl : l.length ≤ 9223372036854775807) (al : List Bool) : ∃ al', m_lanelaw1_TranslatorsWork 400 l al = some (true, al') := by
  unfold m_lanelaw1_TranslatorsWork
  obtain ⟨n, a0, ⟨hp, hhi⟩, d1, d2, e⟩ := natD l hl 0 (by decide) (by decide)
  rw [e]
  simp only [bi_some]
  unfold m_route_New
  rw [nfP, nfR n hhi]
  simp only [bi_some]
  by_cases hnf : nfZ n = 0
  · have hn := nf0 hp hnf
    rw [hnf]
    simp only [bne_self_eq_false, cond_false, bi_some, Bool.or_self, m_laneref1_NewTranslator]
    obtain ⟨m, m0, m1, e2⟩ := next_ok l a0 16 hl (by omega) (by omega) (by decide) (by decide)
    rw [e2]
    simp only [bi_some]
    rw [decide_eq_true (show m ≤ 9223372036854775807 by omega), gd_true]
    clear e
    generalize hf : (fun (i23 : Nat) (s24 : (List Bool) × T_lanemake_Stream × (List T_route_entry) × Int × Int × Int × Int × Int × Bool × Int × Int × Int × Int × (List T_laneref1_sent) × Int × Int × Int × Int × Int × Bool × Int × Int × Int × Int × Int) => _) = f
    obtain ⟨r, hr, _⟩ := rangeI_go (f := f) (n := m) (s := (al, ⟨l, a0 + 1⟩, [], n.Maps, n.Lets, n.Timeout, n.First, n.Ports, n.Outer.Six, n.Outer.Hi, n.Outer.Lo, 0, n.First, [], n.Maps, n.Lets, n.Timeout, n.First, n.Ports, n.Outer.Six, n.Outer.Hi, n.Outer.Lo, 0, 0, 0))
      (fun i s => ∃ al1 a1 L now nx out last rnow v_at, s = (al1, ⟨l, a1⟩, L, n.Maps, n.Lets, n.Timeout, n.First, n.Ports, n.Outer.Six, n.Outer.Hi, n.Outer.Lo, now, nx, out, n.Maps, n.Lets, n.Timeout, n.First, n.Ports, n.Outer.Six, n.Outer.Hi, n.Outer.Lo, last, rnow, v_at) ∧ rnow = now ∧ Inv n al1 L nx out last now i ∧ 0 ≤ a1 ∧ a1 ≤ 1000 + 100 * (i : Int) ∧ 0 ≤ v_at ∧ v_at ≤ 40 * (i : Int))
      ⟨al, a0 + 1, [], 0, n.First, [], 0, 0, 0, rfl, rfl, ⟨by decide, by decide, Nat.le_refl _, (fun _ h => by cases h), .nil, List.nodup_nil, (fun _ h => by cases h), List.nodup_nil, ⟨(fun _ h => by cases h), List.Pairwise.nil⟩, by unfold cyc qn; simp, .inl rfl⟩, by omega, by omega, by decide, by decide⟩ (by
        rintro i s hi ⟨al1, a1, L, now, nx, out, last, rnow, v_at, rfl, rfl, hI, b1, b2, b3, b4⟩
        have him : (i : Int) < 16 := by omega
        subst hf
        simp only
        obtain ⟨q1, hq1, e1⟩ := pick_ok l a1 [0, 0, 1, 1, 2, 10, 40] hl (by omega) (by omega) (by simp) (by simp)
        obtain ⟨fl, e2⟩ := flip_ok l (a1 + 1) 30 hl (by omega) (by omega) (by decide) (by decide)
        have hqb : 0 ≤ q1 ∧ q1 ≤ 40 := of_decide_eq_true (inT (fun x => decide (0 ≤ x ∧ x ≤ 40)) (by decide) hq1)
        have hwi : wi (v_at + q1) = v_at + q1 := wi_id (by omega) (by omega)
        rw [e1]; simp only [bi_some]
        rw [e2]; simp only [bi_some]
        obtain ⟨a2, w, e3, c1, c2⟩ : ∃ a2 w, (bif fl then (bi (m_lanemake_Stream_Pick (⟨l, a1 + 1 + 1⟩ : T_lanemake_Stream) [-1, 0, 345686400]) fun y42 => some (y42.2, y42.1)) else (some ((⟨l, a1 + 1 + 1⟩ : T_lanemake_Stream), wi (v_at + q1)))) = some ((⟨l, a2⟩ : T_lanemake_Stream), w) ∧ a1 ≤ a2 ∧ a2 ≤ a1 + 3 := by
          cases fl with
          | false => exact ⟨_, _, rfl, by omega, by omega⟩
          | true =>
            obtain ⟨z, _, ez⟩ := pick_ok l (a1 + 1 + 1) [-1, 0, 345686400] hl (by omega) (by omega) (by simp) (by simp)
            refine ⟨a1 + 1 + 1 + 1, z, ?_, by omega, by omega⟩
            simp only [cond_true, ez, bi_some]
        rw [e3]; simp only [bi_some]
        obtain ⟨g1, _, _, e4⟩ := range_ok l a2 1 2 hl (by omega) (by omega) (by decide) (by decide) (by decide)
        obtain ⟨g2, _, e5⟩ := pick_ok l (a2 + 1) [1, 7] hl (by omega) (by omega) (by simp) (by simp)
        obtain ⟨sp, a3, hsp, c3, c4, e6⟩ := spotD l hl (a2 + 1 + 1) (by omega) (by omega)
        obtain ⟨g3, _, e7⟩ := pick_ok l a3 [n.First, n.First, wi (n.First + 1), 0, 65536] hl (by omega) (by omega) (by simp) (by simp)
        obtain ⟨g4, _, _, e8⟩ := next_ok l (a3 + 1) 5 hl (by omega) (by omega) (by decide) (by decide)
        rw [e4]; simp only [bi_some]
        rw [e5]; simp only [bi_some]
        rw [e6]; simp only [bi_some]
        rw [e7]; simp only [bi_some]
        rw [e8]; simp only [bi_some]
        have hcnt : i < 50 := by omega
        have e9 : ∀ x y : Int, (bif g4 == x then (some (g4 == x)) else (some (g4 == y))) = some ((g4 == x) || (g4 == y)) := fun x y => by cases (g4 == x) <;> rfl
        rw [e9]
        simp only [bi_some]
        cases ((g4 == 0) || (g4 == 1)) with
        | true =>
          obtain ⟨rs, er, al2, al3, L', nx', out', last', now', o1, o2, o3⟩ := out_two hI hn hcnt 400 (by decide) w ⟨⟨false, 0, IntKind.u64.wrap g1⟩, g2⟩ sp (Int.le_refl _) hsp
          simp only [cond_true]
          rw [o1]; simp only [bi_some]
          rw [o2]; simp only [bi_some]
          rw [spot_eq, decide_eq_true (rfl : rs = rs)]
          simp only [bne_self_eq_false, Bool.not_true, Bool.or_self, cond_false]
          refine ⟨_, rfl, al3, a3 + 1 + 1, L', now', nx', out', last', now', v_at + q1, by rw [hwi], rfl, o3, by omega, by push_cast; omega, by omega, by push_cast; omega⟩
        | false =>
          simp only [cond_false]
          rw [e9]
          simp only [bi_some]
          cases ((g4 == 2) || (g4 == 3)) with
          | true =>
            obtain ⟨rs, ok, er, al3, L', now', o1, o2, o3⟩ := in_two hI hcnt 400 (by decide) w sp g3 hsp
            simp only [cond_true]
            rw [o1]; simp only [bi_some]
            rw [o2]; simp only [bi_some]
            rw [spot_eq, decide_eq_true (rfl : rs = rs)]
            simp only [bne_self_eq_false, beq_self_eq_true, Bool.not_true, Bool.or_self, cond_false]
            refine ⟨_, rfl, al3, a3 + 1 + 1, L', now', nx, out, last, now', v_at + q1, by rw [hwi], rfl, o3, by omega, by push_cast; omega, by omega, by push_cast; omega⟩
          | false =>
            obtain ⟨ln, er, al3, L', now', o1, o2, o3⟩ := entries_two hI hcnt 400 (by decide) w
            simp only [cond_false]
            rw [o1]; simp only [bi_some]
            rw [o2]; simp only [bi_some]
            simp only [bne_self_eq_false, Bool.or_self, cond_false]
            refine ⟨_, rfl, al3, a3 + 1 + 1, L', now', nx, out, last, now', v_at + q1, by rw [hwi], rfl, o3, by omega, by push_cast; omega, by omega, by push_cast; omega⟩)
    rw [hr]
    simp only [bi_some, goI_go, routed_ok]
    exact ⟨_, rfl⟩
  · rw [bne_iff_ne.2 hnf]
    simp only [cond_true, bi_some, beq_self_eq_true, Bool.and_self, routed_ok]
    exact ⟨_, rfl⟩
end Go.Gk
