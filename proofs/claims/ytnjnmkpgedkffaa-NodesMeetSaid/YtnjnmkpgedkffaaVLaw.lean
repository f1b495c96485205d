/-
  The plain law of NodesMeet.
-/
import Derived.Test.YtnjnmkpgedkffaaVTurn
set_option linter.unusedVariables false
set_option linter.unusedSimpArgs false
set_option linter.unusedSectionVars false
set_option maxRecDepth 100000
namespace Go.Gk
theorem rangeG_L {α σ : Type} {f : Nat → σ → Option σ} {g : Nat → α → σ → Option σ} (l : List α) (h : ∀ (j : Nat) x s, l[j]? = some x → f j s = g j x s) (s : σ) : rangeG f (l.length : Int) s = rangeF g 0 l s := by
  have key : ∀ (m : List α) (i : Nat) (s : σ), (∀ (j : Nat) x s, m[j]? = some x → f (i + j) s = g (i + j) x s) → rangeF (fun i (_ : Unit) s => f i s) i (List.replicate m.length ()) s = rangeF g i m s := by
    intro m
    induction m with
    | nil => intro i s _; rfl
    | cons x m ih =>
      intro i s h
      have h0 := h 0 x s (by simp)
      rw [Nat.add_zero] at h0
      simp only [List.length_cons, List.replicate_succ, rangeF, h0]
      cases g i x s with
      | none => rfl
      | some y => exact ih (i + 1) y fun j y s hy => by rw [show i + 1 + j = i + (j + 1) by omega]; exact h (j + 1) y s (by simpa using hy)
  unfold rangeG
  rw [Int.toNat_natCast]
  exact key l 0 s fun j x s hx => by rw [Nat.zero_add]; exact h j x s hx
theorem turn_all {nX nY : T_api_Nat} (hX : NOk nX) (hY : NOk nY) (oX : 0 ≤ nX.Outer.Hi) (oY : 0 ≤ nY.Outer.Hi) (v : Int) : ∀ (K : List T_api_Spot) (i : Nat) {al : List Bool} {LX : List T_route_entry} {nxX : Int} {outX : List T_laneref1_sent} {lastX nowX : Int} {LY : List T_route_entry} {nxY : Int} {outY : List T_laneref1_sent} {lastY nowY : Int} {c e : Nat} {KY : List T_api_Spot} (hd : Int) (alR : List Bool),
    (∀ s ∈ K, Spt nY s) → TwoI nX nY al LX nxX outX lastX nowX LY nxY outY lastY nowY c e → c + K.length ≤ 50 → e < 50 → KOk nX KY →
    ∃ al' LX' nxX' outX' lastX' nowX' LY' nowY' KY' hd' alR', rangeF (fP 400 v) i K (pS nX nY nowX nxX nowY nxY hd al LX LY KY) = some (pS nX nY nowX' nxX' nowY' nxY hd' al' LX' LY' KY') ∧
      rangeF (fR1 400 v) i K (rS nX nY alR outX lastX nowX outY lastY nowY KY hd) = some (rS nX nY alR' outX' lastX' nowX' outY lastY nowY' KY' hd') ∧
      rangeF (fR2 400 v) i K (rS nY nX alR outY lastY nowY outX lastX nowX KY hd) = some (rS nY nX alR' outY lastY nowY' outX' lastX' nowX' KY' hd') ∧
      TwoI nX nY al' LX' nxX' outX' lastX' nowX' LY' nxY outY lastY nowY' (c + K.length) e ∧ KOk nX KY'
  | [], i, al, LX, nxX, outX, lastX, nowX, LY, nxY, outY, lastY, nowY, c, e, KY, hd, alR, _, h, _, _, hK => ⟨al, LX, nxX, outX, lastX, nowX, LY, nowY, KY, hd, alR, rfl, rfl, rfl, h, hK⟩
  | x :: K, i, al, LX, nxX, outX, lastX, nowX, LY, nxY, outY, lastY, nowY, c, e, KY, hd, alR, hs, h, hc, he, hK => by
    simp only [List.length_cons] at hc
    obtain ⟨al1, LX1, nxX1, outX1, lastX1, nowX1, LY1, nowY1, KY1, hd1, alR1, p1, p2, p3, p4, p5⟩ := turn_step hX hY oX oY h (by omega) he v i x (hs x List.mem_cons_self) hK hd alR
    obtain ⟨al2, LX2, nxX2, outX2, lastX2, nowX2, LY2, nowY2, KY2, hd2, alR2, q1, q2, q3, q4, q5⟩ := turn_all hX hY oX oY v K (i + 1) hd1 alR1 (fun s hm => hs s (List.mem_cons_of_mem _ hm)) p4 (by omega) he p5
    refine ⟨al2, LX2, nxX2, outX2, lastX2, nowX2, LY2, nowY2, KY2, hd2, alR2, ?_, ?_, ?_, by rw [List.length_cons, show c + (K.length + 1) = c + 1 + K.length by omega]; exact q4, q5⟩
    · simp only [rangeF, p1, bi_some]; exact q1
    · simp only [rangeF, p2, bi_some]; exact q2
    · simp only [rangeF, p3, bi_some]; exact q3
theorem peer_eq {nX nY : T_api_Nat} {nowX nxX nowY nxY hX hY v : Int} {al : List Bool} {LX LY : List T_route_entry} {KX KY : List T_api_Spot} {nowX' nxX' nowY' nxY' hY' : Int} {al' : List Bool} {LX' LY' : List T_route_entry} {KY' : List T_api_Spot} (hl : KX.length ≤ 1000)
    (h : rangeF (fP 400 v) 0 KX (pS nX nY nowX nxX nowY nxY hY al LX LY KY) = some (pS nX nY nowX' nxX' nowY' nxY' hY' al' LX' LY' KY')) :
    m_route_peer_turn 400 ⟨⟨nX, nowX, nxX, LX⟩, KX, hX⟩ ⟨⟨nY, nowY, nxY, LY⟩, KY, hY⟩ v al = some (⟨⟨nX, nowX', nxX', LX'⟩, KX, hX⟩, ⟨⟨nY, nowY', nxY', LY'⟩, KY', hY'⟩, al') := by
  unfold m_route_peer_turn
  rw [small_gd (by simp only; omega), gd_true, rangeG_L (g := fP 400 v) KX (fun j x s hx => by simp only [getZ_cast, hx, bi_some]; rfl)]
  exact (congrArg (fun o => bi o _) h).trans rfl
def qS (nA nB : T_api_Nat) (al : List Bool) (nowA nxA hA nowB nxB hB : Int) (LA LB : List T_route_entry) (KA KB : List T_api_Spot) (i : Int) : SQ :=
  (al, nA.Maps, nA.Lets, nA.Timeout, nA.First, nA.Ports, nA.Outer.Six, nA.Outer.Hi, nA.Outer.Lo, nowA, nxA, hA, nB.Maps, nB.Lets, nB.Timeout, nB.First, nB.Ports, nB.Outer.Six, nB.Outer.Hi, nB.Outer.Lo, nowB, nxB, hB, LA, LB, KA, KB, i)
def cS (nA nB : T_api_Nat) (alR : List Bool) (outA : List T_laneref1_sent) (lastA nowA : Int) (outB : List T_laneref1_sent) (lastB nowB : Int) (KB KA : List T_api_Spot) (hA hB i : Int) : SC :=
  (alR, outA, nA.Maps, nA.Lets, nA.Timeout, nA.First, nA.Ports, nA.Outer.Six, nA.Outer.Hi, nA.Outer.Lo, lastA, nowA, outB, nB.Maps, nB.Lets, nB.Timeout, nB.First, nB.Ports, nB.Outer.Six, nB.Outer.Hi, nB.Outer.Lo, lastB, nowB, KB, KA, (hA, hB), i)
theorem cloneS_ok (K : List T_api_Spot) (h : K.length ≤ 1000) : m_slices_Clone_api_Spot_api_Spot K = some K := by
  unfold m_slices_Clone_api_Spot_api_Spot
  rw [apd_some (by simp; omega)]
  rfl
section
variable {nA nB : T_api_Nat} (hA : NOk nA) (hB : NOk nB) (oA : 0 ≤ nA.Outer.Hi) (oB : 0 ≤ nB.Outer.Hi)
include hA hB oA oB
/-- One round. -/
theorem round_two {rounds : Int} {al : List Bool} {LA : List T_route_entry} {nxA : Int} {outA : List T_laneref1_sent} {lastA nowA : Int} {LB : List T_route_entry} {nxB : Int} {outB : List T_laneref1_sent} {lastB nowB : Int} {c : Nat} {KA KB : List T_api_Spot} (eA eB : Int) (alR : List Bool) (i : Int) (hi : i ≤ rounds) (hw : wi (i + 1) = i + 1)
    (h : TwoI nA nB al LA nxA outA lastA nowA LB nxB outB lastB nowB c c) (hc : c ≤ 42) (hKA : KOk nB KA) (hKB : KOk nA KB) :
    ∃ al' LA' nxA' outA' lastA' nowA' LB' nxB' outB' lastB' nowB' KA' KB' eA' eB' alR', gQ 400 rounds (qS nA nB al nowA nxA eA nowB nxB eB LA LB KA KB i) = some (.go (qS nA nB al' nowA' nxA' eA' nowB' nxB' eB' LA' LB' KA' KB' (i + 1))) ∧
      gC 400 rounds (cS nA nB alR outA lastA nowA outB lastB nowB KB KA eA eB i) = some (.go (cS nA nB alR' outA' lastA' nowA' outB' lastB' nowB' KB' KA' eA' eB' (i + 1))) ∧
      TwoI nA nB al' LA' nxA' outA' lastA' nowA' LB' nxB' outB' lastB' nowB' (c + 7) (c + 7) ∧ KOk nB KA' ∧ KOk nA KB' := by
  have lA := hKA.len hB
  have lB := hKB.len hA
  obtain ⟨al1, LA1, nxA1, outA1, lastA1, nowA1, LB1, nowB1, KB1, eB1, alR1, p1, p2, _, p4, p5⟩ := turn_all hA hB oA oB i KA 0 eB alR hKA.sp h (by omega) (by omega) hKB
  have lB1 := p5.len hA
  obtain ⟨al2, LB2, nxB2, outB2, lastB2, nowB2, LA2, nowA2, KA2, eA2, alR2, q1, _, q3, q4, q5⟩ := turn_all hB hA oB oA i KB1 0 eA alR1 p5.sp p4.symm (by omega) (by omega) hKA
  refine ⟨al2, LA2, nxA1, outA1, lastA1, nowA2, LB2, nxB2, outB2, lastB2, nowB2, KA2, KB1, eA2, eB1, alR2, ?_, ?_, ⟨q4.y.beside (by omega) (q4.x.lv), q4.x.beside (by omega) (q4.y.lv)⟩, q5, p5⟩
  · unfold gQ qS
    simp only
    rw [decide_eq_true hi]
    simp only [cond_true]
    rw [peer_eq (nX := nA) (nY := nB) (hX := eA) (KX := KA) (by omega) p1]
    simp only [bi_some]
    rw [peer_eq (nX := nB) (nY := nA) (hX := eB1) (KX := KB1) (by omega) q1]
    simp only [bi_some, hw]
  · unfold gC cS
    simp only
    rw [decide_eq_true hi]
    simp only [cond_true]
    rw [cloneS_ok KA (by omega)]
    simp only [bi_some]
    refine (congrArg (fun o => bi o _) p2).trans ?_
    simp only [bi_some, rS]
    rw [cloneS_ok KB1 (by omega)]
    simp only [bi_some]
    refine (congrArg (fun o => bi o _) q3).trans ?_
    simp only [bi_some, rS, hw]
end
end Go.Gk
