/-
  The plain laws of routers: how long a node is up, two ways.
-/
import Derived.Test.YtnjnmkpgedkffaaGreatDoorWTime
set_option linter.unusedVariables false
set_option linter.unusedSimpArgs false
set_option linter.unusedSectionVars false
set_option maxRecDepth 100000
namespace Go.Gk
theorem stA_end {l : List T_api_Health} (hv : ValH l) (w : T_api_Window) (node : Str) : stA w node l End = l.foldl (stp w node) (0, 0, false) := by
  unfold stA
  rw [List.filter_eq_self.2 fun x hx => by have := hv.1 x hx; simp; omega]
theorem stA_zero {l : List T_api_Health} (hv : ValH l) (w : T_api_Window) (node : Str) : vl w (stA w node l 0) 0 = 0 := by
  unfold stA
  rw [(vl_same w node _ (0, 0, false) 0 (Int.le_refl _) fun x hx => by
    have h1 := (List.mem_filter.1 hx)
    have h2 := hv.1 x h1.1
    have h3 : x.At ≤ 0 := by simpa using h1.2
    omega).1]
  rfl
theorem upIn_ok {l : List T_api_Health} (hv : ValH l) (hl : l.length ≤ 40) (w : T_api_Window) (hw : okW w) (node : Str) : m_laneref1_UpIn 400 l node w = some (vl w (l.foldl (stp w node) (0, 0, false)) End) := by
  unfold m_laneref1_UpIn
  obtain ⟨T, hT, hm⟩ := told_ok l hl
  have hlen := hm.len
  obtain ⟨h2, hlast⟩ := hm.last hv
  have hfirst := hm.first hv
  rw [hT]
  simp only [bi_some]
  have hw1 : wi ((T.length : Int) - 1) = ((T.length - 1 : Nat) : Int) := by rw [wi_id (by omega) (by omega)]; omega
  rw [hw1, decide_eq_true (show ((T.length - 1 : Nat) : Int) ≤ 9223372036854775807 by omega), gd_true]
  refine bi_rangeG (fun i s => ∀ t, T[i]? = some t → s = vl w (stA w node l t) t ∧ 0 ≤ s ∧ s ≤ t) ?_ ?_ ?_
  · intro t ht
    rw [hfirst] at ht
    cases ht
    rw [stA_zero hv]
    exact ⟨rfl, Int.le_refl _, Int.le_refl _⟩
  · intro i s hi hI
    rw [Int.toNat_natCast] at hi
    have ha : T[i]? = some T[i] := List.getElem?_eq_getElem (by omega)
    have hb : T[i + 1]? = some T[i + 1] := List.getElem?_eq_getElem (by omega)
    obtain ⟨s1, s2, s3⟩ := hI _ ha
    have ra := hm.rng hv (List.mem_of_getElem? ha)
    have rb := hm.rng hv (List.mem_of_getElem? hb)
    have hab := hm.lt (Nat.lt_succ_self i) ha hb
    have hn := stA_next hv w node ra.1 hab fun y hy => hm.gap hv ha hb hy
    have hw2 : wi ((i : Int) + 1) = ((i + 1 : Nat) : Int) := by rw [wi_id (by omega) (by omega)]; omega
    have hwl := win_le w (Int.le_of_lt hab)
    simp only [getZ_cast, ha, bi_some, upAt_ok, hw2, hb]
    cases hu : upAt l node T[i] with
    | false =>
      refine ⟨s, rfl, fun t ht => ?_⟩
      cases ht
      rw [hn, hu, ← s1]
      simp only [Bool.false_eq_true, if_false]
      omega
    | true =>
      simp only [cond_true]
      rw [wi_win w hw ra rb]
      have e : wi (s + win w T[i] T[i + 1]) = s + win w T[i] T[i + 1] := by
        simp only [End] at ra rb
        exact wi_id (by omega) (by omega)
      refine ⟨_, rfl, fun t ht => ?_⟩
      cases ht
      rw [hn, hu, ← s1]
      simp only [if_true]
      refine ⟨e, ?_, ?_⟩
      · show 0 ≤ wi (s + win w T[i] T[i + 1])
        rw [e]; omega
      · show wi (s + win w T[i] T[i + 1]) ≤ _
        rw [e]; omega
  · intro r hr
    rw [Int.toNat_natCast] at hr
    rw [(hr End hlast).1, stA_end hv]
theorem upFold_ok {l : List T_api_Health} (hv : ValH l) (w : T_api_Window) (hw : okW w) (node : Str) :
    rangeF (σ := Int × Int × Bool) (fun i9 (x11 : T_api_Health) s10 => bif !((x11.Node : Str) == node) then (some (s10.1, s10.2.1, s10.2.2)) else (bi (bif s10.2.2 then (bi (m_route_within s10.2.1 x11.At w) fun y25 => some (wi (s10.1 + y25))) else (some s10.1)) fun q22 => some (q22, x11.At, x11.Up))) 0 l (0, 0, false) = some (l.foldl (stp w node) (0, 0, false)) ∧
      0 ≤ (l.foldl (stp w node) (0, 0, false)).1 ∧ (l.foldl (stp w node) (0, 0, false)).1 ≤ (l.foldl (stp w node) (0, 0, false)).2.1 ∧ (l.foldl (stp w node) (0, 0, false)).2.1 ≤ End := by
  have hp : l.Pairwise (fun x y => x.At ≤ y.At) := List.pairwise_iff_getElem.2 fun i j h1 h2 hij => hv.2 i j _ _ hij (List.getElem?_eq_getElem h1) (List.getElem?_eq_getElem h2)
  have key : ∀ (m : List T_api_Health) (i : Nat) (s : Int × Int × Bool), m.Pairwise (fun x y => x.At ≤ y.At) → (∀ x ∈ m, s.2.1 ≤ x.At ∧ x.At ≤ End) → 0 ≤ s.1 → s.1 ≤ s.2.1 → s.2.1 ≤ End →
      rangeF (σ := Int × Int × Bool) (fun i9 (x11 : T_api_Health) s10 => bif !((x11.Node : Str) == node) then (some (s10.1, s10.2.1, s10.2.2)) else (bi (bif s10.2.2 then (bi (m_route_within s10.2.1 x11.At w) fun y25 => some (wi (s10.1 + y25))) else (some s10.1)) fun q22 => some (q22, x11.At, x11.Up))) i m s = some (m.foldl (stp w node) s) ∧
        0 ≤ (m.foldl (stp w node) s).1 ∧ (m.foldl (stp w node) s).1 ≤ (m.foldl (stp w node) s).2.1 ∧ (m.foldl (stp w node) s).2.1 ≤ End := by
    intro m
    induction m with
    | nil => intro i s _ _ h1 h2 h3; exact ⟨rfl, h1, h2, h3⟩
    | cons x m ih =>
      intro i s hp hm h1 h2 h3
      rw [List.pairwise_cons] at hp
      have hx := hm x List.mem_cons_self
      simp only [rangeF, List.foldl_cons]
      by_cases hn : x.Node = node
      · have e1 : stp w node s x = (s.1 + (if s.2.2 then win w s.2.1 x.At else 0), x.At, x.Up) := by unfold stp; rw [if_pos hn]
        have hwl := win_le w hx.1
        have hb : 0 ≤ s.1 + (if s.2.2 then win w s.2.1 x.At else 0) ∧ s.1 + (if s.2.2 then win w s.2.1 x.At else 0) ≤ x.At := by split <;> omega
        have e2 : (bif s.2.2 then (bi (m_route_within s.2.1 x.At w) fun y25 => some (wi (s.1 + y25))) else (some s.1)) = some (s.1 + (if s.2.2 then win w s.2.1 x.At else 0)) := by
          cases hu : s.2.2 with
          | false => simp
          | true =>
            rw [hu] at hb
            simp only [if_true] at hb
            rw [within_ok w hw ⟨by omega, h3⟩ ⟨by omega, hx.2⟩]
            simp only [cond_true, bi_some, if_true]
            simp only [End] at hx
            rw [wi_id (by omega) (by omega)]
        rw [show (x.Node == node) = true by simpa using hn]
        simp only [Bool.not_true, cond_false, e2, bi_some]
        rw [e1]
        exact ih (i + 1) _ hp.2 (fun y hy => ⟨hp.1 y hy, (hm y (List.mem_cons_of_mem _ hy)).2⟩) hb.1 hb.2 hx.2
      · have e1 : stp w node s x = s := by unfold stp; rw [if_neg hn]
        rw [beq_eq_false_iff_ne.2 hn, e1]
        exact ih (i + 1) s hp.2 (fun y hy => hm y (List.mem_cons_of_mem _ hy)) h1 h2 h3
  exact key l 0 (0, 0, false) hp (fun x hx => by have := hv.1 x hx; exact ⟨this.1, by omega⟩) (Int.le_refl _) (Int.le_refl _) (by decide)
/-- The program's sum to the end. -/
theorem upTime_sum {l : List T_api_Health} (hv : ValH l) (w : T_api_Window) (hw : okW w) (node : Str) :
    (bi (rangeF (σ := Int × Int × Bool) (fun i9 (x11 : T_api_Health) s10 => bif !((x11.Node : Str) == node) then (some (s10.1, s10.2.1, s10.2.2)) else (bi (bif s10.2.2 then (bi (m_route_within s10.2.1 x11.At w) fun y25 => some (wi (s10.1 + y25))) else (some s10.1)) fun q22 => some (q22, x11.At, x11.Up))) 0 l (0, 0, false)) fun q12 => bi (bif q12.2.2 then (bi (m_route_within q12.2.1 345686400 w) fun y31 => some (wi (q12.1 + y31))) else (some q12.1)) fun q28 => some (q28, (0 : Int))) = some (vl w (l.foldl (stp w node) (0, 0, false)) End, 0) := by
  obtain ⟨h1, h2, h3, h4⟩ := upFold_ok hv w hw node
  rw [h1]
  simp only [bi_some]
  generalize l.foldl (stp w node) (0, 0, false) = s at h2 h3 h4
  unfold vl
  cases hu : s.2.2 with
  | false => simp
  | true =>
    have hwl := win_le w h4
    rw [within_ok w hw ⟨by omega, h4⟩ ⟨by decide, by decide⟩]
    simp only [cond_true, bi_some, if_true]
    have : wi (s.1 + win w s.2.1 345686400) = s.1 + win w s.2.1 345686400 := by
      have hwl' : 0 ≤ win w s.2.1 345686400 ∧ win w s.2.1 345686400 ≤ 345686400 - s.2.1 := hwl
      simp only [End] at h4
      exact wi_id (by omega) (by omega)
    rw [this]
end Go.Gk
