/-
  The plain law of RoutersLead.
-/
import Derived.Test.YtnjnmkpgedkffaaGreatDoorWWays
set_option linter.unusedVariables false
set_option linter.unusedSimpArgs false
set_option linter.unusedSectionVars false
set_option maxRecDepth 100000
namespace Go.Gk
def keyT : List Str := [[110, 97], [110, 98], [65]]
theorem key_tab : ∀ x ∈ keyT, ∃ b, m_kit_IsKey 400 x = some b ∧ m_laneref2_Key x = some b := by
  intro x hx
  simp only [keyT, List.mem_cons, List.not_mem_nil, or_false] at hx
  rcases hx with rfl | rfl | rfl <;> exact ⟨_, rfl, rfl⟩
def wfZ (w : T_api_Window) : Int := if (0 ≤ w.From ∧ w.From ≤ w.To) ∧ w.To ≤ End then 0 else 1
theorem wf_ok (w : T_api_Window) : m_route_windowFault w = some (wfZ w) ∧ m_laneref1_WindowFault w = some (wfZ w) := by
  unfold m_route_windowFault m_laneref1_WindowFault wfZ
  rw [out_ok]
  simp only [bi_some]
  by_cases h1 : 0 ≤ w.From <;> by_cases h2 : w.From ≤ w.To <;> by_cases h3 : w.To ≤ End <;> simp only [End] at h3 ⊢ <;>
    simp [h1, h2, h3, show (w.From < 0 ↔ ¬ 0 ≤ w.From) by omega, show (w.From > w.To ↔ ¬ w.From ≤ w.To) by omega, show (w.To > 345686400 ↔ ¬ w.To ≤ 345686400) by omega] <;> first | rfl | omega | skip
theorem or2_0 {x y : Int} : or2 x y = 0 ↔ x = 0 ∧ y = 0 := by
  unfold or2
  by_cases h : x = 0
  · rw [if_pos h]; exact ⟨fun e => ⟨h, e⟩, fun e => e.2⟩
  · rw [if_neg h]; exact ⟨fun e => absurd e h, fun e => absurd e.1 h⟩
theorem or2_z (y : Int) : or2 0 y = y := by
  unfold or2
  rw [if_pos rfl]
theorem or2_n {x : Int} (h : x ≠ 0) (y : Int) : or2 x y = x := by unfold or2; rw [if_neg h]
theorem or2_as (x y z : Int) : or2 (or2 x y) z = or2 x (or2 y z) := by
  by_cases h : x = 0
  · subst h; rfl
  · rw [or2_n h, or2_n h, or2_n h]
theorem nf_ok {h : List T_api_Health} {eh : Int} (hc : m_route_CheckHealth 400 h = some eh) {key : Str} {b : Bool} (hk : m_kit_IsKey 400 key = some b) : m_route_nodeFault 400 h key = some (or2 eh (if b then 0 else 5)) := by
  unfold m_route_nodeFault
  rw [hc, hk]
  simp only [bi_some]
  by_cases h : eh = 0
  · subst h; cases b <;> rfl
  · rw [or2_n h, bne_iff_ne.2 h]; rfl
theorem isUp_two {h : List T_api_Health} {eh : Int} (hc : m_route_CheckHealth 400 h = some eh) (hv : eh = 0 → ValH h) {key : Str} {b : Bool} (hk : m_kit_IsKey 400 key = some b) (t : Int) :
    m_route_IsUp 400 h key t = some ((if or2 eh (or2 (if b then 0 else 5) (mfZ t)) = 0 then upAt h key t else false), or2 eh (or2 (if b then 0 else 5) (mfZ t))) := by
  unfold m_route_IsUp
  rw [nf_ok hc hk, ← or2_as]
  generalize hF : or2 eh (if b then 0 else 5) = F
  have hF0 : F = 0 → eh = 0 := fun e => (or2_0.1 (hF.trans e)).1
  simp only [bi_some]
  by_cases h0 : F = 0
  · have vH := hv (hF0 h0)
    subst h0
    rw [(mf_ok t).1, or2_z]
    simp only [bne_self_eq_false, cond_false, bi_some, or2_z]
    by_cases ht : mfZ t = 0
    · rw [ht, isUp_ok vH.2]
      simp
    · rw [bne_iff_ne.2 ht, if_neg ht]
      rfl
  · rw [or2_n h0, bne_iff_ne.2 h0, if_neg h0]
    rfl
theorem upTime_two {h : List T_api_Health} {eh : Int} (hc : m_route_CheckHealth 400 h = some eh) (hv : eh = 0 → ValH h) (hl : h.length ≤ 40) {key : Str} {b : Bool} (hk : m_kit_IsKey 400 key = some b) {w : T_api_Window} (hw : okW w) :
    ∃ n, m_route_UpTime 400 h key w = some (n, or2 eh (or2 (if b then 0 else 5) (wfZ w))) ∧ (or2 eh (or2 (if b then 0 else 5) (wfZ w)) = 0 → m_laneref1_UpIn 400 h key w = some n) := by
  unfold m_route_UpTime
  rw [nf_ok hc hk, ← or2_as]
  generalize hF : or2 eh (if b then 0 else 5) = F
  have hF0 : F = 0 → eh = 0 := fun e => (or2_0.1 (hF.trans e)).1
  simp only [bi_some]
  by_cases h0 : F = 0
  · have vH := hv (hF0 h0)
    subst h0
    rw [(wf_ok w).1]
    simp only [bne_self_eq_false, cond_false, bi_some, or2_z]
    by_cases ht : wfZ w = 0
    · rw [ht]
      simp only [bne_self_eq_false, cond_false]
      exact ⟨_, upTime_sum vH w hw key, fun _ => upIn_ok vH hl w hw key⟩
    · rw [bne_iff_ne.2 ht]
      exact ⟨0, rfl, fun e => absurd e ht⟩
  · rw [or2_n h0, bne_iff_ne.2 h0]
    exact ⟨0, rfl, fun e => absurd e h0⟩
/-! ### The routers of a prefix -/
def nPf (r : List Rt) (p : T_api_Prefix) : List Rt := r.filter fun x => decide (x.Prefix = p)
def ofZ (r : List Rt) (f : Int) (p : T_api_Prefix) : Int := if or2 f (pfA p) = 0 ∧ nPf r p = [] then 8 else or2 f (pfA p)
theorem of_two {r : List Rt} {h : List T_api_Health} {f : Int} (hl : r.length ≤ 19) (hc : m_route_routersFault 400 r h = some f) (hv : f = 0 → ValR r) {p : T_api_Prefix} (hp : AOk p.Addr) (al : List Bool) :
    ∃ own al', m_route_of 400 r h p al = some (own, ofZ r f p, al') ∧ (ofZ r f p = 0 → own = nPf r p) := by
  unfold m_route_of ofZ
  rw [hc, prefP_ok hp]
  simp only [bi_some]
  by_cases h0 : f = 0
  · have vR := hv h0
    subst h0
    simp only [bne_self_eq_false, cond_false, or2_z]
    by_cases h1 : pfA p = 0
    · rw [h1]
      simp only [bne_self_eq_false, cond_false]
      obtain ⟨G, al', g1, g2⟩ := groups_ok r vR (by omega) al
      rw [g1]
      simp only [bi_some]
      rw [rangeM_find (fun g : T_route_group => decide (g.v_prefix = p)) (fun g => (g.list.2, (0 : Int), al')) G 0 (fun j x _ => by
        simp only [prefix_eq]
        cases decide (x.v_prefix = p) <;> rfl)]
      have hmem : ∀ (ps : List T_api_Prefix) (G : List T_route_group), G.map (fun g => (g.v_prefix, g.list.2)) = ps.map (fun q => (q, r.filter fun x => decide (x.Prefix = q))) →
          (p ∈ ps → ∃ g, G.find? (fun g => decide (g.v_prefix = p)) = some g ∧ g.list.2 = nPf r p) ∧ (p ∉ ps → G.find? (fun g => decide (g.v_prefix = p)) = none) := by
        intro ps
        induction ps with
        | nil =>
          intro G hG
          have : G = [] := by simpa using hG
          subst this
          exact ⟨(fun h => by cases h), fun _ => rfl⟩
        | cons q ps ih =>
          intro G hG
          cases G with
          | nil => cases hG
          | cons g G =>
            simp only [List.map_cons] at hG
            have e1 := List.cons.inj hG
            have e2 := Prod.mk.inj e1.1
            obtain ⟨i1, i2⟩ := ih G e1.2
            rw [List.find?_cons]
            by_cases hq : g.v_prefix = p
            · rw [decide_eq_true hq]
              have hqp : q = p := e2.1.symm.trans hq
              refine ⟨fun _ => ⟨g, rfl, ?_⟩, fun h => absurd (hqp ▸ List.mem_cons_self) h⟩
              rw [e2.2, hqp]
              rfl
            · rw [decide_eq_false hq]
              have hqp : p ≠ q := fun e => hq (e2.1.trans e.symm)
              exact ⟨fun h => (List.mem_cons.1 h).elim (fun h => absurd h hqp) i1, fun h => i2 fun h' => h (List.mem_cons_of_mem _ h')⟩
      obtain ⟨m1, m2⟩ := hmem (hd r) G g2
      by_cases hm : p ∈ hd r
      · obtain ⟨g, q1, q2⟩ := m1 hm
        rw [q1]
        have hne : ¬ nPf r p = [] := by
          obtain ⟨y, hy, e⟩ := (hd_mem r p).1 hm
          exact List.ne_nil_of_mem (List.mem_filter.2 ⟨hy, by simpa using e⟩)
        rw [if_neg fun h => hne h.2]
        exact ⟨g.list.2, al', rfl, fun _ => q2⟩
      · rw [m2 hm]
        have he : nPf r p = [] := List.filter_eq_nil_iff.2 fun y hy => by
          simp only [decide_eq_true_eq]
          exact fun e => hm ((hd_mem r p).2 ⟨y, hy, e⟩)
        rw [if_pos (by simp [he])]
        exact ⟨[], al', rfl, fun h => absurd h (by decide)⟩
    · rw [if_neg fun h => h1 h.1, bne_iff_ne.2 h1]
      exact ⟨[], al, rfl, fun h => absurd h h1⟩
  · rw [or2_n h0, if_neg fun h => h0 h.1, bne_iff_ne.2 h0]
    exact ⟨[], al, rfl, fun h => absurd h h0⟩
theorem ofZ_0 {r : List Rt} {f : Int} {p : T_api_Prefix} (h : ofZ r f p = 0) : f = 0 := by
  unfold ofZ at h
  split at h
  · cases h
  · exact (or2_0.1 h).1
section
variable {r : List Rt} {h : List T_api_Health} {f : Int} (hl : r.length ≤ 19) (hlh : h.length ≤ 40) (hc : m_route_routersFault 400 r h = some f) (hv : f = 0 → ValR r) (hvh : f = 0 → ValH h) {p : T_api_Prefix} (hp : AOk p.Addr) (al : List Bool)
include hl hlh hc hv hvh hp
def leadZ (r : List Rt) (h : List T_api_Health) (f : Int) (p : T_api_Prefix) (t : Int) : Str × Int := if or2 (ofZ r f p) (mfZ t) = 0 then (fstAt r h t p, if fstAt r h t p = [] then 8 else 0) else ([], or2 (ofZ r f p) (mfZ t))
theorem first_two (t : Int) : ∃ al', m_route_First 400 r h p t al = some ((leadZ r h f p t).1, (leadZ r h f p t).2, al') := by
  unfold m_route_First leadZ
  obtain ⟨own, al', o1, o2⟩ := of_two hl hc hv hp al
  rw [o1]
  simp only [bi_some]
  by_cases h0 : ofZ r f p = 0
  · have hf := ofZ_0 h0
    rw [o2 h0, h0]
    simp only [bne_self_eq_false, cond_false, or2_z, (mf_ok t).1, bi_some]
    by_cases ht : mfZ t = 0
    · rw [ht]
      obtain ⟨Q, q1, q2, q3, q4⟩ := fstAt_ok (hv hf) hl (hvh hf) hlh t p
      simp only [bne_self_eq_false, cond_false, if_true]
      unfold nPf
      rw [q1]
      simp only [bi_some]
      rw [q3]
      simp only [bi_some]
      by_cases he : fstAt r h t p = []
      · rw [he]; exact ⟨_, rfl⟩
      · rw [beq_eq_false_iff_ne.2 he, if_neg he]; exact ⟨_, rfl⟩
    · rw [bne_iff_ne.2 ht, if_neg ht]; exact ⟨_, rfl⟩
  · rw [or2_n h0, if_neg h0, bne_iff_ne.2 h0]; exact ⟨_, rfl⟩
theorem turnsT_two : ∃ Q al', m_route_Turns 400 r h p al = some (Q, ofZ r f p, al') ∧ (ofZ r f p = 0 → m_laneref1_FirstTurns 400 r h p = some Q) := by
  unfold m_route_Turns
  obtain ⟨own, al', o1, o2⟩ := of_two hl hc hv hp al
  rw [o1]
  simp only [bi_some]
  by_cases h0 : ofZ r f p = 0
  · have hf := ofZ_0 h0
    rw [o2 h0, h0]
    obtain ⟨Q, q1, q2, q3, q4⟩ := fstAt_ok (hv hf) hl (hvh hf) hlh 0 p
    unfold nPf
    rw [q1]
    exact ⟨Q, al', rfl, fun _ => q2⟩
  · rw [bne_iff_ne.2 h0]
    exact ⟨_, _, rfl, fun e => absurd e h0⟩
theorem outage_two (w : T_api_Window) : ∃ n al', m_route_Outage 400 r h p w al = some (n, or2 (ofZ r f p) (wfZ w), al') ∧ (or2 (ofZ r f p) (wfZ w) = 0 → m_laneref1_OutageIn 400 r h p w = some n) := by
  unfold m_route_Outage m_laneref1_OutageIn
  obtain ⟨own, al', o1, o2⟩ := of_two hl hc hv hp al
  rw [o1]
  simp only [bi_some]
  by_cases h0 : ofZ r f p = 0
  · have hf := ofZ_0 h0
    rw [o2 h0, h0]
    simp only [bne_self_eq_false, cond_false, or2_z, (wf_ok w).1, bi_some]
    by_cases ht : wfZ w = 0
    · rw [ht]
      obtain ⟨Q, q1, q2, q3, q4⟩ := fstAt_ok (hv hf) hl (hvh hf) hlh 0 p
      simp only [bne_self_eq_false, cond_false]
      unfold nPf
      rw [q1, q2]
      simp only [bi_some]
      have key : ∀ (m : List T_api_Turn) (i : Nat) (s : Int), ∃ n, rangeF (σ := Int) (fun i11 (x13 : T_api_Turn) s12 => bi (m_route_within x13.From x13.To w) fun y22 => some (wi (s12 - y22))) i m s = some n ∧
          rangeF (σ := Int) (fun i3 (x5 : T_api_Turn) s4 => some (wi (s4 - (if (wi ((if w.To < x5.To then w.To else x5.To) - (if w.From > x5.From then w.From else x5.From))) > 0 then wi ((if w.To < x5.To then w.To else x5.To) - (if w.From > x5.From then w.From else x5.From)) else 0)))) i m s = some n := by
        intro m
        induction m with
        | nil => intro i s; exact ⟨s, rfl, rfl⟩
        | cons x m ih =>
          intro i s
          obtain ⟨n, n1, n2⟩ := ih (i + 1) (wi (s - (if (wi ((if w.To < x.To then w.To else x.To) - (if w.From > x.From then w.From else x.From))) > 0 then wi ((if w.To < x.To then w.To else x.To) - (if w.From > x.From then w.From else x.From)) else 0)))
          exact ⟨n, n1, n2⟩
      obtain ⟨n, n1, n2⟩ := key Q 0 (wi (w.To - w.From))
      rw [n1, n2]
      exact ⟨n, al', rfl, fun _ => rfl⟩
    · rw [bne_iff_ne.2 ht]
      exact ⟨_, _, rfl, fun e => absurd e ht⟩
  · rw [or2_n h0, bne_iff_ne.2 h0]
    exact ⟨_, _, rfl, fun e => absurd e h0⟩
end
theorem RoutersLead_true (l : List Int) (hl : l.length ≤ 9223372036854775807) (al : List Bool) : ∃ al', m_lanelaw1_RoutersLead 400 l al = some (true, al') := by
  unfold m_lanelaw1_RoutersLead
  obtain ⟨r, a1, hr, d1, d2, e1⟩ := routersD l hl 0 (by decide) (by decide)
  obtain ⟨n, n0, n1, e2⟩ := range_ok l a1 0 8 hl (by omega) (by omega) (by decide) (by decide) (by decide)
  obtain ⟨h, a2, hh, d3, d4, e3⟩ := healthD l hl (a1 + 1) n (by omega) (by omega) (by omega) (by omega)
  obtain ⟨t, a3, _, d5, d6, e4⟩ := timeD l hl a2 (by omega) (by omega)
  obtain ⟨w, a4, hw, d7, d8, e5⟩ := spanD l hl a3 (by omega) (by omega)
  obtain ⟨key, hkey, e6⟩ := some_ok l a4 [[110, 97], [110, 98], [65]] hl (by omega) (by omega) (by simp) (by simp)
  obtain ⟨p0, a5, hp0, d9, d10, e7⟩ := prefixD l hl (a4 + 1) (by omega) (by omega)
  obtain ⟨er, eh, f1, f2, f3, f4, f5, f6, f7, f8⟩ := rf_ok hr hh
  obtain ⟨g1, g2⟩ := mf_ok t
  obtain ⟨w1, w2⟩ := wf_ok w
  obtain ⟨b, k1, k2⟩ := key_tab key hkey
  have hlr := hr.2
  have hlh : h.length ≤ 40 := by have := hh.2; omega
  rw [e1]; simp only [bi_some]
  rw [e2]; simp only [bi_some]
  rw [e3]; simp only [bi_some]
  rw [e4]; simp only [bi_some]
  rw [e5]; simp only [bi_some]
  rw [e6]; simp only [bi_some]
  rw [e7]; simp only [bi_some]
  -- the prefix
  have hq : ∃ a6 fl, (bif decide (((r.length : Int) : Int) > 0) then (bi (m_lanemake_Stream_Flip (⟨l, a5⟩ : T_lanemake_Stream) 4) fun y18 => some (y18.2, !y18.1)) else (some ((⟨l, a5⟩ : T_lanemake_Stream), false))) = some ((⟨l, a6⟩ : T_lanemake_Stream), fl) ∧ a5 ≤ a6 ∧ a6 ≤ a5 + 1 ∧ (fl = true → 1 ≤ r.length) := by
    by_cases hr0 : (r.length : Int) > 0
    · obtain ⟨fl, e8⟩ := flip_ok l a5 4 hl (by omega) (by omega) (by decide) (by decide)
      rw [decide_eq_true hr0, e8]
      exact ⟨_, _, rfl, by omega, by omega, fun _ => by omega⟩
    · rw [decide_eq_false hr0]
      exact ⟨_, _, rfl, by omega, by omega, fun h => by cases h⟩
  obtain ⟨a6, fl, e8, b1, b2, b3⟩ := hq
  rw [e8]; simp only [bi_some]
  have hq2 : ∃ a7 p, (bif fl then (bi (m_lanemake_Stream_Next (⟨l, a6⟩ : T_lanemake_Stream) (r.length : Int)) fun y24 => bi (getZ r y24.1) fun x26 => some (y24.2, x26.Prefix)) else (some ((⟨l, a6⟩ : T_lanemake_Stream), p0))) = some ((⟨l, a7⟩ : T_lanemake_Stream), p) ∧ AOk p.Addr := by
    cases fl with
    | false => exact ⟨_, _, rfl, hp0⟩
    | true =>
      have := b3 rfl
      obtain ⟨z, z0, z1, e9⟩ := next_ok l a6 (r.length : Int) hl (by omega) (by omega) (by omega) (by omega)
      obtain ⟨x, hx, e10⟩ := getZ_in r z0 z1
      simp only [cond_true]
      rw [e9]
      simp only [bi_some]
      rw [e10]
      exact ⟨_, _, rfl, (hr.1 x hx).1⟩
  obtain ⟨a7, p, e9, hp⟩ := hq2
  rw [e9]; simp only [bi_some]
  have kf : m_laneref1_KeyFault key = some (if b then 0 else 5) := by
    unfold m_laneref1_KeyFault m_laneref1_keyFault
    rw [k2]
    cases b <;> rfl
  rw [f1, f2, f3, f4]
  simp only [bi_some, orE2, bne_self_eq_false, cond_false]
  obtain ⟨un, u1, u2⟩ := upTime_two f4 f8 hlh k1 hw
  rw [isUp_two f4 f8 k1 t, u1, kf, g2, w2]
  simp only [bi_some, orE3, bne_self_eq_false, Bool.or_self, cond_false, upAt_ok]
  generalize hF1 : or2 eh (or2 (if b then 0 else 5) (mfZ t)) = F1
  generalize hF2 : or2 eh (or2 (if b then 0 else 5) (wfZ w)) = F2 at u2
  have hup : (bi (bif F1 == 0 then (some (upAt h key t)) else (some false)) fun q69 => some (!((if F1 = 0 then upAt h key t else false) == q69))) = some false := by
    by_cases e : F1 = 0
    · rw [e]; simp
    · rw [beq_eq_false_iff_ne.2 e, if_neg e]; rfl
  have hun : (bi (bif F2 == 0 then (bi (m_laneref1_UpIn 400 h key w) fun y82 => some ((un : Int) != y82)) else (some false)) fun q79 => some q79) = some false := by
    by_cases e : F2 = 0
    · rw [u2 e, e]; simp
    · rw [beq_eq_false_iff_ne.2 e]; rfl
  rw [hup]
  simp only [bi_some, cond_false]
  rw [hun]
  simp only [bi_some, cond_false]
  have hvR : or2 er eh = 0 → ValR r := fun e => f7 (f6 e).1
  have hvH : or2 er eh = 0 → ValH h := fun e => f8 (f6 e).2
  obtain ⟨al1, s1⟩ := first_two hlr hlh f5 hvR hvH hp al t
  rw [s1]
  simp only [bi_some]
  obtain ⟨Q, al2, s2, s3⟩ := turnsT_two hlr hlh f5 hvR hvH hp al1
  rw [s2]
  simp only [bi_some]
  obtain ⟨ou, al3, s4, s5⟩ := outage_two hlr hlh f5 hvR hvH hp al2 w
  rw [s4, prefR_ok hp 400 (by decide)]
  simp only [bi_some]
  generalize hG : or2 er eh = f at *
  have hz : (bi (bif (or2 f (pfA p) : Int) == 0 then (bi (m_laneref1_HasRouters 400 r p) fun y100 => some (!y100)) else (some false)) fun q97 => (bif q97 then (some (8 : Int)) else (some (or2 f (pfA p))))) = some (ofZ r f p) := by
    unfold ofZ
    by_cases e : or2 f (pfA p) = 0
    · rw [e]
      unfold m_laneref1_HasRouters
      rw [routersOf_ok r (by omega) p]
      simp only [beq_self_eq_true, cond_true, bi_some, true_and]
      by_cases e2 : nPf r p = []
      · rw [if_pos e2]
        unfold nPf at e2
        rw [e2]; rfl
      · rw [if_neg e2]
        have : 0 < (nPf r p).length := List.length_pos_iff.2 e2
        unfold nPf at this
        rw [decide_eq_true (Int.natCast_pos.2 this)]
        rfl
    · rw [beq_eq_false_iff_ne.2 e, if_neg fun h => e h.1]; rfl
  have hzk : ∀ {β : Type} (k : Int → Option β), (bi (bif (or2 f (pfA p) : Int) == 0 then (bi (m_laneref1_HasRouters 400 r p) fun y100 => some (!y100)) else (some false)) fun q97 => bi (bif q97 then (some (8 : Int)) else (some (or2 f (pfA p)))) k) = k (ofZ r f p) := by
    intro β k
    have e := congrArg (fun o => bi o k) hz
    simp only [bi_some] at e
    rw [← e]
    generalize (bif (or2 f (pfA p) : Int) == 0 then (bi (m_laneref1_HasRouters 400 r p) fun y100 => some (!y100)) else (some false)) = o
    cases o <;> rfl
  rw [hzk]
  have hlead : (bif (or2 (ofZ r f p) (mfZ t) : Int) == 0 then (bi (m_laneref1_FirstAt 400 r h p t) fun y114 => bi (m_lanelaw1_when ((y114 : Str) == []) 8) fun y116 => some (y114, y116)) else (some (([] : Str), or2 (ofZ r f p) (mfZ t)))) = some (leadZ r h f p t) := by
    unfold leadZ
    by_cases e : or2 (ofZ r f p) (mfZ t) = 0
    · have hf0 := ofZ_0 (or2_0.1 e).1
      obtain ⟨_, _, _, _, q4⟩ := fstAt_ok (hvR hf0) hlr (hvH hf0) hlh t p
      rw [e, q4]
      unfold m_lanelaw1_when
      simp only [beq_self_eq_true, cond_true, bi_some, if_true]
      by_cases e2 : fstAt r h t p = []
      · rw [e2]; rfl
      · rw [beq_eq_false_iff_ne.2 e2, if_neg e2]; rfl
    · rw [beq_eq_false_iff_ne.2 e, if_neg e]; rfl
  rw [hlead]
  simp only [bi_some, bne_self_eq_false, beq_self_eq_true, Bool.not_true, Bool.or_self, cond_false]
  have h1 : (bi (bif (ofZ r f p : Int) != 0 then (some true) else (bi (m_laneref1_FirstTurns 400 r h p) fun y129 => bi (m_slices_Equal_api_Turn_api_Turn Q y129) fun y131 => some y131)) fun q125 => some q125) = some true := by
    by_cases e : ofZ r f p = 0
    · rw [s3 e, e]
      simp only [bne_self_eq_false, cond_false, bi_some, eqTurn_ok]
    · rw [bne_iff_ne.2 e]; rfl
  have h2 : (bi (bif (or2 (ofZ r f p) (wfZ w) : Int) != 0 then (some true) else (bi (m_laneref1_OutageIn 400 r h p w) fun y140 => some ((ou : Int) == y140))) fun q136 => some q136) = some true := by
    by_cases e : or2 (ofZ r f p) (wfZ w) = 0
    · rw [s5 e, e]
      simp only [bne_self_eq_false, cond_false, bi_some, beq_self_eq_true]
    · rw [bne_iff_ne.2 e]; rfl
  have h1' : (bif (ofZ r f p : Int) != 0 then (some true) else (bi (m_laneref1_FirstTurns 400 r h p) fun y129 => bi (m_slices_Equal_api_Turn_api_Turn Q y129) fun y131 => some y131)) = some true := by
    generalize (bif (ofZ r f p : Int) != 0 then (some true) else (bi (m_laneref1_FirstTurns 400 r h p) fun y129 => bi (m_slices_Equal_api_Turn_api_Turn Q y129) fun y131 => some y131)) = o at h1
    cases o with
    | none => cases h1
    | some x => exact h1
  rw [h1']
  simp only [bi_some, cond_true]
  rw [h2]
  simp only [bi_some, cond_true, routed_ok]
  exact ⟨_, rfl⟩
end Go.Gk
