/-
  The plain laws of routers: what is right.
-/
import Derived.Test.YtnjnmkpgedkffaaGreatDoorWDraw
set_option linter.unusedVariables false
set_option linter.unusedSimpArgs false
set_option linter.unusedSectionVars false
set_option maxRecDepth 100000
namespace Go.Gk
abbrev End : Int := 345686400
/-- The place of a prefix in the order. -/
def kP (p : T_api_Prefix) : Int := (((if p.Addr.Six then 2 ^ 128 else 0) + nm p.Addr : Nat) : Int) * 1000 + p.Bits
theorem VP.bits {p : T_api_Prefix} (h : VP p) : 0 ≤ p.Bits ∧ p.Bits ≤ 128 := ⟨h.b0, by have := h.b1; have := lnN_le p.Addr; omega⟩
theorem kP_inj {p q : T_api_Prefix} (hp : VP p) (hq : VP q) (h : kP p = kP q) : p = q := by
  have b1 := hp.bits
  have b2 := hq.bits
  have n1 := nm_lt hp.ok
  have n2 := nm_lt hq.ok
  unfold kP at h
  have e : p.Addr.Six = q.Addr.Six ∧ nm p.Addr = nm q.Addr ∧ p.Bits = q.Bits := by
    cases h1 : p.Addr.Six <;> cases h2 : q.Addr.Six <;> simp only [h1, h2, if_true, if_false, Bool.false_eq_true] at h <;> refine ⟨?_, ?_, ?_⟩ <;> first | omega | rfl
  have ha : p.Addr = q.Addr := by rw [← adr_nm hp.ok, ← adr_nm hq.ok, e.1, e.2.1]
  cases p; cases q
  simp only at ha e
  rw [ha, e.2.2]
theorem cmpP_le {p q : T_api_Prefix} (hp : VP p) (hq : VP q) (h : cmpP p q ≤ 0) : kP p ≤ kP q := by
  have b1 := hp.bits
  have b2 := hq.bits
  have n1 := nm_lt hp.ok
  have n2 := nm_lt hq.ok
  unfold kP
  unfold cmpP cmpA cmpN cmpI at h
  cases h1 : p.Addr.Six <;> cases h2 : q.Addr.Six <;> simp only [h1, h2, if_true, if_false, Bool.false_eq_true, reduceCtorEq] at h ⊢
  · by_cases e1 : nm p.Addr < nm q.Addr
    · omega
    · by_cases e2 : nm q.Addr < nm p.Addr
      · simp [e1, e2] at h
      · simp only [e1, e2, if_false, if_true] at h
        by_cases e3 : p.Bits < q.Bits
        · omega
        · by_cases e4 : p.Bits > q.Bits
          · simp [e3, e4] at h
          · omega
  · omega
  · simp at h
  · by_cases e1 : nm p.Addr < nm q.Addr
    · omega
    · by_cases e2 : nm q.Addr < nm p.Addr
      · simp [e1, e2] at h
      · simp only [e1, e2, if_false, if_true] at h
        by_cases e3 : p.Bits < q.Bits
        · omega
        · by_cases e4 : p.Bits > q.Bits
          · simp [e3, e4] at h
          · omega
def ValR (l : List T_api_Router) : Prop := (∀ x ∈ l, VP x.Prefix ∧ x.Node ≠ [] ∧ 0 ≤ x.Weight ∧ x.Weight ≤ 1000) ∧ ∀ (i j : Nat) (x y : T_api_Router), i < j → l[i]? = some x → l[j]? = some y → kP x.Prefix ≤ kP y.Prefix
def ValH (l : List T_api_Health) : Prop := (∀ x ∈ l, 0 ≤ x.At ∧ x.At < End ∧ x.Node ≠ []) ∧ ∀ (i j : Nat) (x y : T_api_Health), i < j → l[i]? = some x → l[j]? = some y → x.At ≤ y.At
theorem moment_ok (x : Int) : m_kit_IsMoment x = some (decide (0 ≤ x ∧ x < End)) ∧ m_laneref2_Moment x = some (decide (0 ≤ x ∧ x < End)) := by
  constructor
  · unfold m_kit_IsMoment
    congr 1
    rw [Bool.eq_iff_iff]
    simp
  · unfold m_laneref2_Moment m_laneref2_in
    simp only [bi_some]
    congr 1
    rw [Bool.eq_iff_iff]
    simp only [Bool.and_eq_true, decide_eq_true_eq, End]
    omega
theorem cmp_bytes (s t : Str) : m_strings_Compare s t = some (Lib.compareBytes s t) := rfl
theorem routers_ok (l : List T_api_Router) (h : okR l) : ∃ e, m_route_CheckRouters 400 l = some e ∧ m_laneref1_RoutersFault 400 l = some e ∧ (e = 0 → ValR l) := by
  unfold m_route_CheckRouters m_laneref1_RoutersFault
  have hl := h.2
  rw [decide_eq_false (show ¬ (l.length : Int) > 500 by omega)]
  simp only [cond_false]
  generalize hf : (fun (i3 : Nat) (x5 : T_api_Router) (s4 : Unit) => bi (m_addr_CheckPrefix x5.Prefix) fun y14 => _) = f
  generalize hg : (fun (i3 : Nat) (x5 : T_api_Router) (s4 : Unit) => bi (m_laneref2_PrefixFault 400 x5.Prefix) fun y14 => _) = g
  have key := rangeM_two (f := f) (g := g)
    l (fun i (_ _ : Unit) => (∀ j x, j < i → l[j]? = some x → VP x.Prefix ∧ x.Node ≠ [] ∧ 0 ≤ x.Weight ∧ x.Weight ≤ 1000) ∧ ∀ (a b : Nat) (x y : T_api_Router), a < b → b < i → l[a]? = some x → l[b]? = some y → kP x.Prefix ≤ kP y.Prefix)
    (fun (r q : Int) => r = q ∧ r ≠ 0) ?_ l 0 () () rfl ⟨fun j x hj => absurd hj (Nat.not_lt_zero _), fun a b x y _ hb => absurd hb (Nat.not_lt_zero _)⟩
  · rcases key with ⟨s', t', e1, e2, h1, h2⟩ | ⟨r, q, e1, e2, rfl, hr⟩
    · rw [e1, e2]
      refine ⟨0, rfl, rfl, fun _ => ⟨fun x hx => ?_, fun i j x y hij hi hj => h2 i j x y hij (by have := (List.getElem?_eq_some_iff.1 hj).1; omega) hi hj⟩⟩
      obtain ⟨j, hj⟩ := List.getElem?_of_mem hx
      exact h1 j x (by have := (List.getElem?_eq_some_iff.1 hj).1; omega) hj
    · rw [e1, e2]
      exact ⟨r, rfl, rfl, fun h0 => absurd h0 hr⟩
  · rintro i x ⟨⟩ ⟨⟩ hx ⟨g1, g2⟩
    subst hf
    subst hg
    have hil : i < l.length := (List.getElem?_eq_some_iff.1 hx).1
    obtain ⟨hax, hnx⟩ := h.1 x (List.mem_of_getElem? hx)
    obtain ⟨kb, k1, k2, k3⟩ := node_tab x.Node hnx
    have hord : pfA x.Prefix = 0 → ∃ q, (bif decide (((i : Int) : Int) > 0) then (bi (getZ l (wi ((i : Int) - 1))) fun x35 => bi (m_route_compareRouters x35 x) fun y37 => some (decide ((y37 : Int) ≥ 0))) else (some false)) = some q ∧
        (bif decide (((i : Int) : Int) > 0) then (bi (getZ l (wi ((i : Int) - 1))) fun x35 => bi (m_laneref1_PrefixOrder 400 x35.Prefix x.Prefix) fun y37 => bi (getZ l (wi ((i : Int) - 1))) fun x39 => bi (m_strings_Compare x39.Node x.Node) fun y41 => bi (m_cmp_Or_int [y37, y41]) fun y43 => some (decide ((y43 : Int) ≥ 0))) else (some false)) = some q ∧
        (q = false → ∀ y, 0 < i → l[i - 1]? = some y → kP y.Prefix ≤ kP x.Prefix) := fun hpf => by
      have hvx := VP.of hax hpf
      by_cases h0 : i = 0
      · subst h0; exact ⟨false, rfl, rfl, fun _ y hy => absurd hy (Nat.lt_irrefl _)⟩
      · rw [decide_eq_true (show (i : Int) > 0 by omega)]
        have w1 : wi ((i : Int) - 1) = ((i - 1 : Nat) : Int) := by rw [wi_id (by omega) (by omega)]; omega
        have e1 : l[i - 1]? = some l[i - 1] := List.getElem?_eq_getElem (by omega)
        have hay := (h.1 _ (List.mem_of_getElem? e1)).1
        have hvy := (g1 (i - 1) _ (by omega) e1).1
        rw [w1, getZ_nn e1]
        unfold m_route_compareRouters
        simp only [cond_true, bi_some, spanPref_ok hay hax, prefOrder_ok hay hax 400 (by decide), cmp_bytes, or2_ok]
        refine ⟨_, rfl, rfl, fun hq y _ hy => ?_⟩
        rw [e1] at hy
        cases hy
        have hlt : ¬ (if cmpP l[i - 1].Prefix x.Prefix = 0 then Lib.compareBytes l[i - 1].Node x.Node else cmpP l[i - 1].Prefix x.Prefix) ≥ 0 := by simpa using hq
        refine cmpP_le hvy hvx ?_
        by_cases h3 : cmpP l[i - 1].Prefix x.Prefix = 0
        · omega
        · rw [if_neg h3] at hlt; omega
    simp only [prefP_ok hax, prefR_ok hax 400 (by decide), bi_some, k1, k2, out_ok, in1_ok]
    by_cases hpf : pfA x.Prefix = 0
    · obtain ⟨q, q1, q1', q2⟩ := hord hpf
      rw [q1, q1', hpf]
      simp only [bne_self_eq_false, cond_false]
      cases kb with
      | false => exact .inr ⟨5, 5, rfl, rfl, rfl, by decide⟩
      | true =>
        by_cases hw : 0 ≤ x.Weight ∧ x.Weight ≤ 1000
        · rw [decide_eq_true hw]
          cases q with
          | true => exact .inr ⟨7, 7, rfl, rfl, rfl, by decide⟩
          | false =>
            refine .inl ⟨(), (), rfl, rfl, fun j y hj hy => ?_, fun a b y z hab hb hy hz => ?_⟩
            · by_cases e : j = i
              · subst e
                rw [hx] at hy; cases hy
                exact ⟨VP.of hax hpf, k3 rfl, hw.1, hw.2⟩
              · exact g1 j y (by omega) hy
            · by_cases e : b = i
              · subst e
                rw [hx] at hz; cases hz
                by_cases e2 : a = b - 1
                · subst e2; exact q2 rfl y (by omega) hy
                · have h3 := List.getElem?_eq_getElem (show b - 1 < l.length by omega)
                  have := g2 a (b - 1) y _ (by omega) (by omega) hy h3
                  have := q2 rfl _ (by omega) h3
                  omega
              · exact g2 a b y z hab (by omega) hy hz
        · rw [decide_eq_false hw]; exact .inr ⟨1, 1, rfl, rfl, rfl, by decide⟩
    · rw [bne_iff_ne.2 hpf]
      exact .inr ⟨_, _, rfl, rfl, rfl, hpf⟩
theorem health_ok (l : List T_api_Health) (h : okH l) : ∃ e, m_route_CheckHealth 400 l = some e ∧ m_laneref1_HealthFault l = some e ∧ (e = 0 → ValH l) := by
  unfold m_route_CheckHealth m_laneref1_HealthFault
  have hl := h.2
  rw [decide_eq_false (show ¬ (l.length : Int) > 2000 by omega)]
  simp only [cond_false]
  generalize hf : (fun (i3 : Nat) (x5 : T_api_Health) (s4 : Unit) => bi (m_kit_IsMoment x5.At) fun y14 => _) = f
  generalize hg : (fun (i3 : Nat) (x5 : T_api_Health) (s4 : Unit) => bi (m_laneref2_Moment x5.At) fun y14 => _) = g
  have key := rangeM_two (f := f) (g := g)
    l (fun i (_ _ : Unit) => (∀ j x, j < i → l[j]? = some x → 0 ≤ x.At ∧ x.At < End ∧ x.Node ≠ []) ∧ ∀ (a b : Nat) (x y : T_api_Health), a < b → b < i → l[a]? = some x → l[b]? = some y → x.At ≤ y.At)
    (fun (r q : Int) => r = q ∧ r ≠ 0) ?_ l 0 () () rfl ⟨fun j x hj => absurd hj (Nat.not_lt_zero _), fun a b x y _ hb => absurd hb (Nat.not_lt_zero _)⟩
  · rcases key with ⟨s', t', e1, e2, h1, h2⟩ | ⟨r, q, e1, e2, rfl, hr⟩
    · rw [e1, e2]
      refine ⟨0, rfl, rfl, fun _ => ⟨fun x hx => ?_, fun i j x y hij hi hj => h2 i j x y hij (by have := (List.getElem?_eq_some_iff.1 hj).1; omega) hi hj⟩⟩
      obtain ⟨j, hj⟩ := List.getElem?_of_mem hx
      exact h1 j x (by have := (List.getElem?_eq_some_iff.1 hj).1; omega) hj
    · rw [e1, e2]
      exact ⟨r, rfl, rfl, fun h0 => absurd h0 hr⟩
  · rintro i x ⟨⟩ ⟨⟩ hx ⟨g1, g2⟩
    subst hf
    subst hg
    have hil : i < l.length := (List.getElem?_eq_some_iff.1 hx).1
    obtain ⟨kb, k1, k2, k3⟩ := node_tab x.Node (h.1 x (List.mem_of_getElem? hx))
    obtain ⟨m1, m2⟩ := moment_ok x.At
    have hord : ∃ q, (bif decide (((i : Int) : Int) > 0) then (bi (getZ l (wi ((i : Int) - 1))) fun x29 => bi (m_cmp_Compare_int x29.At x.At) fun y31 => bi (getZ l (wi ((i : Int) - 1))) fun x33 => bi (m_strings_Compare x33.Node x.Node) fun y35 => bi (m_cmp_Or_int [y31, y35]) fun y37 => some (decide ((y37 : Int) ≥ 0))) else (some false)) = some q ∧
        (q = false → ∀ y, 0 < i → l[i - 1]? = some y → y.At ≤ x.At) := by
      by_cases h0 : i = 0
      · subst h0; exact ⟨false, rfl, fun _ y hy => absurd hy (Nat.lt_irrefl _)⟩
      · rw [decide_eq_true (show (i : Int) > 0 by omega)]
        have w1 : wi ((i : Int) - 1) = ((i - 1 : Nat) : Int) := by rw [wi_id (by omega) (by omega)]; omega
        have e1 : l[i - 1]? = some l[i - 1] := List.getElem?_eq_getElem (by omega)
        rw [w1, getZ_nn e1]
        simp only [cond_true, bi_some, cmpInt_ok, cmp_bytes, or2_ok]
        refine ⟨_, rfl, fun hq y _ hy => ?_⟩
        rw [e1] at hy
        cases hy
        have hlt : ¬ (if cmpI l[i - 1].At x.At = 0 then Lib.compareBytes l[i - 1].Node x.Node else cmpI l[i - 1].At x.At) ≥ 0 := by simpa using hq
        unfold cmpI at hlt
        by_cases h3 : l[i - 1].At < x.At
        · omega
        · by_cases h4 : l[i - 1].At > x.At
          · simp [h3, h4] at hlt
          · omega
    obtain ⟨q, q1, q2⟩ := hord
    simp only [m1, m2, bi_some, k1, k2, q1]
    by_cases hm : 0 ≤ x.At ∧ x.At < End
    · rw [decide_eq_true hm]
      cases kb with
      | false => exact .inr ⟨5, 5, rfl, rfl, rfl, by decide⟩
      | true =>
        cases q with
        | true => exact .inr ⟨7, 7, rfl, rfl, rfl, by decide⟩
        | false =>
          refine .inl ⟨(), (), rfl, rfl, fun j y hj hy => ?_, fun a b y z hab hb hy hz => ?_⟩
          · by_cases e : j = i
            · subst e
              rw [hx] at hy; cases hy
              exact ⟨hm.1, hm.2, k3 rfl⟩
            · exact g1 j y (by omega) hy
          · by_cases e : b = i
            · subst e
              rw [hx] at hz; cases hz
              by_cases e2 : a = b - 1
              · subst e2; exact q2 rfl y (by omega) hy
              · have h3 := List.getElem?_eq_getElem (show b - 1 < l.length by omega)
                have := g2 a (b - 1) y _ (by omega) (by omega) hy h3
                have := q2 rfl _ (by omega) h3
                omega
            · exact g2 a b y z hab (by omega) hy hz
    · rw [decide_eq_false hm]; exact .inr ⟨1, 1, rfl, rfl, rfl, by decide⟩
end Go.Gk
