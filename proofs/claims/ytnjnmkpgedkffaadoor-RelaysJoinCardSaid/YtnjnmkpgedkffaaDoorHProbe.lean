/-
  The plain law: probes that are drawn; their faults, two ways.
-/
import Derived.Test.YtnjnmkpgedkffaaDoorHOk
set_option linter.unusedVariables false
set_option linter.unusedSimpArgs false
set_option linter.unusedSectionVars false
set_option maxRecDepth 100000
namespace Go.Gk
def keyT : List Str := [[110, 97], [110, 98], [102, 114, 97], [108, 111, 110], [110, 121, 99], [115, 121, 100], [116, 111, 107], [122, 122], [122, 122, 122], [65], []]
theorem key_tab : ∀ x ∈ keyT, ∃ b, m_kit_IsKey 400 x = some b ∧ m_laneref2_Key x = some b ∧ (b = true → x ≠ []) := by
  intro x hx
  simp only [keyT, List.mem_cons, List.not_mem_nil, or_false] at hx
  rcases hx with rfl | rfl | rfl | rfl | rfl | rfl | rfl | rfl | rfl | rfl | rfl <;> exact ⟨_, rfl, rfl, by decide⟩
theorem inT' {x : Str} {xs : List Str} (h : xs.all (fun y => keyT.contains y) = true) (hx : x ∈ xs) : x ∈ keyT := by
  have := List.all_eq_true.1 h x hx
  simpa using this
def okP (l : List T_api_Probe) : Prop := (∀ x ∈ l, x.Node ∈ keyT ∧ x.Relay ∈ keyT) ∧ l.length ≤ 37
theorem okP_app {l : List T_api_Probe} {x : T_api_Probe} {n : Nat} (h : (∀ x ∈ l, x.Node ∈ keyT ∧ x.Relay ∈ keyT) ∧ l.length ≤ n) (hx : x.Node ∈ keyT ∧ x.Relay ∈ keyT) : (∀ y ∈ l ++ [x], y.Node ∈ keyT ∧ y.Relay ∈ keyT) ∧ (l ++ [x]).length ≤ n + 1 := by
  refine ⟨fun y hy => ?_, by simp; exact h.2⟩
  rcases List.mem_append.1 hy with hy | hy
  · exact h.1 y hy
  · simp only [List.mem_singleton] at hy; subst hy; exact hx
theorem probes_o {l : List Int} {a b : Int} {s : T_lanemake_Stream} (h : At l a b s) (many : Int) (hl : l.length ≤ 9223372036854775807) (h0 : 0 ≤ a) (h1 : b < 4611686018427360000) (h2 : many ≤ 6) :
    Ok (m_lanemake_Stream_Probes s many) fun r => okP r.1 ∧ At l a (b + 1000) r.2 := by
  unfold m_lanemake_Stream_Probes
  rw [decide_eq_true (show many ≤ 9223372036854775807 by omega)]
  simp only [gd_true]
  have hm6 : many.toNat ≤ 6 := by omega
  refine ok_bi (ok_rangeG (fun i s => At l a (b + 12 * i) s.1 ∧ (∀ x ∈ s.2, x.Node ∈ keyT ∧ x.Relay ∈ keyT) ∧ s.2.length ≤ 6 * i) ⟨by simpa using h, (fun x hx => by cases hx), by simp⟩ ?_) ?_
  · rintro i s hi ⟨hs, ho⟩
    refine ok_bi (ok_rangeF (fun j s => At l a (b + 12 * i + 6 * j) s.1 ∧ (∀ x ∈ s.2, x.Node ∈ keyT ∧ x.Relay ∈ keyT) ∧ s.2.length ≤ 6 * i + 3 * j) ⟨by simpa using hs, by simpa using ho⟩ ?_) ?_
    · rintro j x s hx ⟨hs, ho⟩
      have hj : j < 2 := by have := (List.getElem?_eq_some_iff.1 hx).1; simpa using this
      refine ok_bi (ok_rangeF (fun m s => At l a (b + 12 * i + 6 * j + 2 * m) s.1 ∧ (∀ x ∈ s.2, x.Node ∈ keyT ∧ x.Relay ∈ keyT) ∧ s.2.length ≤ 6 * i + 3 * j + m) ⟨by simpa using hs, by simpa using ho⟩ ?_) ?_
      · rintro m y s hy ⟨hs, ho⟩
        have hm : m < 3 := by have := (List.getElem?_eq_some_iff.1 hy).1; simpa using this
        refine ok_bi (flip_o hs 2 hl h0 (by omega) (by decide) (by decide)) fun r hr => ok_bif (fun _ => ?_) (fun _ => ?_)
        · refine ok_bi (pick_o hr [-1, 5, 10, 12, 20, 20, 25, 40] hl (by omega) (by omega) (by simp) (by simp)) fun q hq => ok_app (by simp; omega) (ok_some ⟨hq.2.up (by omega) (by omega), ?_⟩)
          · have := okP_app (n := 6 * i + 3 * j + m) ho (x := ⟨wi (10 * (i : Int)), x, y, q.1⟩) ⟨inT' (xs := [[110, 97], [110, 98]]) rfl (List.mem_of_getElem? hx), inT' (xs := [[102, 114, 97], [108, 111, 110], [110, 121, 99]]) rfl (List.mem_of_getElem? hy)⟩
            exact ⟨this.1, by have := this.2; omega⟩
        · refine ok_some ⟨hr.up (by omega) (by omega), ho.1, ?_⟩
          have := ho.2; simp only; omega
      · rintro q ⟨hq, ho⟩
        simp only [List.length_cons, List.length_nil] at hq ho
        refine ok_some ⟨hq.up (by omega) (by omega), ho.1, ?_⟩
        have := ho.2; simp only; omega
    · rintro q ⟨hq, ho⟩
      simp only [List.length_cons, List.length_nil] at hq ho
      refine ok_some ⟨hq.up (by omega) (by omega), ho.1, ?_⟩
      have := ho.2; simp only; omega
  · rintro q ⟨hq, ho⟩
    refine ok_bi (flip_o hq 20 hl h0 (by omega) (by decide) (by decide)) fun r hr => ok_bi (P := fun z => At l a (b + 1000) z.1 ∧ okP z.2) (ok_bif (fun _ => ?_) (fun _ => ?_)) fun z hz => ok_some ⟨hz.2, hz.1⟩
    · refine ok_bi (odd_o hr 0 345686399 hl (by omega) (by omega) (by decide) (by decide) (by decide)) fun r1 k1 => ?_
      refine ok_bi (some_o k1 _ hl (by omega) (by omega) (by simp) (by simp)) fun r2 k2 => ?_
      refine ok_bi (some_o k2.2 _ hl (by omega) (by omega) (by simp) (by simp)) fun r3 k3 => ?_
      refine ok_bi (odd_o k3.2 (-1) 1000000 hl (by omega) (by omega) (by decide) (by decide) (by decide)) fun r4 k4 => ?_
      refine ok_app (by simp; omega) (ok_some ⟨k4.up (by omega) (by omega), ?_⟩)
      · have := okP_app (n := 36) ⟨ho.1, by omega⟩ (x := ⟨r1.1, r2.1, r3.1, r4.1⟩) ⟨inT' (xs := [[], [110, 97]]) rfl k2.1, inT' (xs := [[102, 114, 97], [65]]) rfl k3.1⟩
        exact this
    · exact ok_some ⟨hr.up (by omega) (by omega), ho.1, by have := ho.2; simp only; omega⟩
/-! ### Faults -/
def ValidP (l : List T_api_Probe) : Prop := (∀ x ∈ l, 0 ≤ x.At ∧ x.At < End ∧ x.Relay ≠ []) ∧ l.Pairwise fun x y => x.At ≤ y.At
theorem cmp_or3 (a b : Int) (r : List Int) : ∃ c, m_cmp_Or_int (cmpI a b :: r) = some c ∧ (c < 0 → a ≤ b) := by
  obtain ⟨c, h1, h2⟩ := orInt_ok (cmpI a b) r
  refine ⟨c, h1, fun hc => ?_⟩
  by_cases h : cmpI a b = 0
  · unfold cmpI at h
    split at h
    · cases h
    · split at h
      · cases h
      · omega
  · rw [h2 h] at hc
    unfold cmpI at hc
    split at hc
    · omega
    · split at hc <;> omega
theorem moment_two (t : Int) : m_kit_IsMoment t = some (decide (t ≥ 0) && decide (t < 345686400)) ∧ m_laneref2_Moment t = some (decide (t ≥ 0) && decide (t < 345686400)) := by
  refine ⟨rfl, ?_⟩
  unfold m_laneref2_Moment m_laneref2_in
  simp only [bi_some]
  congr 1
  rw [Bool.eq_iff_iff]
  simp only [Bool.and_eq_true, decide_eq_true_eq]
  omega
theorem scmp_ok (s t : Str) : m_strings_Compare s t = some (Lib.compareBytes s t) := rfl
theorem pw_snoc {α : Type} {R : α → α → Prop} (hR : ∀ a b c, R a b → R b c → R a c) {l : List α} {i : Nat} {x : α} (hx : l[i]? = some x) (h : (l.take i).Pairwise R) (hl : ∀ y, 0 < i → l[i - 1]? = some y → R y x) : (l.take (i + 1)).Pairwise R := by
  rw [List.take_add_one, hx, Option.toList_some, List.pairwise_append]
  refine ⟨h, List.pairwise_singleton _ _, fun a ha b hb => ?_⟩
  simp only [List.mem_singleton] at hb
  subst hb
  obtain ⟨p, hp, e⟩ := List.getElem_of_mem ha
  rw [List.length_take] at hp
  have hil := (List.getElem?_eq_some_iff.1 hx).1
  have h1 : l[i - 1]? = some l[i - 1] := List.getElem?_eq_getElem (by omega)
  have h2 := hl _ (by omega) h1
  by_cases hpi : p = i - 1
  · subst hpi; rw [List.getElem_take] at e; subst e; exact h2
  · refine hR _ _ _ ?_ h2
    have := List.pairwise_iff_getElem.1 h p (i - 1) (by rw [List.length_take]; omega) (by rw [List.length_take]; omega) (by omega)
    rw [← e]
    simpa using this
theorem pfaults_ok (l : List T_api_Probe) (h : okP l) : ∃ e, m_route_CheckProbes 400 l = some e ∧ m_laneref1_ProbesFault l = some e ∧ (e = 0 → ValidP l) := by
  have hl := h.2
  have key : Two (m_route_CheckProbes 400 l) (m_laneref1_ProbesFault l) fun r q => r = q ∧ (r = 0 → ValidP l) := by
    unfold m_route_CheckProbes m_laneref1_ProbesFault
    rw [decide_eq_false (show ¬ (l.length : Int) > 2000 by omega)]
    simp only [cond_false]
    refine two_bi (two_rangeM (fun i _ _ => (∀ x ∈ l.take i, 0 ≤ x.At ∧ x.At < End ∧ x.Relay ≠ []) ∧ (l.take i).Pairwise fun x y => x.At ≤ y.At) (fun r q => r = q ∧ r ≠ 0) ⟨fun x hx => by simp at hx, by simp⟩ ?_) ?_
    · rintro i x ⟨⟩ ⟨⟩ hx ⟨g1, g2⟩
      have hil : i < l.length := (List.getElem?_eq_some_iff.1 hx).1
      have hxm := h.1 x (List.mem_of_getElem? hx)
      obtain ⟨kn, n1, n2, _⟩ := key_tab x.Node hxm.1
      obtain ⟨kr, k1, k2, k3⟩ := key_tab x.Relay hxm.2
      obtain ⟨ot, o1, o2⟩ := outside_in x.Millis (-1) 1000000
      simp only [(moment_two x.At).1, (moment_two x.At).2, n1, n2, k1, k2, o1, o2, bi_some]
      refine two_bif rfl (fun _ => two_some ⟨rfl, by decide⟩) fun hm => ?_
      have hkk : (bif !kn then (some true) else (some (!kr)) : Option Bool) = some (!kn || !kr) := by cases kn <;> rfl
      simp only [hkk, bi_some]
      refine two_bif rfl (fun _ => two_some ⟨rfl, by decide⟩) fun hk => ?_
      refine two_bif (by simp) (fun _ => two_some ⟨rfl, by decide⟩) fun _ => ?_
      simp only [Bool.or_eq_false_iff, Bool.not_eq_false'] at hk
      simp only [Bool.not_eq_false', Bool.and_eq_true, decide_eq_true_eq] at hm
      have hg : ∀ y ∈ l.take (i + 1), 0 ≤ y.At ∧ y.At < End ∧ y.Relay ≠ [] := fun y hy => by
        rw [List.take_add_one, hx] at hy
        rcases List.mem_append.1 hy with hy | hy
        · exact g1 y hy
        · simp at hy; subst hy; exact ⟨hm.1, hm.2, k3 hk.2⟩
      by_cases h0 : i = 0
      · subst h0
        refine two_some ⟨hg, ?_⟩
        exact pw_snoc (R := fun x y : T_api_Probe => x.At ≤ y.At) (fun a b c => Int.le_trans) hx g2 fun y hy => absurd hy (Nat.lt_irrefl _)
      · rw [show ((i : Int) == 0) = false by simpa using h0, decide_eq_true (show (i : Int) > 0 by omega)]
        simp only [cond_false, cond_true]
        have w1 : wi ((i : Int) - 1) = ((i - 1 : Nat) : Int) := by rw [wi_id (by omega) (by omega)]; omega
        have e1 : l[i - 1]? = some l[i - 1] := List.getElem?_eq_getElem (by omega)
        obtain ⟨c, c1, c2⟩ := cmp_or3 l[i - 1].At x.At [Lib.compareBytes l[i - 1].Node x.Node, Lib.compareBytes l[i - 1].Relay x.Relay]
        simp only [w1, getZ_nn e1, bi_some, cmpInt_ok, scmp_ok, c1]
        refine two_bif rfl (fun _ => two_some ⟨rfl, by decide⟩) fun hq => two_some ⟨hg, ?_⟩
        refine pw_snoc (R := fun x y : T_api_Probe => x.At ≤ y.At) (fun a b c => Int.le_trans) hx g2 fun y _ hy => ?_
        rw [e1] at hy
        cases hy
        have : ¬ c ≥ 0 := by simpa using hq
        exact c2 (by omega)
    · intro r q hrq
      cases r <;> cases q <;> simp only [LSR] at hrq
      · rw [List.take_length] at hrq
        exact two_some ⟨rfl, fun _ => hrq⟩
      · exact two_some ⟨hrq.1, fun e => absurd e hrq.2⟩
  obtain ⟨r, q, h1, h2, rfl, h3⟩ := key
  exact ⟨r, h1, h2, h3⟩
end Go.Gk
