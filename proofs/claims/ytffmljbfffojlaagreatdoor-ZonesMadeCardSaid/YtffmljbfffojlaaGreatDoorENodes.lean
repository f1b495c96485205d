/-
  What is drawn for zones that are made: calls and nodes; their faults, two ways.
-/
import Derived.Test.YtffmljbfffojlaaGreatDoorEOk
set_option linter.unusedVariables false
set_option linter.unusedSimpArgs false
set_option linter.unusedSectionVars false
set_option maxRecDepth 100000
namespace Go.Gk
def keyT : List Str := [[110, 97], [110, 98], [110, 99], [110, 100], [110, 101], [], [122, 122], [65]]
def labT : List Str := [[110, 97], [110, 98], [110, 99], [110, 100], [110, 101], [98, 111, 120], [], [45, 97], [97, 46, 98], [120]]
theorem key_tab : ∀ x ∈ keyT, ∃ b, m_kit_IsKey 400 x = some b ∧ m_laneref2_Key x = some b := by
  intro x hx
  simp only [keyT, List.mem_cons, List.not_mem_nil, or_false] at hx
  rcases hx with rfl | rfl | rfl | rfl | rfl | rfl | rfl | rfl <;> exact ⟨_, rfl, rfl⟩
theorem labT_len : ∀ x ∈ labT, x.length ≤ 3 := by decide
theorem memT {x : Str} {xs T : List Str} (h : xs.all (fun y => decide (y ∈ T)) = true) (hx : x ∈ xs) : x ∈ T := by
  have := List.all_eq_true.1 h x hx
  simpa using this
def okC (c : List T_api_Called) : Prop := c.length ≤ 6 ∧ ∀ x ∈ c, x.Node ∈ keyT ∧ x.Label ∈ labT
theorem called_o {l : List Int} {a b : Int} {s : T_lanemake_Stream} (h : At l a b s) (hl : l.length ≤ 9223372036854775807) (h0 : 0 ≤ a) (h1 : b < 4611686018427300000) :
    Ok (m_lanemake_Stream_Called s) fun r => okC r.1 ∧ At l a (b + 20) r.2 := by
  unfold m_lanemake_Stream_Called
  refine ok_bi (P := fun r : T_lanemake_Stream × List T_api_Called => At l a (b + 10) r.1 ∧ r.2.length ≤ 5 ∧ ∀ x ∈ r.2, x.Node ∈ keyT ∧ x.Label ∈ labT) ?_ ?_
  · refine ok_mono (ok_rangeF (fun i r => At l a (b + 2 * i) r.1 ∧ r.2.length ≤ i ∧ ∀ x ∈ r.2, x.Node ∈ keyT ∧ x.Label ∈ labT) ⟨h.up (by omega) (by omega), by simp, fun x hx => by cases hx⟩ ?_) ?_
    · rintro i x ⟨s, c⟩ hx ⟨g1, g2, g3⟩
      have hi : i < 5 := by have := (List.getElem?_eq_some_iff.1 hx).1; simpa using this
      have g2' : c.length ≤ i := g2
      have hk : x ∈ keyT := memT (by decide) (List.mem_of_getElem? hx)
      have hlx : x ∈ labT := memT (by decide) (List.mem_of_getElem? hx)
      refine ok_bi (flip_o g1 5 hl h0 (by simp only at *; omega) (by decide) (by decide)) fun y hy => ?_
      refine ok_bif (fun _ => ?_) fun _ => ok_some ⟨hy.up (by omega) (by omega), Nat.le_succ_of_le g2', g3⟩
      refine ok_bi (some_o hy [x, x, x, [98, 111, 120]] hl (by omega) (by simp only at *; omega) (by simp) (by simp)) fun z hz => ?_
      refine ok_app (by simp only [List.length_singleton]; omega) (ok_some ⟨hz.2.up (by omega) (by omega), by simp only [List.length_append, List.length_singleton]; omega, fun w hw => ?_⟩)
      rcases List.mem_append.1 hw with hw | hw
      · exact g3 w hw
      · simp only [List.mem_singleton] at hw
        subst hw
        refine ⟨hk, ?_⟩
        have := hz.1
        simp only [List.mem_cons, List.not_mem_nil, or_false] at this
        rcases this with e | e | e | e <;> simp only [e] <;> first | exact hlx | decide
    · rintro ⟨s, c⟩ ⟨g1, g2, g3⟩
      exact ⟨g1.up (by omega) (by simp), by simpa using g2, g3⟩
  · rintro ⟨s, c⟩ ⟨g1, g2, g3⟩
    have g2' : c.length ≤ 5 := g2
    refine ok_bi (flip_o g1 20 hl h0 (by omega) (by decide) (by decide)) fun y hy => ?_
    refine ok_bi (P := fun r : T_lanemake_Stream × List T_api_Called => At l a (b + 20) r.1 ∧ okC r.2) ?_ fun r hr => ok_some ⟨hr.2, hr.1⟩
    refine ok_bif (fun _ => ?_) fun _ => ok_some ⟨hy.up (by omega) (by omega), Nat.le_succ_of_le g2', g3⟩
    refine ok_bi (some_o hy _ hl (by omega) (by omega) (by simp) (by simp)) fun n hn => ?_
    refine ok_bi (some_o hn.2 _ hl (by omega) (by omega) (by simp) (by simp)) fun m hm => ?_
    refine ok_app (by simp only [List.length_singleton]; omega) (ok_some ⟨hm.2.up (by omega) (by omega), by simp only [List.length_append, List.length_singleton]; omega, fun w hw => ?_⟩)
    rcases List.mem_append.1 hw with hw | hw
    · exact g3 w hw
    · simp only [List.mem_singleton] at hw
      subst hw
      exact ⟨memT (by decide) hn.1, memT (by decide) hm.1⟩
/-! ### Nodes -/
def tot (l : List T_api_Node) : Nat := (l.map fun n => n.Addrs.length).sum
def okN (n : T_api_Node) : Prop := n.Key ∈ keyT ∧ (∀ a ∈ n.Addrs, AOk a)
def okNs (l : List T_api_Node) : Prop := l.length ≤ 5 ∧ tot l ≤ 12 ∧ ∀ n ∈ l, okN n ∧ n.Addrs.length ≤ 4 ∧ n.Routes.length ≤ 10
theorem tot_set : ∀ (l : List T_api_Node) (i : Nat) (x y : T_api_Node), l[i]? = some x → tot (l.set i y) + x.Addrs.length = tot l + y.Addrs.length
  | [], i, x, y, h => by simp at h
  | z :: l, 0, x, y, h => by simp at h; subst h; simp [tot]; omega
  | z :: l, i + 1, x, y, h => by
    have := tot_set l i x y (by simpa using h)
    simp [tot] at this ⊢
    omega
theorem at_okA (n : Int) : ∃ x, m_lanemake_at n = some x ∧ AOk x := ⟨_, rfl, Int.le_refl 0, show (0 : Int) < 18446744073709551616 by decide, u64_nn _, u64_lt _⟩
theorem six_okA (n : Int) : ∃ x, m_lanemake_sixAt n = some x ∧ AOk x := ⟨_, rfl, show (0 : Int) ≤ 18230571291595767808 by decide, show (18230571291595767808 : Int) < 18446744073709551616 by decide, u64_nn _, u64_lt _⟩
theorem cloneA {α : Type} (l : List α) (h : l.length ≤ 1000) : apd ([] : List α) l = some l := by rw [apd_some (by simp; omega)]; rfl
theorem cloneA_ok (l : List T_api_Addr) (h : l.length ≤ 1000) : m_slices_Clone_api_Addr_api_Addr l = some l := by
  unfold m_slices_Clone_api_Addr_api_Addr; rw [cloneA l h]; rfl
theorem cloneP_ok (l : List T_api_Prefix) (h : l.length ≤ 1000) : m_slices_Clone_api_Prefix_api_Prefix l = some l := by
  unfold m_slices_Clone_api_Prefix_api_Prefix; rw [cloneA l h]; rfl
theorem next_o {l : List Int} {a b : Int} {s : T_lanemake_Stream} (h : At l a b s) (n : Int) (hl : l.length ≤ 9223372036854775807) (h0 : 0 ≤ a) (h1 : b < 4611686018427387904) (hn : 1 ≤ n) (hn2 : n ≤ 4611686018427387904) :
    Ok (m_lanemake_Stream_Next s n) fun r => 0 ≤ r.1 ∧ r.1 < n ∧ At l (a + 1) (b + 1) r.2 := by
  obtain ⟨e1, e2, e3⟩ := h
  obtain ⟨c, c1, c2, hc⟩ := next_ok l s.v_at n hl (by omega) (by omega) hn hn2
  rw [← e1] at hc
  exact ⟨_, hc, c1, c2, e1, by simp only; omega, by simp only; omega⟩
theorem raw_o {l : List Int} {a b : Int} {s : T_lanemake_Stream} (h : At l a b s) (hl : l.length ≤ 9223372036854775807) (h0 : 0 ≤ a) (h1 : b < 4611686018427350000) :
    Ok (m_lanemake_Stream_Raw s) fun r => AOk r.1 ∧ At l a (b + 10) r.2 := by
  obtain ⟨e1, e2, e3⟩ := h
  obtain ⟨c, a', c1, c2, c3, hp⟩ := rawD l hl s.v_at (by omega) (by omega)
  rw [← e1] at hp
  exact ⟨_, hp, c1, e1, by simp only; omega, by simp only; omega⟩
theorem prefix_o {l : List Int} {a b : Int} {s : T_lanemake_Stream} (h : At l a b s) (hl : l.length ≤ 9223372036854775807) (h0 : 0 ≤ a) (h1 : b < 4611686018427340000) :
    Ok (m_lanemake_Stream_Prefix 400 s) fun r => At l a (b + 25) r.2 := by
  obtain ⟨e1, e2, e3⟩ := h
  obtain ⟨c, a', c1, c2, c3, hp⟩ := prefixD l hl s.v_at (by omega) (by omega)
  rw [← e1] at hp
  exact ⟨_, hp, e1, by simp only; omega, by simp only; omega⟩
theorem ok_getI {α β : Type} {l : List α} {i : Int} {g : α → Option β} {Q : β → Prop} (h0 : 0 ≤ i) (h1 : i < l.length) (k : ∀ x, l[i.toNat]? = some x → Ok (g x) Q) : Ok (bi (getZ l i) g) Q := by
  obtain ⟨j, rfl⟩ := Int.eq_ofNat_of_zero_le h0
  obtain ⟨x, hx⟩ : ∃ x, l[j]? = some x := ⟨l[j]'(by omega), List.getElem?_eq_getElem (by omega)⟩
  exact ok_eq (getZ_nn hx) (k x (by simpa using hx))
theorem right_o {l : List Int} {a b : Int} {s : T_lanemake_Stream} (h : At l a b s) (hl : l.length ≤ 9223372036854775807) (h0 : 0 ≤ a) (h1 : b < 4611686018427300000) :
    Ok (m_lanemake_Stream_RightNodes s 5) fun r => (r.1.length ≤ 5 ∧ (∀ n ∈ r.1, okN n ∧ n.Addrs.length ≤ 2 ∧ n.Routes.length ≤ 2)) ∧ At l a (b + 60) r.2 := by
  unfold m_lanemake_Stream_RightNodes
  rw [show (if (5 : Int) < 5 then (5 : Int) else 5) = 5 from rfl, show subZ ([[110, 97], [110, 98], [110, 99], [110, 100], [110, 101]] : List Str) 0 5 = some [[110, 97], [110, 98], [110, 99], [110, 100], [110, 101]] from rfl]
  simp only [bi_some]
  refine ok_bi (P := fun r : T_lanemake_Stream × List T_api_Node => At l a (b + 60) r.1 ∧ r.2.length ≤ 5 ∧ ∀ n ∈ r.2, okN n ∧ n.Addrs.length ≤ 2 ∧ n.Routes.length ≤ 2) ?_ fun r hr => ok_some ⟨⟨hr.2.1, hr.2.2⟩, hr.1⟩
  refine ok_mono (ok_rangeF (fun i r => At l a (b + 12 * i) r.1 ∧ r.2.length ≤ i ∧ ∀ n ∈ r.2, okN n ∧ n.Addrs.length ≤ 2 ∧ n.Routes.length ≤ 2) ⟨h.up (by omega) (by omega), by simp, fun x hx => by cases hx⟩ ?_) ?_
  · rintro i x ⟨s, c⟩ hx ⟨g1, g2, g3⟩
    have hi : i < 5 := by have := (List.getElem?_eq_some_iff.1 hx).1; simpa using this
    have g2' : c.length ≤ i := g2
    have hk : x ∈ keyT := memT (by decide) (List.mem_of_getElem? hx)
    refine ok_bi (flip_o g1 6 hl h0 (by simp only at *; omega) (by decide) (by decide)) fun y hy => ?_
    refine ok_bif (fun _ => ok_some ⟨hy.up (by omega) (by omega), Nat.le_succ_of_le g2', g3⟩) fun _ => ?_
    refine ok_bi (some_o hy _ hl (by omega) (by omega) (by simp) (by simp)) fun nm hnm => ?_
    refine ok_bi (some_o hnm.2 _ hl (by omega) (by omega) (by simp) (by simp)) fun us hus => ?_
    refine ok_bi (P := fun r : T_lanemake_Stream × List Str => At l a (b + 12 * i + 4) r.1) ?_ fun tg htg => ?_
    · refine ok_bif (fun _ => ?_) fun _ => ok_some (hus.2.up (by omega) (by omega))
      refine ok_bi (next_o hus.2 3 hl (by omega) (by omega) (by decide) (by decide)) fun z hz => ?_
      exact ok_getI hz.1 (by simpa using hz.2.1) fun w _ => ok_some (hz.2.2.up (by omega) (by omega))
    refine ok_bi (flip_o htg 8 hl h0 (by omega) (by decide) (by decide)) fun f1 hf1 => ?_
    obtain ⟨ad, had, had2⟩ := at_okA (wi ((i : Int) + 1))
    obtain ⟨ax, hax, hax2⟩ := six_okA (wi ((i : Int) + 1))
    refine ok_bi (P := fun r : List T_api_Addr => r.length ≤ 1 ∧ ∀ a ∈ r, AOk a) ?_ fun A1 hA1 => ?_
    · refine ok_bif (fun _ => ?_) fun _ => ok_some ⟨by simp, fun a h => by cases h⟩
      refine ok_eq had (ok_app (by simp) (ok_some ⟨by simp, fun a h => ?_⟩))
      simp only [List.nil_append, List.mem_singleton] at h
      subst h; exact had2
    refine ok_bi (flip_o hf1 3 hl (by omega) (by omega) (by decide) (by decide)) fun f2 hf2 => ?_
    refine ok_bi (P := fun r : List T_api_Addr => r.length ≤ 2 ∧ ∀ a ∈ r, AOk a) ?_ fun A2 hA2 => ?_
    · refine ok_bif (fun _ => ?_) fun _ => ok_some ⟨by omega, hA1.2⟩
      refine ok_eq hax (ok_app (by simp; omega) (ok_some ⟨by simp; omega, fun a h => ?_⟩))
      rcases List.mem_append.1 h with h | h
      · exact hA1.2 a h
      · simp only [List.mem_singleton] at h
        subst h; exact hax2
    refine ok_bi (flip_o hf2 3 hl (by omega) (by omega) (by decide) (by decide)) fun f3 hf3 => ?_
    refine ok_bi (P := fun r : T_lanemake_Stream × List T_api_Prefix => At l a (b + 12 * i + 8) r.1 ∧ r.2.length ≤ 1) ?_ fun R1 hR1 => ?_
    · refine ok_bif (fun _ => ?_) fun _ => ok_some ⟨hf3.up (by omega) (by omega), by simp⟩
      refine ok_bi (pick_o hf3 _ hl (by omega) (by omega) (by simp) (by simp)) fun z hz => ?_
      exact ok_app (by simp) (ok_some ⟨hz.2.up (by omega) (by omega), by simp⟩)
    refine ok_bi (flip_o hR1.1 6 hl (by omega) (by omega) (by decide) (by decide)) fun f4 hf4 => ?_
    refine ok_bi (P := fun r : T_lanemake_Stream × List T_api_Prefix => At l a (b + 12 * i + 10) r.1 ∧ r.2.length ≤ 2) ?_ fun R2 hR2 => ?_
    · refine ok_bif (fun _ => ?_) fun _ => ok_some ⟨hf4.up (by omega) (by omega), Nat.le_succ_of_le hR1.2⟩
      refine ok_bi (flip_o hf4 3 hl (by omega) (by omega) (by decide) (by decide)) fun z hz => ?_
      have := hR1.2
      exact ok_app (by simp; omega) (ok_some ⟨hz.up (by omega) (by omega), by simp; omega⟩)
    refine ok_app (by simp only [List.length_singleton]; omega) (ok_some ⟨hR2.1.up (by omega) (by omega), by simp only [List.length_append, List.length_singleton]; omega, fun w hw => ?_⟩)
    rcases List.mem_append.1 hw with hw | hw
    · exact g3 w hw
    · simp only [List.mem_singleton] at hw
      subst hw
      exact ⟨⟨hk, hA2.2⟩, hA2.1, hR2.2⟩
  · rintro ⟨s, c⟩ ⟨g1, g2, g3⟩
    exact ⟨g1.up (by omega) (by simp), by simpa using g2, g3⟩
theorem tot_le : ∀ (l : List T_api_Node) (k : Nat), (∀ n ∈ l, n.Addrs.length ≤ k) → tot l ≤ k * l.length
  | [], k, _ => by simp [tot]
  | n :: l, k, h => by
    have h1 := tot_le l k fun m hm => h m (List.mem_cons_of_mem _ hm)
    have h2 := h n List.mem_cons_self
    simp [tot] at h1 ⊢
    rw [Nat.mul_add]
    omega
theorem nodes_o {l : List Int} {a b : Int} {s : T_lanemake_Stream} (h : At l a b s) (hl : l.length ≤ 9223372036854775807) (h0 : 0 ≤ a) (h1 : b < 4611686018427200000) :
    Ok (m_lanemake_Stream_Nodes 400 s 5) fun r => okNs r.1 := by
  unfold m_lanemake_Stream_Nodes
  refine ok_bi (right_o h hl h0 (by omega)) ?_
  rintro ⟨ns, s1⟩ ⟨⟨k1, k2⟩, k3⟩
  have k1' : ns.length ≤ 5 := k1
  have k2' : ∀ n ∈ ns, okN n ∧ n.Addrs.length ≤ 2 ∧ n.Routes.length ≤ 2 := k2
  have htot := tot_le ns 2 fun n hn => (k2' n hn).2.1
  have base : okNs ns := ⟨k1', by omega, fun n hn => ⟨(k2' n hn).1, by have := (k2' n hn).2.1; omega, by have := (k2' n hn).2.2; omega⟩⟩
  refine ok_bi (P := fun r : T_lanemake_Stream × Bool => At l a (b + 61) r.1 ∧ (r.2 = true → 0 < ns.length)) ?_ ?_
  · refine ok_bif (fun hp => ?_) fun _ => ok_some ⟨k3.up (by omega) (by omega), fun h => by cases h⟩
    have hp' : 0 < ns.length := by have := of_decide_eq_true hp; simp only at this; omega
    refine ok_bi (flip_o k3 12 hl h0 (by omega) (by decide) (by decide)) fun y hy => ok_some ⟨hy.up (by omega) (by omega), fun _ => hp'⟩
  · rintro ⟨s2, f⟩ ⟨k4, k5⟩
    refine ok_bi (P := fun r : T_lanemake_Stream × List T_api_Node => okNs r.2) ?_ fun r hr => ok_some hr
    refine ok_bif (fun hf => ?_) fun _ => ok_some base
    have hpos := k5 hf
    refine ok_bi (next_o k4 (ns.length : Int) hl h0 (by omega) (by omega) (by omega)) fun i hi => ?_
    refine ok_getI hi.1 hi.2.1 fun x hx => ?_
    have hxn := k2' x (List.mem_of_getElem? hx)
    -- one of the nodes is changed
    have put : ∀ y : T_api_Node, okN y → y.Addrs.length ≤ x.Addrs.length + 2 → y.Routes.length ≤ 10 → okNs (ns.set i.1.toNat y) := fun y hy hya hyr => by
      refine ⟨by simp; omega, ?_, fun n hn => ?_⟩
      · have := tot_set ns i.1.toNat x y hx; omega
      · rcases List.mem_or_eq_of_mem_set hn with hn | rfl
        · exact base.2.2 n hn
        · exact ⟨hy, by have := hxn.2.1; omega, hyr⟩
    have rx : x.Routes.length ≤ 10 := by have := hxn.2.2; omega
    refine ok_bi (next_o hi.2.2 6 hl (by omega) (by omega) (by decide) (by decide)) fun c hc => ?_
    refine ok_bif (fun _ => ?_) fun _ => ok_bif (fun _ => ?_) fun _ => ok_bif (fun _ => ?_) fun _ => ok_bif (fun _ => ?_) fun _ => ok_bif (fun _ => ?_) fun _ => ?_
    · refine ok_bi (some_o hc.2.2 _ hl (by omega) (by omega) (by simp) (by simp)) fun z hz => ok_some (put _ ⟨memT (by decide) hz.1, hxn.1.2⟩ (by simp) rx)
    · refine ok_bi (some_o hc.2.2 _ hl (by omega) (by omega) (by simp) (by simp)) fun z hz => ok_some (put _ ⟨hxn.1.1, hxn.1.2⟩ (by simp) rx)
    · refine ok_bi (some_o hc.2.2 _ hl (by omega) (by omega) (by simp) (by simp)) fun z hz => ok_some (put _ ⟨hxn.1.1, hxn.1.2⟩ (by simp) rx)
    · refine ok_bi (next_o hc.2.2 4 hl (by omega) (by omega) (by decide) (by decide)) fun z hz => ok_getI hz.1 (by simpa using hz.2.1) fun w _ => ok_some (put _ ⟨hxn.1.1, hxn.1.2⟩ (by simp) rx)
    · obtain ⟨ad, had, had2⟩ := at_okA 1
      refine ok_eq (cloneA_ok _ (by have := hxn.2.1; omega)) (ok_bi (raw_o hc.2.2 hl (by omega) (by omega)) fun z hz => ok_eq had (ok_app (by have := hxn.2.1; simp; omega) (ok_some (put _ ⟨hxn.1.1, fun q hq => ?_⟩ (by simp) rx))))
      rcases List.mem_append.1 hq with hq | hq
      · exact hxn.1.2 q hq
      · simp only [List.mem_cons, List.not_mem_nil, or_false] at hq
        rcases hq with rfl | rfl
        · exact hz.1
        · exact had2
    · refine ok_eq (cloneP_ok _ (by omega)) (ok_bi (prefix_o hc.2.2 hl (by omega) (by omega)) fun z hz => ok_app (by simp; omega) (ok_some (put _ ⟨hxn.1.1, hxn.1.2⟩ (by simp) (by have := hxn.2.2; simp; omega))))
end Go.Gk
