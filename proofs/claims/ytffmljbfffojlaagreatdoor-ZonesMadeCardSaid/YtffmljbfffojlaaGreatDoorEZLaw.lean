/-
  The plain law: ZonesMade.
-/
import Derived.Test.YtffmljbfffojlaaGreatDoorEMade
set_option linter.unusedVariables false
set_option linter.unusedSimpArgs false
set_option linter.unusedSectionVars false
set_option maxRecDepth 100000
namespace Go.Gk
theorem named_ok : m_lanelaw1_named 400 = some true := by rfl
def rootT : List Str := [[110, 101, 116, 46, 120], [54, 52, 46, 49, 48, 48, 46, 105, 110, 45, 97, 100, 100, 114, 46, 97, 114, 112, 97], [97, 114, 112, 97], []]
theorem rootT_len : ∀ x ∈ rootT, x.length ≤ 19 := by decide
theorem same_nil : m_laneref1_SameZone (⟨[], []⟩ : T_api_Zone) (⟨[], []⟩ : T_api_Zone) = some true := by rfl
theorem same_self (z : T_api_Zone) (h : z.Records.length ≤ 1000) : m_laneref1_SameZone z z = some true := by
  unfold m_laneref1_SameZone
  rw [show ((z.Root : Str) == z.Root) = true by simp, equalR _ (by omega)]
  rfl
theorem records_two (root : Str) (life : Int) (l : List T_api_Called) (nodes : List T_api_Node) (hr : root.length ≤ 19) (hl : okC l) (hn : okNs nodes) (hd : l.Pairwise fun a b => a.Node ≠ b.Node) (m : List (Str × Str))
    (hm : ∀ K, mGet m K = (match l.find? (fun c => (c.Node : Str) == K) with | some c => some c.Label | none => none)) : Two
    (rangeF (σ := List T_api_Record) (fun i28 x30 s29 => bif !((mGet m x30.Key).isSome) then (some s29) else (bi (catZ ((mGet m x30.Key).getD []) [46]) fun y41 => bi (catZ y41 root) fun y43 => bi (rangeF (σ := List T_api_Record) (fun i45 x47 s46 => bi (bif x47.Six then (some 28) else (some 1)) fun q56 => bi (apd s46 [(⟨y43, q56, x47, [], [], life⟩ : T_api_Record)]) fun y60 => bi (m_name_back 400 x47) fun y62 => bi (m_name_under y62 root) fun y64 => bif y64 then (bi (apd y60 [(⟨y62, 12, (⟨false, 0, 0⟩ : T_api_Addr), y43, [], life⟩ : T_api_Record)]) fun y67 => some y67) else (some y60)) 0 x30.Addrs s29) fun q48 => some q48)) 0 nodes ([] : List T_api_Record))
    (rangeF (σ := List T_api_Record) (fun i1 x3 s2 => bi (rangeF (σ := List T_api_Record) (fun i12 x14 s13 => bif !((x14.Node : Str) == x3.Key) then (some s13) else (bi (catZ x14.Label [46]) fun y25 => bi (catZ y25 root) fun y27 => bi (rangeF (σ := List T_api_Record) (fun i29 x31 s30 => bi (bif x31.Six then (some 28) else (some 1)) fun q40 => bi (apd s30 [(⟨y27, q40, x31, [], [], life⟩ : T_api_Record)]) fun y44 => bi (m_laneref1_BackName 400 x31) fun y46 => bi (m_laneref1_IsUnder y46 root) fun y48 => bif y48 then (bi (apd y44 [(⟨y46, 12, (⟨false, 0, 0⟩ : T_api_Addr), y27, [], life⟩ : T_api_Record)]) fun y51 => some y51) else (some y44)) 0 x3.Addrs s13) fun q32 => some q32)) 0 l s2) fun q15 => some q15) 0 nodes ([] : List T_api_Record))
    (fun r q => r = q ∧ Inv life (2 * tot nodes) r) := by
  have htake : ∀ (i : Nat) (x : T_api_Node), nodes[i]? = some x → tot (nodes.take (i + 1)) = tot (nodes.take i) + x.Addrs.length := fun i x hx => by
    rw [List.take_add_one, hx]; simp [tot]
  have hle : ∀ i, tot (nodes.take i) ≤ tot nodes := fun i => by
    have : tot nodes = tot (nodes.take i) + tot (nodes.drop i) := by
      unfold tot
      rw [← List.sum_append, ← List.map_append, List.take_append_drop]
    omega
  refine two_mono (two_rangeF (fun i r q => r = q ∧ Inv life (2 * tot (nodes.take i)) r) ⟨rfl, by simp, fun r h => by cases h⟩ ?_) fun r q h => ⟨h.1, by have := h.2; rwa [List.take_length] at this⟩
  rintro i x s _ hx ⟨rfl, hi⟩
  have hxn := hn.2.2 x (List.mem_of_getElem? hx)
  have h12 := hn.2.1
  have ht := htake i x hx
  have h3 := hle (i + 1)
  rw [rangeF_one (fun c : T_api_Called => (c.Node : Str) == x.Key) (fun c s13 => bi (catZ c.Label [46]) fun y25 => bi (catZ y25 root) fun y27 => bi (rangeF (σ := List T_api_Record) (fun i29 x31 s30 => bi (bif x31.Six then (some 28) else (some 1)) fun q40 => bi (apd s30 [(⟨y27, q40, x31, [], [], life⟩ : T_api_Record)]) fun y44 => bi (m_laneref1_BackName 400 x31) fun y46 => bi (m_laneref1_IsUnder y46 root) fun y48 => bif y48 then (bi (apd y44 [(⟨y46, 12, (⟨false, 0, 0⟩ : T_api_Addr), y27, [], life⟩ : T_api_Record)]) fun y51 => some y51) else (some y44)) 0 x.Addrs s13) fun q32 => some q32) l 0 s
    (hd.imp fun {a b} hab ⟨h1, h2⟩ => hab (by
      have e1 : a.Node = x.Key := by simpa using h1
      have e2 : b.Node = x.Key := by simpa using h2
      rw [e1, e2])), hm]
  cases hf : l.find? (fun c => (c.Node : Str) == x.Key) with
  | none => exact ⟨_, _, rfl, rfl, rfl, hi.up (by omega)⟩
  | some c =>
    have hc := hl.2 c (List.mem_of_find?_eq_some hf)
    have hcl := labT_len _ hc.2
    simp only [Option.isSome_some, Bool.not_true, cond_false, Option.getD_some]
    rw [cat_ok (by simp; omega)]
    simp only [bi_some]
    rw [cat_ok (by simp; omega)]
    simp only [bi_some]
    obtain ⟨r, q, e1, e2, rfl, e4⟩ := addrs_two life root (c.Label ++ [46] ++ root) (by omega) (by simp; omega) x.Addrs hxn.1.2 s _ hi (by omega)
    rw [e1, e2]
    exact ⟨_, _, rfl, rfl, rfl, e4.up (by rw [ht]; omega)⟩
/-- The fault of what is asked, in its parts. -/
theorem faults (root : Str) (life : Int) (c : List T_api_Called) (nodes : List T_api_Node) (hr : root.length ≤ 19) (hc : okC c) (hn : okNs nodes) : ∃ (o : Bool) (e1 e2 : Int), m_kit_Outside life 0 1000000 = some o ∧ m_name_calledFault 400 c = some e1 ∧ m_name_nodesFault 400 nodes = some e2 ∧
    (e1 = 0 → c.Pairwise fun a b => a.Node ≠ b.Node) ∧ m_laneref1_CalledFault root life c nodes = some (if domF root ≠ 0 then domF root else if o = true then 1 else if e1 ≠ 0 then e1 else e2) := by
  obtain ⟨o, o1, o2⟩ := outside_in life 0 1000000
  have hcl := hc.1
  have hnl := hn.1
  obtain ⟨r1, q1, a1, a2, a3⟩ := calledF_ok c hc
  obtain ⟨r2, q2, b1, b2, b3⟩ := nodesF_ok nodes hn
  have k1 : Ok (m_name_calledFault 400 c) fun e1 => (e1 = 0 → c.Pairwise fun a b => a.Node ≠ b.Node) ∧ (match q1 with | .go _ => e1 = 0 | .out v => e1 = v ∧ v ≠ 0) := by
    unfold m_name_calledFault
    refine ok_bif (fun h => by have := of_decide_eq_true h; omega) fun _ => ok_eq a1 ?_
    cases r1 <;> cases q1
    · exact ok_some ⟨fun _ => a3, rfl⟩
    · exact a3.elim
    · exact a3.elim
    · obtain ⟨rfl, hv⟩ := a3
      exact ok_some ⟨fun h => absurd h hv, rfl, hv⟩
  have k2 : Ok (m_name_nodesFault 400 nodes) fun e2 => (match q2 with | .go _ => e2 = 0 | .out v => e2 = v ∧ v ≠ 0) := by
    unfold m_name_nodesFault
    refine ok_bif (fun h => by have := of_decide_eq_true h; omega) fun _ => ok_eq b1 ?_
    cases r2 <;> cases q2
    · exact ok_some rfl
    · exact b3.elim
    · exact b3.elim
    · obtain ⟨rfl, hv⟩ := b3
      exact ok_some ⟨rfl, hv⟩
  obtain ⟨e1, c1, c2, c3⟩ := k1
  obtain ⟨e2, d1, d2⟩ := k2
  refine ⟨o, e1, e2, o1, c1, d1, c2, ?_⟩
  have k3 : Ok (m_laneref1_CalledFault root life c nodes) fun e => e = (if domF root ≠ 0 then domF root else if o = true then 1 else if e1 ≠ 0 then e1 else e2) := by
    unfold m_laneref1_CalledFault
    refine ok_eq (fault_ok root (by omega)) (ok_bif (fun h => ok_some ?_) fun h => ?_)
    · rw [if_pos (by simpa using h)]
    · rw [if_neg (by simpa using h)]
      refine ok_eq o2 (ok_bif (fun h => ok_some ?_) fun h => ?_)
      · rw [if_pos (by simpa using h)]
      · rw [if_neg (by simpa using h)]
        refine ok_bif (fun h => by have := of_decide_eq_true h; omega) fun _ => ok_eq a2 ?_
        cases q1 with
        | out v => obtain ⟨rfl, hv⟩ := c3; rw [if_pos hv]; exact ok_some rfl
        | go u =>
          rw [if_neg (show ¬ e1 ≠ 0 by rw [show e1 = 0 from c3]; simp)]
          refine ok_bif (fun h => by have := of_decide_eq_true h; omega) fun _ => ok_eq b2 ?_
          cases q2 with
          | out v => obtain ⟨rfl, hv⟩ := d2; exact ok_some rfl
          | go u => exact ok_some (show (0 : Int) = e2 from (show e2 = 0 from d2).symm)
  obtain ⟨e, h1, rfl⟩ := k3
  exact h1
theorem ZonesMade_true (l : List Int) (hl : l.length ≤ 9223372036854775807) : m_lanelaw1_ZonesMade 400 l = some true := by
  have key : Ok (m_lanelaw1_ZonesMade 400 l) fun b => b = true := by
    unfold m_lanelaw1_ZonesMade
    have h0 : At l 0 0 (⟨l, 0⟩ : T_lanemake_Stream) := ⟨rfl, Int.le_refl _, Int.le_refl _⟩
    refine ok_bi (some_o h0 _ hl (by decide) (by decide) (by simp) (by simp)) ?_
    rintro ⟨root, s1⟩ ⟨hr, k1⟩
    have hroot : root ∈ rootT := memT (by decide) hr
    have hrl := rootT_len _ hroot
    refine ok_bi (pick_o k1 _ hl (by decide) (by decide) (by simp) (by simp)) ?_
    rintro ⟨life, s2⟩ ⟨-, k2⟩
    refine ok_bi (called_o k2 hl (by decide) (by decide)) ?_
    rintro ⟨c, s3⟩ ⟨hc, k3⟩
    refine ok_bi (nodes_o k3 hl (by decide) (by decide)) ?_
    rintro ⟨nodes, s4⟩ hn
    have hn : okNs nodes := hn
    have hc : okC c := hc
    obtain ⟨o, e1, e2, o1, c1, d1, c2, hf⟩ := faults root life c nodes hrl hc hn
    -- a fault
    have bad : ∀ e : Int, e ≠ 0 → m_name_ZoneOf 400 root life c nodes = some ((⟨[], []⟩ : T_api_Zone), e) → m_laneref1_CalledFault root life c nodes = some e →
        Ok (bi (m_name_ZoneOf 400 root life c nodes) fun y9 => bi (m_laneref1_CalledFault root life c nodes) fun y11 => bif (y11 : Int) != 0 then (bi (bif (y9.2 : Int) == y11 then (bi (m_laneref1_SameZone y9.1 (⟨[], []⟩ : T_api_Zone)) fun y17 => some y17) else (some false)) fun q14 => bi (bif q14 then (bi (m_lanelaw1_named 400) fun y23 => some y23) else (some false)) fun q20 => some q20) else (bi (m_laneref1_ZoneFrom 400 root life c nodes) fun y27 => bi (bif (y9.2 : Int) == y27.2 then (bi (m_laneref1_SameZone y9.1 y27.1) fun y32 => some y32) else (some false)) fun q29 => bi (bif q29 then (bi (m_lanelaw1_named 400) fun y38 => some y38) else (some false)) fun q35 => some q35)) fun b => b = true := fun e he h1 h2 => by
      rw [h1, h2]
      simp only [bi_some]
      rw [show ((e : Int) != 0) = true by simpa using he, show ((e : Int) == e) = true by simp, same_nil, named_ok]
      exact ok_some rfl
    show Ok (bi (m_name_ZoneOf 400 root life c nodes) fun y9 => bi (m_laneref1_CalledFault root life c nodes) fun y11 => bif (y11 : Int) != 0 then (bi (bif (y9.2 : Int) == y11 then (bi (m_laneref1_SameZone y9.1 (⟨[], []⟩ : T_api_Zone)) fun y17 => some y17) else (some false)) fun q14 => bi (bif q14 then (bi (m_lanelaw1_named 400) fun y23 => some y23) else (some false)) fun q20 => some q20) else (bi (m_laneref1_ZoneFrom 400 root life c nodes) fun y27 => bi (bif (y9.2 : Int) == y27.2 then (bi (m_laneref1_SameZone y9.1 y27.1) fun y32 => some y32) else (some false)) fun q29 => bi (bif q29 then (bi (m_lanelaw1_named 400) fun y38 => some y38) else (some false)) fun q35 => some q35)) fun b => b = true
    have hck := check_ok 398 root (by omega)
    by_cases hd : domF root ≠ 0
    · rw [if_pos hd] at hf
      refine bad _ hd ?_ hf
      unfold m_name_ZoneOf
      rw [hck, bi_some, show (domF root != 0) = true by simpa using hd]
      rfl
    · rw [if_neg hd] at hf
      have hd0 : (domF root != 0) = false := by simpa using hd
      cases o with
      | true =>
        rw [if_pos rfl] at hf
        refine bad _ (by decide) ?_ hf
        unfold m_name_ZoneOf
        rw [hck, bi_some, hd0, o1]
        rfl
      | false =>
        rw [if_neg (by decide)] at hf
        by_cases h1 : e1 ≠ 0
        · rw [if_pos h1] at hf
          refine bad _ h1 ?_ hf
          unfold m_name_ZoneOf
          rw [hck, bi_some, hd0, o1, c1]
          simp only [cond_false, bi_some]
          rw [show (e1 != 0) = true by simpa using h1]
          rfl
        · rw [if_neg h1] at hf
          have h10 : e1 = 0 := by omega
          subst h10
          by_cases h2 : e2 ≠ 0
          · refine bad _ h2 ?_ hf
            unfold m_name_ZoneOf
            rw [hck, bi_some, hd0, o1, c1, d1]
            simp only [cond_false, bi_some]
            rw [show ((0 : Int) != 0) = false from rfl, show (e2 != 0) = true by simpa using h2]
            rfl
          · have h20 : e2 = 0 := by omega
            subst h20
            have hdist := c2 rfl
            obtain ⟨m, m1, m2⟩ := labels_map c 0 [] hdist
            obtain ⟨P, _, p1, p2, rfl, p3⟩ := records_two root life c nodes hrl hc hn hdist m (fun K => by rw [m2]; cases c.find? (fun c => (c.Node : Str) == K) <;> rfl)
            have hPl : P.length < 40 := by have := p3.1; have := hn.2.1; omega
            obtain ⟨R, q1, q2, q3⟩ := sorts_ok (l := P) (fun r hr => (p3.2 r hr).1) hPl
            have hRl := q3.length_eq
            obtain ⟨e, z1, z2, _⟩ := zone_ok (⟨root, R⟩ : T_api_Zone) ⟨by simp only; omega, by simp only; omega, fun r hr => (p3.2 r (q3.mem_iff.1 hr)).2⟩
            have hp : m_name_ZoneOf 400 root life c nodes = some (if e ≠ 0 then ((⟨[], []⟩ : T_api_Zone), e) else ((⟨root, R⟩ : T_api_Zone), 0)) := by
              unfold m_name_ZoneOf
              rw [hck, bi_some, hd0, o1, c1, d1, m1]
              simp only [cond_false, bi_some, show ((0 : Int) != 0) = false from rfl]
              refine Eq.trans (congrArg (fun x => bi x _) p1) ?_
              simp only [bi_some, q1, gd_len hRl, z1]
              by_cases he : e = 0
              · subst he; rfl
              · rw [if_pos he, show (e != 0) = true by simpa using he]; rfl
            have hq : m_laneref1_ZoneFrom 400 root life c nodes = some (if e ≠ 0 then ((⟨[], []⟩ : T_api_Zone), e) else ((⟨root, R⟩ : T_api_Zone), 0)) := by
              unfold m_laneref1_ZoneFrom
              refine Eq.trans (congrArg (fun x => bi x _) p2) ?_
              simp only [bi_some, q2, gd_len hRl, z2]
              by_cases he : e = 0
              · subst he; rfl
              · rw [if_pos he, show (e != 0) = true by simpa using he]; rfl
            rw [hp, hf, hq]
            simp only [bi_some, show ((0 : Int) != 0) = false from rfl, cond_false]
            by_cases he : e = 0
            · subst he
              rw [if_neg (by simp)]
              rw [show ((((⟨root, R⟩ : T_api_Zone), (0 : Int)).2 : Int) == ((⟨root, R⟩ : T_api_Zone), (0 : Int)).2) = true from rfl, same_self _ (by simp only; omega), named_ok]
              exact ok_some rfl
            · rw [if_pos he]
              rw [show ((((⟨[], []⟩ : T_api_Zone), e).2 : Int) == ((⟨[], []⟩ : T_api_Zone), e).2) = true by simp, same_nil, named_ok]
              exact ok_some rfl
  obtain ⟨b, hb, rfl⟩ := key
  exact hb
end Go.Gk
