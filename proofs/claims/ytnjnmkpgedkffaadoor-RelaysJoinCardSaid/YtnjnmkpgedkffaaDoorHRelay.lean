/-
  The plain law of RelaysJoin.
-/
import Derived.Test.YtnjnmkpgedkffaaDoorHTrails
set_option linter.unusedVariables false
set_option linter.unusedSimpArgs false
set_option linter.unusedSectionVars false
set_option maxRecDepth 100000
namespace Go.Gk
/-! ### Links that are drawn; their faults -/
def okLk (l : List T_api_Link) : Prop := (∀ x ∈ l, x.A ∈ keyT ∧ x.v_B ∈ keyT) ∧ l.length ≤ 26
abbrev fiveT : List Str := [[102, 114, 97], [108, 111, 110], [110, 121, 99], [115, 121, 100], [116, 111, 107]]
theorem links_o {l : List Int} {a b : Int} {s : T_lanemake_Stream} (h : At l a b s) (hl : l.length ≤ 9223372036854775807) (h0 : 0 ≤ a) (h1 : b < 4611686018427360000) :
    Ok (m_lanemake_Stream_Links s) fun r => okLk r.1 ∧ At l a (b + 1000) r.2 := by
  unfold m_lanemake_Stream_Links
  refine ok_bi (ok_rangeF (fun i s => At l a (b + 10 * i) s.1 ∧ (∀ x ∈ s.2, x.A ∈ keyT ∧ x.v_B ∈ keyT) ∧ s.2.length ≤ 5 * i) ⟨by simpa using h, (fun x hx => by cases hx), by simp⟩ ?_) ?_
  · rintro i x s hx ⟨hs, ho⟩
    have hi : i < 5 := by have := (List.getElem?_eq_some_iff.1 hx).1; simpa using this
    have hxk : x ∈ keyT := inT' (xs := fiveT) rfl (List.mem_of_getElem? hx)
    have hw : wi ((i : Int) + 1) = ((i + 1 : Nat) : Int) := by rw [wi_id (by omega) (by omega)]; omega
    have hsub : subZ fiveT (wi ((i : Int) + 1)) (fiveT.length : Int) = some ((fiveT.take fiveT.length).drop (i + 1)) := by rw [hw]; exact subZ_cast (show i + 1 ≤ 5 by omega) (Nat.le_refl _)
    refine ok_eq hsub ?_
    have hz : ∀ y ∈ (fiveT.take fiveT.length).drop (i + 1), y ∈ keyT := fun y hy => inT' (xs := fiveT) rfl (List.mem_of_mem_take (List.mem_of_mem_drop hy))
    have hzl : ((fiveT.take fiveT.length).drop (i + 1)).length ≤ 4 := by simp
    generalize (fiveT.take fiveT.length).drop (i + 1) = z at hz hzl
    refine ok_bi (ok_rangeF (fun j s => At l a (b + 10 * i + 2 * j) s.1 ∧ (∀ x ∈ s.2, x.A ∈ keyT ∧ x.v_B ∈ keyT) ∧ s.2.length ≤ 5 * i + j) ⟨by simpa using hs, by simpa using ho⟩ ?_) ?_
    · rintro j y s hy ⟨hs, ho⟩
      have hj : j < z.length := (List.getElem?_eq_some_iff.1 hy).1
      refine ok_bi (flip_o hs 3 hl h0 (by omega) (by decide) (by decide)) fun r hr => ok_bif (fun _ => ?_) (fun _ => ?_)
      · refine ok_bi (pick_o hr [0, 5, 5, 10, 15, 90] hl (by omega) (by omega) (by simp) (by simp)) fun q hq => ok_app (by simp; omega) (ok_some ⟨hq.2.up (by omega) (by omega), fun w hw2 => ?_, ?_⟩)
        · rcases List.mem_append.1 hw2 with hw2 | hw2
          · exact ho.1 w hw2
          · simp only [List.mem_singleton] at hw2; subst hw2; exact ⟨hxk, hz y (List.mem_of_getElem? hy)⟩
        · have := ho.2; simp; omega
      · refine ok_some ⟨hr.up (by omega) (by omega), ho.1, ?_⟩
        have := ho.2; simp only; omega
    · rintro q ⟨hq, ho⟩
      refine ok_some ⟨hq.up (by omega) (by omega), ho.1, ?_⟩
      have := ho.2; simp only; omega
  · rintro q ⟨hq, ho⟩
    simp only [List.length_cons, List.length_nil] at hq ho
    refine ok_bi (flip_o hq 20 hl h0 (by omega) (by decide) (by decide)) fun r hr => ok_bi (P := fun z => At l a (b + 1000) z.1 ∧ okLk z.2) (ok_bif (fun _ => ?_) (fun _ => ?_)) fun z hz => ok_some ⟨hz.2, hz.1⟩
    · refine ok_bi (some_o hr _ hl (by omega) (by omega) (by simp) (by simp)) fun r2 k2 => ?_
      refine ok_bi (some_o k2.2 _ hl (by omega) (by omega) (by simp) (by simp)) fun r3 k3 => ?_
      refine ok_bi (odd_o k3.2 0 1000000 hl (by omega) (by omega) (by decide) (by decide) (by decide)) fun r4 k4 => ?_
      refine ok_app (by simp; omega) (ok_some ⟨k4.up (by omega) (by omega), fun w hw => ?_, ?_⟩)
      · rcases List.mem_append.1 hw with hw | hw
        · exact ho.1 w hw
        · simp only [List.mem_singleton] at hw; subst hw
          exact ⟨inT' (xs := [[], [102, 114, 97], [122, 122]]) rfl k2.1, inT' (xs := [[102, 114, 97], [122, 122, 122]]) rfl k3.1⟩
      · have := ho.2; simp; omega
    · exact ok_some ⟨hr.up (by omega) (by omega), ho.1, by have := ho.2; simp only; omega⟩
theorem orI_ok (l : List Int) : m_cmp_Or_int l = some ((l.find? fun x => x != 0).getD 0) := or_ok l
def ValidL (l : List T_api_Link) : Prop := ∀ x ∈ l, 0 ≤ x.Millis ∧ x.Millis ≤ 1000000 ∧ x.A ≠ [] ∧ x.v_B ≠ []
theorem lfaults_ok (l : List T_api_Link) (h : okLk l) : ∃ e, m_route_CheckLinks 400 l = some e ∧ m_laneref1_LinksFault l = some e ∧ (e = 0 → ValidL l) := by
  have hl := h.2
  have key : Two (m_route_CheckLinks 400 l) (m_laneref1_LinksFault l) fun r q => r = q ∧ (r = 0 → ValidL l) := by
    unfold m_route_CheckLinks m_laneref1_LinksFault
    rw [decide_eq_false (show ¬ (l.length : Int) > 500 by omega)]
    simp only [cond_false]
    refine two_bi (two_rangeM (fun i _ _ => ValidL (l.take i)) (fun r q => r = q ∧ r ≠ 0) (fun x hx => by simp at hx) ?_) ?_
    · rintro i x ⟨⟩ ⟨⟩ hx g1
      have hil : i < l.length := (List.getElem?_eq_some_iff.1 hx).1
      have hxm := h.1 x (List.mem_of_getElem? hx)
      obtain ⟨kn, n1, n2, n3⟩ := key_tab x.A hxm.1
      obtain ⟨kr, k1, k2, k3⟩ := key_tab x.v_B hxm.2
      obtain ⟨ot, o1, o2⟩ := outside_in x.Millis 0 1000000
      simp only [n1, n2, k1, k2, o1, o2, bi_some]
      have hkk : (bif !kn then (some true) else (some (!kr)) : Option Bool) = some (!kn || !kr) := by cases kn <;> rfl
      simp only [hkk, bi_some]
      refine two_bif rfl (fun _ => two_some ⟨rfl, by decide⟩) fun hk => ?_
      refine two_bif rfl (fun _ => two_some ⟨rfl, by decide⟩) fun _ => ?_
      refine two_bif (by simp) (fun _ => two_some ⟨rfl, by decide⟩) fun ho => ?_
      simp only [Bool.or_eq_false_iff, Bool.not_eq_false'] at hk
      have hm : 0 ≤ x.Millis ∧ x.Millis ≤ 1000000 := by
        have : m_kit_Outside x.Millis 0 1000000 = some (decide (x.Millis < 0) || decide (x.Millis > 1000000)) := rfl
        rw [this] at o1
        rw [ho] at o1
        simp only [Option.some.injEq, Bool.or_eq_false_iff, decide_eq_false_iff_not] at o1
        omega
      have hg : ValidL (l.take (i + 1)) := fun y hy => by
        rw [List.take_add_one, hx] at hy
        rcases List.mem_append.1 hy with hy | hy
        · exact g1 y hy
        · simp at hy; subst hy; exact ⟨hm.1, hm.2, n3 hk.1, k3 hk.2⟩
      refine two_bi (P := fun p q => p = q) ?_ ?_
      · by_cases h0 : i = 0
        · subst h0
          exact two_some rfl
        · rw [decide_eq_true (show (i : Int) > 0 by omega)]
          simp only [cond_true]
          have w1 : wi ((i : Int) - 1) = ((i - 1 : Nat) : Int) := by rw [wi_id (by omega) (by omega)]; omega
          have e1 : l[i - 1]? = some l[i - 1] := List.getElem?_eq_getElem (by omega)
          obtain ⟨c, c1⟩ : ∃ c, m_cmp_Or_int [Lib.compareBytes l[i - 1].A x.A, Lib.compareBytes l[i - 1].v_B x.v_B] = some c := ⟨_, orI_ok _⟩
          simp only [w1, getZ_nn e1, bi_some, scmp_ok, c1]
          exact two_some rfl
      · rintro p q rfl
        exact two_bif rfl (fun _ => two_some ⟨rfl, by decide⟩) fun _ => two_some hg
    · intro r q hrq
      cases r <;> cases q <;> simp only [LSR] at hrq
      · rw [List.take_length] at hrq
        exact two_some ⟨rfl, fun _ => hrq⟩
      · exact two_some ⟨hrq.1, fun e => absurd e hrq.2⟩
  obtain ⟨r, q, h1, h2, rfl, h3⟩ := key
  exact ⟨r, h1, h2, h3⟩
theorem ValidL.w {l : List T_api_Link} (h : ValidL l) : ∀ x ∈ l, 0 ≤ x.Millis ∧ x.Millis ≤ 1000000 := fun x hx => ⟨(h x hx).1, (h x hx).2.1⟩
theorem ValidL.k {l : List T_api_Link} (h : ValidL l) : ∀ x ∈ l, x.A ≠ [] ∧ x.v_B ≠ [] := fun x hx => (h x hx).2.2
/-! ### Both ways are one -/
theorem both_ok (l : List T_api_Link) (hl : l.length ≤ 100) (hv : ValidL l) (a b : Str) : ∃ p m ok, m_laneref1_TrailOf 400 l a b = some (p, m, ok) ∧ (ok = false → p = [] ∧ m = 0) ∧ ∀ al, Ok (m_route_through 400 l a b al) fun q => q.1 = p ∧ q.2.1 = m ∧ q.2.2.1 = bif ok then 0 else 8 := by
  obtain ⟨⟨p, m, ok⟩, e, h1, h2⟩ := trail_ok l hl hv.w a b
  simp only at h1 h2
  refine ⟨p, m, ok, e, fun h => (h2 h).2, fun al => ?_⟩
  refine ok_mono (through_ok l hl hv.w hv.k a b al) ?_
  rintro ⟨p', m', e', al'⟩ h
  simp only at h ⊢
  cases ok with
  | true =>
    obtain ⟨k1, k2⟩ := h1 rfl
    rcases h with ⟨rfl, k3, k4⟩ | ⟨_, k3, _⟩
    · have := T_laneref1_trail.anti (k4 p m k1) (k2 p' m' k3)
      simp only [T_laneref1_trail.mk.injEq] at this
      exact ⟨this.1, this.2, rfl⟩
    · exact absurd k1 (k3 p m)
  | false =>
    obtain ⟨k1, k2, k3⟩ := h2 rfl
    rcases h with ⟨_, k4, _⟩ | ⟨rfl, _, k5, k6⟩
    · exact absurd k4 (k1 p' m')
    · exact ⟨by rw [k5, k2], by rw [k6, k3], rfl⟩
theorem routed_ok (al : BagT) : Ok (m_lanelaw1_routed 400 al) fun q => q.1 = true := by
  unfold m_lanelaw1_routed m_route_Through
  rw [show m_route_CheckLinks 400 [(⟨[97], [98], 3⟩ : T_api_Link)] = some 0 from rfl, show m_kit_IsKey 400 [98] = some true from rfl, show m_kit_IsKey 400 [97] = some true from rfl]
  simp only [bi_some]
  rw [show ((0 : Int) != 0) = false from rfl]
  simp only [cond_false, Bool.not_true, bi_some]
  have hadj : ∀ u v w, adj [(⟨[97], [98], 3⟩ : T_api_Link)] u v w → w = 3 ∧ ((u = [97] ∧ v = [98]) ∨ (u = [98] ∧ v = [97])) := fun u v w h => by
    obtain ⟨x, hx, h1, h2⟩ := h
    simp only [List.mem_singleton] at hx
    subst hx
    exact ⟨h1.symm, h2.imp (fun h => ⟨h.1.symm, h.2.symm⟩) fun h => ⟨h.1.symm, h.2.symm⟩⟩
  have hw : Wk (adj [(⟨[97], [98], 3⟩ : T_api_Link)]) [98] [97] [[98], [97]] 3 := by
    have := Wk.cons (E := adj [(⟨[97], [98], 3⟩ : T_api_Link)]) (u := [98]) (v := [97]) (w := 3) ⟨_, List.mem_singleton.2 rfl, rfl, .inr ⟨rfl, rfl⟩⟩ (.one [97])
    simpa using this
  have hpos : ∀ {x y : Str} {p : List Str} {m : Int}, Wk (adj [(⟨[97], [98], 3⟩ : T_api_Link)]) x y p m → 0 ≤ m := by
    intro x y p m h
    induction h with
    | one => exact Int.le_refl _
    | cons h1 _ ih => have := (hadj _ _ _ h1).1; omega
  refine ok_bi (P := fun y => y.1 = [[98], [97]] ∧ y.2.1 = 3 ∧ y.2.2.1 = 0) ?_ ?_
  · refine ok_bi (through_ok [(⟨[97], [98], 3⟩ : T_api_Link)] (by decide) (fun x hx => by simp at hx; subst hx; decide) (fun x hx => by simp at hx; subst hx; decide) [98] [97] al) ?_
    rintro ⟨p, m, e, al'⟩ h
    simp only at h
    rcases h with ⟨rfl, h1, h2⟩ | ⟨_, h1, _⟩
    · have h3 := h2 _ _ hw
      have : p = [[98], [97]] ∧ m = 3 := by
        have hle : m ≤ 3 := by
          rcases h3 with h3 | h3
          · unfold T_laneref1_trail.less at h3; simp only at h3; omega
          · simp only [T_laneref1_trail.mk.injEq] at h3; omega
        cases h1 with
        | @cons _ v _ p2 m2 w g1 g2 =>
          obtain ⟨rfl, g3⟩ := hadj _ _ _ g1
          have hm2 := hpos g2
          rcases g3 with ⟨g3, _⟩ | ⟨_, rfl⟩
          · cases g3
          · cases g2 with
            | one => exact ⟨rfl, rfl⟩
            | cons g4 g5 =>
              have := (hadj _ _ _ g4).1
              have := hpos g5
              omega
      exact ok_some ⟨this.1, this.2, rfl⟩
    · exact absurd hw (h1 _ _)
  · rintro ⟨p, m, e, al'⟩ ⟨h1, h2, h3⟩
    simp only at h1 h2 h3
    subst h1; subst h2; subst h3
    exact ⟨_, rfl, rfl⟩
theorem names_equal (l : List Str) : m_slices_Equal_string_string l l = some true := by
  unfold m_slices_Equal_string_string
  have e : (((l.length : Int) : Int) != (l.length : Int)) = false := by simp
  rw [e]
  simp only [cond_false]
  obtain ⟨s', h, _⟩ | ⟨r, h, hf⟩ := rangeM_at (f := fun i3 (x5 : Str) (s4 : Unit) => bi (getZ l (i3 : Int)) fun x14 => bif !((x5 : Str) == x14) then (bi (some false) fun v => some (LS.out v)) else (some (LS.go ()))) l (fun _ _ => True) (fun _ : Bool => False)
    (fun i x s hx _ => .inl ⟨(), by rw [getZ_nn hx]; simp, trivial⟩) l 0 () rfl trivial
  · rw [h]; rfl
  · exact absurd hf id
/-- What was told last, two ways. -/
theorem told_two (l : List T_api_Probe) (node relay : Str) (t : Int) : ∃ n, m_route_told l node relay t = some n ∧ m_laneref1_lastMillis l node relay t = some n := by
  refine two_same ?_
  unfold m_route_told m_laneref1_lastMillis
  refine two_bi (P := fun a b => a = b) (two_rangeF (fun _ a b => a = b) rfl ?_) fun a b h => two_some h
  rintro i x s _ _ rfl
  refine two_bif ?_ (fun _ => two_some rfl) fun _ => two_some rfl
  cases (x.Node == node) <;> cases (x.Relay == relay) <;> cases decide (x.At ≤ t) <;> rfl
theorem RelaysJoin_ok (l : List Int) (hl : l.length ≤ 9223372036854775807) (al : BagT) : Ok (m_lanelaw1_RelaysJoin 400 l al) fun q => q.1 = true := by
  unfold m_lanelaw1_RelaysJoin
  refine ok_bi (links_o (l := l) (a := 0) (b := 0) (s := ⟨l, 0⟩) ⟨rfl, Int.le_refl _, Int.le_refl _⟩ hl (by omega) (by omega)) fun y1 h1 => ?_
  refine ok_bi (some_o h1.2 _ hl (by omega) (by omega) (by simp) (by simp)) fun y3 h3 => ?_
  refine ok_bi (some_o h3.2 _ hl (by omega) (by omega) (by simp) (by simp)) fun y5 h5 => ?_
  refine ok_bi (range_o h5.2 0 4 hl (by omega) (by omega) (by omega) (by omega) (by omega)) fun y7 h7 => ?_
  refine ok_bi (probes_o h7.2.2 y7.1 hl (by omega) (by omega) (by omega)) fun y9 h9 => ?_
  refine ok_bi (pick_o h9.2 _ hl (by omega) (by omega) (by simp) (by simp)) fun y11 h11 => ?_
  refine ok_bi (some_o h11.2 _ hl (by omega) (by omega) (by simp) (by simp)) fun y13 h13 => ?_
  refine ok_bi (some_o h13.2 _ hl (by omega) (by omega) (by simp) (by simp)) fun y15 h15 => ?_
  refine ok_bi (pick_o h15.2 _ hl (by omega) (by omega) (by simp) (by simp)) fun y17 h17 => ?_
  have hx := h1.1
  have hp := h9.1
  have hka := inT' (xs := [[102, 114, 97], [108, 111, 110], [110, 121, 99], [122, 122], []]) rfl h3.1
  have hkb := inT' (xs := [[102, 114, 97], [115, 121, 100], [116, 111, 107], [65]]) rfl h5.1
  have hkm := inT' (xs := [[110, 97], [110, 97], []]) rfl h13.1
  have hkn := inT' (xs := [[110, 98], [110, 98], [110, 97]]) rfl h15.1
  generalize y1.1 = x at hx ⊢
  generalize y3.1 = a at hka ⊢
  generalize y5.1 = b at hkb ⊢
  generalize y9.1 = p at hp ⊢
  generalize y11.1 = gain
  generalize y13.1 = m at hkm ⊢
  generalize y15.1 = n at hkn ⊢
  generalize y17.1 = t
  clear h1 h3 h5 h7 h9 h11 h13 h15 h17 y1 y3 y5 y7 y9 y11 y13 y15 y17
  have hxl : x.length ≤ 100 := by have := hx.2; omega
  obtain ⟨e, e1, e2, e3⟩ := lfaults_ok x hx
  obtain ⟨f, f1, f2, f3⟩ := pfaults_ok p hp
  obtain ⟨og, g1, g2⟩ := gain_two gain
  obtain ⟨ka, a1, a2, a3⟩ := key_tab a hka
  obtain ⟨kb, b1, b2, b3⟩ := key_tab b hkb
  obtain ⟨km, m1, m2, m3⟩ := key_tab m hkm
  obtain ⟨kn, n1, n2, n3⟩ := key_tab n hkn
  have a4 := keyF_ok a ka a2
  have b4 := keyF_ok b kb b2
  have m4 := keyF_ok m km m2
  have n4 := keyF_ok n kn n2
  obtain ⟨om, o1, o2⟩ := momF_ok t
  have hwhen : m_lanelaw1_when ((m : Str) == n) 6 = some (bif (m == n) then 6 else 0) := by unfold m_lanelaw1_when; cases (m == n) <;> rfl
  have hee : (e != e) = false := by simp
  -- the first part
  have hpart1 : Ok (m_route_Through 400 x a b al) fun y19 => Ok (bi (bif (((([e, bif ka then 0 else 5, bif kb then 0 else 5] : List Int).find? fun x => x != 0).getD 0 : Int) == 0) then (bi (m_laneref1_TrailOf 400 x a b) fun y36 => bi (m_lanelaw1_when (!y36.2.2) 8) fun y38 => bif y36.2.2 then (some (y38, y36.1, y36.2.1)) else (some (y38, [], 0))) else (some ((([e, bif ka then 0 else 5, bif kb then 0 else 5] : List Int).find? fun x => x != 0).getD 0, [], 0))) fun q33 => some q33) fun q33 => y19.2.2.1 = q33.1 ∧ y19.1 = q33.2.1 ∧ y19.2.1 = q33.2.2 := by
    unfold m_route_Through
    rw [e1]
    simp only [bi_some]
    by_cases he : e = 0
    · subst he
      have hv := e3 rfl
      rw [show ((0 : Int) != 0) = false from rfl]
      simp only [cond_false, a1, b1, bi_some]
      cases ka with
      | false =>
        simp only [Bool.not_false, cond_true, bi_some]
        exact ok_some (ok_some ⟨rfl, rfl, rfl⟩)
      | true =>
        cases kb with
        | false =>
          simp only [Bool.not_true, Bool.not_false, cond_false, cond_true, bi_some]
          exact ok_some (ok_some ⟨rfl, rfl, rfl⟩)
        | true =>
          simp only [Bool.not_true, cond_false, bi_some]
          obtain ⟨tp, tm, ok, k1, k2, k3⟩ := both_ok x hxl hv a b
          refine ok_bi (k3 al) ?_
          rintro ⟨q1, q2, q3, q4⟩ ⟨r1, r2, r3⟩
          simp only at r1 r2 r3
          refine ok_some ?_
          rw [show (((([0, bif true then 0 else 5, bif true then 0 else 5] : List Int).find? fun x => x != 0).getD 0 : Int) == 0) = true from rfl]
          simp only [cond_true, k1, bi_some]
          unfold m_lanelaw1_when
          cases ok with
          | true =>
            simp only [Bool.not_true, cond_false, cond_true, bi_some]
            exact ok_some ⟨r3, r1, r2⟩
          | false =>
            obtain ⟨rfl, rfl⟩ := k2 rfl
            simp only [Bool.not_false, cond_true, cond_false, bi_some]
            exact ok_some ⟨r3, r1, r2⟩
    · have hne : (e != 0) = true := by simpa using he
      have hne2 : (e == 0) = false := by simpa using he
      have h1 : (([e, bif ka then 0 else 5, bif kb then 0 else 5] : List Int).find? fun x => x != 0).getD 0 = e := by simp [List.find?_cons, hne]
      rw [hne, h1, hne2]
      exact ok_some (ok_some ⟨rfl, rfl, rfl⟩)
  refine ok_bi hpart1 ?_
  rintro ⟨t1, t2, t3, al1⟩ hq
  simp only [e1, e2, a4, b4, or_ok, bi_some, hee, cond_false]
  obtain ⟨⟨q1, q2, q3⟩, hq1, hq2, hq3, hq4⟩ := hq
  simp only at hq2 hq3 hq4
  subst hq2; subst hq3; subst hq4
  have hq1' : (bif (((([e, bif ka then 0 else 5, bif kb then 0 else 5] : List Int).find? fun x => x != 0).getD 0 : Int) == 0) then (bi (m_laneref1_TrailOf 400 x a b) fun y36 => bi (m_lanelaw1_when (!y36.2.2) 8) fun y38 => bif y36.2.2 then (some (y38, y36.1, y36.2.1)) else (some (y38, [], 0))) else (some ((([e, bif ka then 0 else 5, bif kb then 0 else 5] : List Int).find? fun x => x != 0).getD 0, [], 0))) = some (t3, t1, t2) := by
    obtain ⟨z, z1, z2⟩ := bi_ok hq1
    rw [z1, Option.some.inj z2]
  rw [hq1']
  simp only [bi_some]
  rw [show (t3 != t3) = false by simp, names_equal]
  simp only [cond_false, bi_some, Bool.not_true, Bool.false_or]
  rw [show (t2 != t2) = false by simp]
  simp only [cond_false]
  -- the second part
  have hfin : ∀ al2, Ok (bi (bi (m_lanelaw1_routed 400 al2) fun y => some (y.2, y.1)) fun q => some (q.2, q.1)) fun q : Bool × BagT => q.1 = true := fun al2 => ok_bi (P := fun q : BagT × Bool => q.2 = true) (ok_bi (routed_ok al2) fun z hz => ok_some hz) fun z hz => ok_some hz
  have hO : (([f, e, bif og then 1 else 0, bif km then 0 else 5, bif kn then 0 else 5, bif (m == n) then 6 else 0, bif om then 1 else 0] : List Int).find? fun x => x != 0).getD 0 = (if f ≠ 0 then f else if e ≠ 0 then e else if og then 1 else if !km || !kn then 5 else if m == n then 6 else if om then 1 else 0) := by
    by_cases hf : f = 0
    · by_cases he : e = 0
      · subst hf; subst he
        cases og <;> cases km <;> cases kn <;> cases (m == n) <;> cases om <;> rfl
      · have : (e != 0) = true := by simpa using he
        subst hf
        simp [List.find?_cons, this, he]
    · have : (f != 0) = true := by simpa using hf
      simp [List.find?_cons, this, hf]
  simp only [f2, g2, m4, n4, hwhen, o1, or_ok, bi_some, hO]
  by_cases hgood : f = 0 ∧ e = 0 ∧ og = false ∧ km = true ∧ kn = true ∧ (m == n) = false ∧ om = false
  · obtain ⟨rfl, rfl, rfl, rfl, rfl, hmn, rfl⟩ := hgood
    have hvp := f3 rfl
    have hvl := e3 rfl
    obtain ⟨T1, hT1⟩ : ∃ T, T = (PRh (mos (ownP p m)) (nwH (ownP p m) gain) (mos (ownP p m)).length).1 := ⟨_, rfl⟩
    obtain ⟨T2, hT2⟩ : ∃ T, T = (PRh (mos (ownP p n)) (nwH (ownP p n) gain) (mos (ownP p n)).length).1 := ⟨_, rfl⟩
    have hP1 : m_route_homes 400 p gain m = some T1 := by rw [hT1]; exact homes_ok p gain m hp.2 hvp
    have hP2 : m_route_homes 400 p gain n = some T2 := by rw [hT2]; exact homes_ok p gain n hp.2 hvp
    have hR1 : ∀ al, Ok (m_laneref1_HomeTurns p gain m al) fun q => q.1 = T1 := fun al => by rw [hT1]; exact turns_ok p gain m hp.2 hvp al
    have hR2 : ∀ al, Ok (m_laneref1_HomeTurns p gain n al) fun q => q.1 = T2 := fun al => by rw [hT2]; exact turns_ok p gain n hp.2 hvp al
    obtain ⟨w1, u1, u2⟩ := who_ok T1 t
    obtain ⟨w2, u3, u4⟩ := who_ok T2 t
    obtain ⟨d1, d2, d3⟩ := told_two p m w1 t
    obtain ⟨c1, c2, c3⟩ := told_two p n w2 t
    have hF : (if (0 : Int) ≠ 0 then 0 else if (0 : Int) ≠ 0 then 0 else if false = true then 1 else if (!true || !true) = true then 5 else if (m == n) = true then 6 else if false = true then 1 else 0 : Int) = 0 := by simp [hmn]
    rw [hF]
    have hH1 : ∀ al, Ok (m_laneref1_HomeAt p gain m t al) fun q => q.1 = w1 := fun al => by
      unfold m_laneref1_HomeAt
      exact ok_bi (hR1 al) fun q hq => by rw [hq, u2]; exact ok_some rfl
    have hH2 : ∀ al, Ok (m_laneref1_HomeAt p gain n t al) fun q => q.1 = w2 := fun al => by
      unfold m_laneref1_HomeAt
      exact ok_bi (hR2 al) fun q hq => by rw [hq, u4]; exact ok_some rfl
    have hdiv : ∀ z : Int, divZ .i64 z 2 = some (IntKind.i64.wrap (z.tdiv 2)) := fun z => rfl
    unfold m_route_Relayed m_laneref1_RelayedAt
    simp only [f1, e1, g1, m1, n1, o2, hmn, hP1, hP2, u1, u3, bi_some, cond_false, Bool.not_true, Bool.not_false]
    rw [show ((0 : Int) != 0) = false from rfl]
    simp only [cond_false]
    cases hw : ((w1 == []) || (w2 == [])) with
    | true =>
      simp only [cond_true, bi_some]
      refine ok_bi (P := fun q : List Str × Int × Bool × BagT => q.1 = [] ∧ q.2.1 = 0 ∧ q.2.2.1 = false) ?_ ?_
      · refine ok_bi (hH1 al1) fun q hq => ok_bi (hH2 q.2) fun q' hq' => ?_
        rw [hq, hq', hw]
        exact ok_some ⟨rfl, rfl, rfl⟩
      · rintro ⟨z1, z2, z3, z4⟩ ⟨r1, r2, r3⟩
        simp only at r1 r2 r3
        subst r1; subst r2; subst r3
        unfold m_lanelaw1_when
        simp only [Bool.not_false, cond_true, bi_some, names_equal, beq_self_eq_true, Bool.and_self]
        exact hfin z4
    | false =>
      obtain ⟨tp, tm, ok, k1, k2, k3⟩ := both_ok x hxl hvl w1 w2
      simp only [cond_false]
      refine ok_bi (P := fun q : List Str × Int × Int × BagT => q.1 = tp ∧ q.2.1 = (bif ok then wi (wi (tm + IntKind.i64.wrap (d1.tdiv 2)) + IntKind.i64.wrap (c1.tdiv 2)) else 0) ∧ q.2.2.1 = bif ok then 0 else 8) ?_ ?_
      · refine ok_bi (k3 al1) ?_
        rintro ⟨z1, z2, z3, z4⟩ ⟨r1, r2, r3⟩
        simp only at r1 r2 r3
        subst r1; subst r2; subst r3
        cases ok with
        | true =>
          simp only [cond_true]
          rw [show ((0 : Int) != 0) = false from rfl]
          simp only [cond_false, d2, c2, hdiv, bi_some]
          exact ok_some ⟨rfl, rfl, rfl⟩
        | false =>
          obtain ⟨r4, _⟩ := k2 rfl
          simp only [cond_false]
          rw [show ((8 : Int) != 0) = true from rfl]
          simp only [cond_true]
          exact ok_some ⟨r4.symm, rfl, rfl⟩
      · rintro ⟨z1, z2, z3, z4⟩ ⟨r1, r2, r3⟩
        simp only at r1 r2 r3
        subst r1; subst r2; subst r3
        refine ok_bi (P := fun q : List Str × Int × Bool × BagT => q.1 = z1 ∧ q.2.1 = (bif ok then wi (wi (tm + IntKind.i64.wrap (d1.tdiv 2)) + IntKind.i64.wrap (c1.tdiv 2)) else 0) ∧ q.2.2.1 = ok) ?_ ?_
        · refine ok_bi (hH1 z4) fun q hq => ok_bi (hH2 q.2) fun q' hq' => ?_
          rw [hq, hq', hw]
          simp only [cond_false, k1, bi_some]
          cases ok with
          | true =>
            simp only [Bool.not_true, cond_false, d3, c3, hdiv, bi_some]
            exact ok_some ⟨rfl, rfl, rfl⟩
          | false =>
            obtain ⟨r4, _⟩ := k2 rfl
            simp only [Bool.not_false, cond_true]
            exact ok_some ⟨r4.symm, rfl, rfl⟩
        · rintro ⟨v1, v2, v3, v4⟩ ⟨r1, r2, r3⟩
          simp only at r1 r2 r3
          subst r1; subst r2; subst r3
          unfold m_lanelaw1_when
          have hb : (bif !v3 then (some 8 : Option Int) else some 0) = some (bif v3 then 0 else 8) := by cases v3 <;> rfl
          simp only [hb, bi_some, names_equal, beq_self_eq_true, cond_true, Bool.and_self]
          exact hfin v4
  · have hne : (if f ≠ 0 then f else if e ≠ 0 then e else if og then 1 else if !km || !kn then 5 else if m == n then 6 else if om then 1 else 0 : Int) ≠ 0 := by
      intro h
      refine hgood ?_
      by_cases hf : f = 0
      · by_cases he : e = 0
        · subst hf; subst he
          revert h
          cases og <;> cases km <;> cases kn <;> cases (m == n) <;> cases om <;> simp
        · rw [if_neg (by simpa using hf), if_pos he] at h; exact absurd h he
      · rw [if_pos hf] at h; exact absurd h hf
    have hrel : m_route_Relayed 400 p x gain m n t al1 = some ([], 0, (if f ≠ 0 then f else if e ≠ 0 then e else if og then 1 else if !km || !kn then 5 else if m == n then 6 else if om then 1 else 0), al1) := by
      unfold m_route_Relayed
      rw [f1, e1, g1, m1, n1, o2]
      simp only [bi_some]
      by_cases hf : f = 0
      · by_cases he : e = 0
        · subst hf; subst he
          revert hgood
          cases og <;> cases km <;> cases kn <;> cases (m == n) <;> cases om <;> simp
        · have : (e != 0) = true := by simpa using he
          subst hf
          simp [this, he]
      · have : (f != 0) = true := by simpa using hf
        simp [this, hf]
    rw [hrel]
    simp only [bi_some]
    generalize (if f ≠ 0 then f else if e ≠ 0 then e else if og then 1 else if !km || !kn then 5 else if m == n then 6 else if om then 1 else 0 : Int) = F at hne
    have hF : (F != 0) = true := by simpa using hne
    simp only [hF, cond_true, beq_self_eq_true, List.length_nil, Bool.true_and]
    exact hfin al1
theorem RelaysJoin_true (l : List Int) (hl : l.length ≤ 9223372036854775807) (al : BagT) : ∃ al', m_lanelaw1_RelaysJoin 400 l al = some (true, al') := by
  obtain ⟨⟨b, al'⟩, h1, h2⟩ := RelaysJoin_ok l hl al
  exact ⟨al', by rw [h1, show b = true from h2]⟩
end Go.Gk
