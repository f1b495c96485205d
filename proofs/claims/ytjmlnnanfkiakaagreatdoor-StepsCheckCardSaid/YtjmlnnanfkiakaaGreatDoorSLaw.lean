/-
  The plain law of StepsCheck.
-/
import Derived.Test.YtjmlnnanfkiakaaGreatDoorSSteps
set_option linter.unusedVariables false
set_option linter.unusedSimpArgs false
set_option linter.unusedSectionVars false
set_option maxRecDepth 100000
namespace Go.Gk
section
variable {l : List Int} {b : Int} {s : T_lanemake_Stream}
theorem or2_ok (a c : Int) : m_cmp_Or_api_Errno [a, c] = some (if a ≠ 0 then a else c) := by
  unfold m_cmp_Or_api_Errno
  by_cases ha : a = 0
  · by_cases hc : c = 0
    · subst ha hc; rfl
    · have : (c != 0) = true := by simpa using hc
      subst ha
      simp [rangeM, this, goI]
  · have : (a != 0) = true := by simpa using ha
    simp [rangeM, this, goI, ha]
theorem yard_d (h : At l 0 b s) (hl : Smal l) (hb : b < 4611686018427200000) (many : Int) (hm : 0 ≤ many) (hm2 : many ≤ 7) :
    Ok (m_lanelaw1_yardOf 400 s many) fun r => (DirOk r.1.d ∧ AllS r.1.l ∧ r.1.l.length ≤ 7) ∧ At l 0 (b + 2000) r.2 := by
  unfold m_lanelaw1_yardOf
  refine ok_bi (dir_d (show At l 0 b ⟨s.L, s.v_at⟩ from h) hl (by omega)) fun y1 h1 => ?_
  refine ok_bi (steps_d h1.2 hl (by omega) many hm (by omega)) fun y3 h3 => ?_
  refine ok_bi (dir_o h1.1) fun y5 _ => ?_
  obtain ⟨e, _, e2, _⟩ := log_two h3.1.1 (by omega)
  refine ok_eq e2 ?_
  rw [or2_ok]
  exact ok_some ⟨⟨h1.1, h3.1.1, by simp only; omega⟩, h3.2.up (Int.le_refl _) (by omega)⟩
def Oth (a b : List T_api_Step) : Prop := AllS b ∧ Short a b ∧ b.length ≤ 7
theorem sameO_refl (x : T_api_Step) : sameO x x = true := by unfold sameO; simp
theorem other_d {a : List T_api_Step} {q : T_lanemake_Stream × Bool} {y11 : List T_api_Step} (h : At l 0 b q.1) (hl : Smal l) (hb : b < 4611686018427300000) (ha : AllS a) (ha2 : a.length ≤ 7) (hy : AllS y11) (hy2 : y11.length ≤ 4) (hq : q.2 = true → 0 < a.length) :
    Ok (bif q.2 then (bi (m_lanemake_Stream_Next q.1 (a.length : Int)) fun y22 => bi (subZ a y22.1 (a.length : Int)) fun z24 => bi (m_slices_Clone_api_Step_api_Step z24) fun y26 => bi (m_lanemake_Stream_Flip y22.2 5) fun y28 => bif y28.1 then (bi (getZ y26 0) fun x31 => bi (getZ y26 0) fun x34 => some (y28.2, y26.set ((0 : Int).toNat) (⟨x34.At, x34.Server, x34.No, x34.Kind, x34.By, x34.Node, x34.Join, x34.Public, x34.Name, x34.Tags, x34.Until, x34.Uses, !x31.Ready⟩ : T_api_Step))) else (some (y28.2, y26))) else (some (q.1, y11))) fun r => Oth a r.2 := by
  refine ok_bif (fun g => ?_) fun _ => ok_some ⟨hy, .inl (by simp only; omega), by simp only; omega⟩
  have hn := hq g
  refine ok_bi (next_d h _ hl (by omega) (by omega) (by omega)) fun y22 h22 => ?_
  obtain ⟨⟨n0, n1⟩, h22⟩ := h22
  have hz : subZ a y22.1 (a.length : Int) = some (a.drop y22.1.toNat) := by
    have := subZ_cast (l := a) (i := y22.1.toNat) (j := a.length) (by omega) (Nat.le_refl _)
    rw [List.take_length, Int.toNat_of_nonneg n0] at this
    exact this
  refine ok_eq hz ?_
  have hc : m_slices_Clone_api_Step_api_Step (a.drop y22.1.toNat) = some (a.drop y22.1.toNat) := bi_of (apd_some (by simp only [List.length_nil, List.length_drop]; omega)) rfl
  refine ok_eq hc ?_
  have hd : ∀ x ∈ a.drop y22.1.toNat, x ∈ a := fun x hx => List.mem_of_mem_drop hx
  have hself : ∀ x ∈ a, a.any (fun y => sameO y x) = true := fun x hx => List.any_eq_true.2 ⟨x, hx, sameO_refl x⟩
  refine ok_bi (flip_d h22 5 hl (by omega) (by decide) (by decide)) fun y28 h28 => ?_
  refine ok_bif (fun _ => ?_) fun _ => ok_some ⟨fun x hx => ha x (hd x hx), .inr ⟨by omega, fun x hx => hself x (hd x hx)⟩, by simp only [List.length_drop]; omega⟩
  have h0 : (a.drop y22.1.toNat)[0]? = some ((a.drop y22.1.toNat)[0]'(by rw [List.length_drop]; omega)) := List.getElem?_eq_getElem _
  have hm := hd _ (List.mem_of_getElem? h0)
  generalize ((a.drop y22.1.toNat)[0]'(by rw [List.length_drop]; omega)) = w at h0 hm
  refine ok_get (j := 0) rfl h0 (ok_get (j := 0) rfl h0 (ok_some ⟨?_, ?_, ?_⟩))
  · have hw := ha w hm
    refine AllS.set (fun x hx => ha x (hd x hx)) ?_
    exact ⟨hw.sv, hw.by_, hw.nd, hw.jn, hw.nm, hw.pb, hw.tg⟩
  · refine .inr ⟨by omega, fun x hx => ?_⟩
    rcases List.mem_or_eq_of_mem_set hx with g1 | rfl
    · exact hself x (hd x g1)
    · exact hself w hm
  · simp only [List.length_set, List.length_drop]; omega
theorem noded_ok : m_lanelaw1_noded 400 = some true := by rfl
/-- The owners. -/
theorem own_part {d : T_api_Directory} (hd : DirOk d) (u t : Str) {m : Option Bool} (hm : m = some true) :
    (bi (m_node_Owns 400 d u t) fun y39 => bi (m_laneref1_DirectoryFault d) fun y41 => bi (m_node_CheckDirectory 400 d) fun y43 => bif (y43 : Int) != y41 then (some false) else (bi (bif (y41 : Int) == 0 then (bi (m_laneref1_OwnsOf d u t) fun y50 => some (y50.2, y50.1)) else (some (y41, false))) fun q47 => bif (((y39.2 : Int) != q47.1) || (!((y39.1 : Bool) == q47.2))) then (some false) else m)) = some true := by
  obtain ⟨e, he, _⟩ := dir_o hd
  have hc : m_node_CheckDirectory 400 d = some e := (dir_eq hd).trans he
  by_cases h0 : e = 0
  · subst h0
    obtain ⟨r, h1, h2⟩ := owns_two hc u t
    refine bi_of h1 (bi_of he (bi_of hc ?_))
    refine bif_f (by simp) (bi_of (r := (r.2, r.1)) (bif_t rfl (bi_of h2 rfl)) (bif_f ?_ hm))
    simp
  · have hb : (e != 0) = true := by simpa using h0
    have hb2 : (e == 0) = false := by simpa using h0
    refine bi_of (owns_fault hc hb u t) (bi_of he (bi_of hc ?_))
    refine bif_f (by simp) (bi_of (r := (e, false)) (bif_f hb2 rfl) (bif_f ?_ hm))
    simp
/-- The merging. -/
theorem merge_part {a b : List T_api_Step} (ha : AllS a) (ha2 : a.length ≤ 7) (hb : Oth a b) :
    (bi (m_node_Merge 400 a b) fun y55 => bi (m_laneref1_StepsFault a) fun y57 => bi (m_node_Check 400 a) fun y59 => bif (y59 : Int) != y57 then (some false) else (bi (m_laneref1_StepsFault b) fun y63 => bi (m_cmp_Or_api_Errno [y57, y63]) fun y65 => bif (y65 : Int) != 0 then (bi (bif (((y55.2 : Int) == y65) && (((y55.1.length : Int) : Int) == 0)) then (bi (m_lanelaw1_noded 400) fun y71 => some y71) else (some false)) fun q68 => some q68) else (bi (m_laneref1_StepsMerged 400 a b) fun y75 => bi (bif (y55.2 : Int) == y75.2 then (bi (m_laneref1_SameSteps y55.1 y75.1) fun y80 => some y80) else (some false)) fun q77 => bi (bif q77 then (bi (m_lanelaw1_noded 400) fun y86 => some y86) else (some false)) fun q83 => some q83))) = some true := by
  obtain ⟨ea, a1, a2, a3⟩ := log_two ha (by omega)
  obtain ⟨eb, b1, b2, b3⟩ := log_two hb.1 (by have := hb.2.2; omega)
  have tl : ∀ {m : List T_api_Step}, AllS m → ∀ x ∈ m, x.Tags.length ≤ 4294967296 := fun hm x hx => by
    obtain ⟨_, _, _, h⟩ := tags_tab _ (hm x hx).tg
    omega
  by_cases hf : ea ≠ 0 ∨ eb ≠ 0
  · have hne : ((if ea ≠ 0 then ea else eb) != 0) = true := by
      by_cases h : ea = 0
      · have : eb ≠ 0 := by rcases hf with h1 | h1; exact absurd h h1; exact h1
        simp [h, this]
      · simp [h]
    refine bi_of (merge_fault a1 b1 hf) (bi_of a2 (bi_of a1 ?_))
    refine bif_f (by simp) (bi_of b2 (bi_of (or2_ok _ _) (bif_t hne (bi_of (r := true) (bif_t ?_ (bi_of noded_ok rfl)) rfl))))
    simp
  · have h0 : ea = 0 ∧ eb = 0 := by omega
    obtain ⟨rfl, rfl⟩ := h0
    obtain ⟨r, m1, m2⟩ := merge_two a1 b1 (a3 rfl) (tl ha) (tl hb.1) (by omega) hb.2.1
    refine bi_of m1 (bi_of a2 (bi_of a1 ?_))
    refine bif_f (by simp) (bi_of b2 (bi_of (or2_ok _ _) (bif_f (by simp) (bi_of m2 ?_))))
    refine bi_of (r := true) (bif_t (by simp) (bi_of (sameSteps_refl _) rfl)) ?_
    exact bi_of (r := true) (bif_t rfl (bi_of noded_ok rfl)) rfl
end
theorem StepsCheck_true (l : List Int) (hl : l.length ≤ 9223372036854775807) : m_lanelaw1_StepsCheck 400 l = some true := by
  have key : Ok (m_lanelaw1_StepsCheck 400 l) fun r => r = true := by
    unfold m_lanelaw1_StepsCheck
    refine ok_bi (range_d (b := 0) (l := l) ⟨rfl, Int.le_refl 0, Int.le_refl 0⟩ 0 7 hl (by decide) (by decide) (by decide) (by decide)) fun y1 h1 => ?_
    refine ok_bi (yard_d h1.2 hl (by decide) y1.1 (by omega) (by omega)) fun y3 h3 => ?_
    refine ok_bi (user_d h3.2 hl (by decide)) fun y5 h5 => ?_
    refine ok_bi (some_d (P := fun _ => True) h5.2 _ hl (by decide) (by decide) (by decide) (fun _ _ => trivial)) fun y7 h7 => ?_
    refine ok_bi (range_d h7.2 0 4 hl (by decide) (by decide) (by decide) (by decide)) fun y9 h9 => ?_
    refine ok_bi (steps_d h9.2 hl (by decide) y9.1 (by omega) (by omega)) fun y11 h11 => ?_
    refine ok_bi (P := fun q : T_lanemake_Stream × Bool => At l 0 10000 q.1 ∧ (q.2 = true → 0 < y3.1.l.length)) (ok_bif (fun g => ?_) fun _ => ok_some ⟨h11.2.up (Int.le_refl _) (by decide), fun g => by cases g⟩) fun q13 h13 => ?_
    · have := of_decide_eq_true g
      exact ok_bi (flip_d h11.2 2 hl (by decide) (by decide) (by decide)) fun y16 h16 => ok_some ⟨h16.up (Int.le_refl _) (by decide), fun _ => by omega⟩
    · refine ok_bi (other_d h13.1 hl (by decide) h3.1.2.1 h3.1.2.2 h11.1.1 (by omega) h13.2) fun q19 h19 => ?_
      exact ⟨true, own_part h3.1.1 _ _ (merge_part h3.1.2.1 h3.1.2.2 h19), rfl⟩
  obtain ⟨r, h, rfl⟩ := key
  exact h
end Go.Gk
