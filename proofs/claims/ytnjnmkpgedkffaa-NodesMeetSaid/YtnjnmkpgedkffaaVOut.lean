/-
  The plain law of TranslatorsWork: what the program's Out gives.
-/
import Derived.Test.YtnjnmkpgedkffaaTPort
set_option linter.unusedVariables false
set_option linter.unusedSimpArgs false
set_option linter.unusedSectionVars false
set_option maxRecDepth 100000
namespace Go.Gk
def erZ (v_at now : Int) (a b : T_api_Spot) : Int := if tfZ v_at now ≠ 0 then tfZ v_at now else if sfZ a ≠ 0 then sfZ a else sfZ b
theorem spots_ok {T : Type} (k : Nat) (a b : T_api_Spot) (v : Int → T) (hk : 3 ≤ k) :
    loopM (σ := Int) (ρ := Unit ⊕ T) (fun s6 => bif decide ((s6 : Int) < 2) then (bi (getZ ([a, b] : List T_api_Spot) s6) fun x16 => bi (m_route_spotFault x16) fun y18 => bif (y18 : Int) != 0 then (bi (some (v y18)) fun v => some (.out (.inr v))) else (some (.go (wi (s6 + 1))))) else (some (.out (.inl ())))) k 0 =
      some (if sfZ a ≠ 0 then .inr (v (sfZ a)) else if sfZ b ≠ 0 then .inr (v (sfZ b)) else .inl ()) := by
  obtain ⟨k, rfl⟩ : ∃ k', k = k' + 3 := ⟨k - 3, by omega⟩
  have w0 : wi ((0 : Int) + 1) = 1 := rfl
  have w1 : wi ((1 : Int) + 1) = 2 := rfl
  have g0 : getZ [a, b] (0 : Int) = some a := rfl
  have g1 : getZ [a, b] (1 : Int) = some b := rfl
  have d0 : decide ((0 : Int) < 2) = true := rfl
  have d1 : decide ((1 : Int) < 2) = true := rfl
  have d2 : decide ((2 : Int) < 2) = false := rfl
  unfold loopM
  simp only [d0, cond_true, g0, bi_some, sfP]
  by_cases h : sfZ a = 0
  · simp only [h, bne_self_eq_false, cond_false, w0, ne_eq, not_true_eq_false, if_false]
    unfold loopM
    simp only [d1, cond_true, g1, bi_some, sfP]
    by_cases h2 : sfZ b = 0
    · simp only [h2, bne_self_eq_false, cond_false, w1, ne_eq, not_true_eq_false, if_false]
      unfold loopM
      simp only [d2, cond_false]
    · simp only [bne_iff_ne.2 h2, cond_true, ne_eq, h2, not_false_eq_true, if_true]
  · simp only [bne_iff_ne.2 h, cond_true, ne_eq, h, not_false_eq_true, if_true]
theorem erZ0 {v_at now : Int} {a b : T_api_Spot} (h : erZ v_at now a b = 0) : tfZ v_at now = 0 ∧ sfZ a = 0 ∧ sfZ b = 0 := by
  unfold erZ at h
  by_cases h1 : tfZ v_at now = 0
  · by_cases h2 : sfZ a = 0
    · simp only [h1, h2, ne_eq, not_true_eq_false, if_false] at h; exact ⟨h1, h2, h⟩
    · simp only [h1, h2, ne_eq, not_true_eq_false, if_false, not_false_eq_true, if_true] at h
  · simp only [h1, ne_eq, not_false_eq_true, if_true] at h
theorem pOut_err (k : Nat) (t : T_route_Translator) (v_at : Int) (a b : T_api_Spot) (al : List Bool) (hk : 3 ≤ k) (h : erZ v_at t.now a b ≠ 0) :
    m_route_Translator_Out k t v_at a b al = some (zSpot, erZ v_at t.now a b, t, al) := by
  unfold m_route_Translator_Out
  have hs := spots_ok k a b (fun y => ((zSpot, y, t, al) : T_api_Spot × Int × T_route_Translator × List Bool)) hk
  rw [tfP, hs]
  simp only [bi_some]
  unfold erZ at h ⊢
  by_cases h1 : tfZ v_at t.now = 0
  · simp only [h1, ne_eq, not_true_eq_false, if_false] at h ⊢
    by_cases h2 : sfZ a = 0
    · simp only [h2, ne_eq, not_true_eq_false, if_false] at h ⊢
      simp only [h, not_false_eq_true, if_true, bne_self_eq_false, cond_false, orI_inr]
    · simp only [h2, not_false_eq_true, if_true, bne_self_eq_false, cond_false, orI_inr]
  · simp only [h1, bne_iff_ne.2 h1, cond_true, ne_eq, not_false_eq_true, if_true]
theorem any_filter' {α : Type} (p q : α → Bool) (l : List α) : l.any (fun x => q x && p x) = (l.filter p).any q := by
  rw [List.any_filter]; congr 1; funext x; exact Bool.and_comm _ _
theorem fresh_twice (n : T_api_Nat) (v_at : Int) (a b : T_api_Spot) : ∀ (l : List T_route_entry), ixZ (fun e => kyE n a b e && frE n v_at e) (l.filter (frE n v_at)) = ixZ (kyE n a b) (l.filter (frE n v_at)) := by
  intro l
  unfold ixZ
  have : ∀ (m : List T_route_entry), (∀ e ∈ m, frE n v_at e = true) → m.findIdx? (fun e => kyE n a b e && frE n v_at e) = m.findIdx? (kyE n a b) := by
    intro m
    induction m with
    | nil => intro _; rfl
    | cons x m ih =>
      intro h
      rw [List.findIdx?_cons, List.findIdx?_cons, h x List.mem_cons_self, Bool.and_true, ih fun e he => h e (List.mem_cons_of_mem _ he)]
  rw [this _ fun e he => (List.mem_filter.1 he).2]
/-- What an entry becomes. -/
def updE (v_at : Int) (to : T_api_Spot) (tg : Nat) (e : T_route_entry) : T_route_entry := ⟨e.inner, e.port, e.dep, v_at, if to ∈ e.sent.2 then e.sent else (tg, e.sent.2 ++ [to])⟩
section
variable (k : Nat) (t : T_route_Translator) (v_at : Int) (a b : T_api_Spot) (al : List Bool)
theorem pOut_full (hk : 3 ≤ k) (h : erZ v_at t.now a b = 0) (hl : t.list.length < 100) (he : ∀ e ∈ t.list, okE e)
    (h1 : (t.list.filter (frE t.nat v_at)).any (kyE t.nat a b) = false) (h2 : ((t.list.filter (frE t.nat v_at)).length : Int) ≥ t.nat.Ports) :
    m_route_Translator_Out k t v_at a b al = some (zSpot, 12, t, al) := by
  obtain ⟨e1, e2, e3⟩ := erZ0 h
  obtain ⟨b1, b2, b3⟩ := tf0 e1
  unfold m_route_Translator_Out
  have hs := spots_ok k a b (fun y => ((zSpot, y, t, al) : T_api_Spot × Int × T_route_Translator × List Bool)) hk
  simp only [e2, e3, ne_eq, not_true_eq_false, if_false] at hs
  rw [tfP, hs, lasting_ok t v_at b1 b2 (by omega) he, find_ok t v_at a b b1 b2 (by omega) he]
  simp only [bi_some, orI_inl, e1, bne_self_eq_false, cond_false, ixZ_lt]
  rw [any_filter', h1, decide_eq_true h2]
  rfl
theorem Lv.perm {al : List Bool} {ts ts' : List Nat} (h : Lv al ts) (hp : ts.Perm ts') : Lv al ts' :=
  ⟨fun t ht => h.1 t (hp.mem_iff.2 ht), (hp.pairwise_iff (fun {a b} (h : a = b → a = 1) (e : b = a) => e.trans (h e.symm))).1 h.2⟩
theorem pOut_old (hk : 100 ≤ k) (h : erZ v_at t.now a b = 0) (hl : t.list.length < 100) (he : ∀ e ∈ t.list, okE e) (hse : ∀ e ∈ t.list, e.sent.2.length < 100)
    (ts : List Nat) (hlv : Lv al (t.list.map (·.sent.1) ++ ts))
    (h1 : (t.list.filter (frE t.nat v_at)).any (kyE t.nat a b) = true) :
    ∃ (i : Nat) (e : T_route_entry) (al' : List Bool), (t.list.filter (frE t.nat v_at)).findIdx? (kyE t.nat a b) = some i ∧ (t.list.filter (frE t.nat v_at))[i]? = some e ∧ kyE t.nat a b e = true ∧
    m_route_Translator_Out k t v_at a b al = some (⟨t.nat.Outer, e.port⟩, 0, ⟨t.nat, v_at, t.v_next, (t.list.filter (frE t.nat v_at)).set i (updE v_at b (al.length + 2) e)⟩, al') ∧
      Lv al' (((t.list.filter (frE t.nat v_at)).set i (updE v_at b (al.length + 2) e)).map (·.sent.1) ++ ts) := by
  obtain ⟨e1, e2, e3⟩ := erZ0 h
  obtain ⟨b1, b2, b3⟩ := tf0 e1
  obtain ⟨i, e, h2, h3, h4, h5, _⟩ := ixZ_some h1
  have hil : i < (t.list.filter (frE t.nat v_at)).length := (List.getElem?_eq_some_iff.1 h4).1
  have hsub : ((t.list.filter (frE t.nat v_at)).map (·.sent.1) ++ ts).Sublist (t.list.map (·.sent.1) ++ ts) := (List.filter_sublist.map _).append (.refl _)
  have hmem : e ∈ t.list := (List.mem_filter.1 (List.mem_of_getElem? h4)).1
  have hlv1 := hlv.sub hsub
  have hset : ∀ e' : T_route_entry, ((t.list.filter (frE t.nat v_at)).set i e')[i]? = some e' := fun e' => by rw [List.getElem?_set_self hil]
  have heta : (⟨t.nat.Maps, t.nat.Lets, t.nat.Timeout, t.nat.First, t.nat.Ports, ⟨t.nat.Outer.Six, t.nat.Outer.Hi, t.nat.Outer.Lo⟩⟩ : T_api_Nat) = t.nat := rfl
  have hs := spots_ok k a b (fun y => ((zSpot, y, t, al) : T_api_Spot × Int × T_route_Translator × List Bool)) (by omega)
  simp only [e2, e3, ne_eq, not_true_eq_false, if_false] at hs
  have main : ∀ r : Option (T_api_Spot × Int × T_route_Translator × List Bool),
      (bi (bif !decide (b ∈ e.sent.2) then (bi (appT al e.sent [b]) fun y54 => some (y54.2, ((t.list.filter (frE t.nat v_at)).set i (⟨e.inner, e.port, e.dep, v_at, e.sent⟩ : T_route_entry)).set i (⟨e.inner, e.port, e.dep, v_at, y54.1⟩ : T_route_entry))) else (some (al, (t.list.filter (frE t.nat v_at)).set i (⟨e.inner, e.port, e.dep, v_at, e.sent⟩ : T_route_entry)))) fun q51 => bi (getZ q51.2 ((i : Nat) : Int)) fun x57 => some ((⟨t.nat.Outer, x57.port⟩ : T_api_Spot), 0, (⟨t.nat, v_at, t.v_next, q51.2⟩ : T_route_Translator), q51.1)) = r → m_route_Translator_Out k t v_at a b al = r := by
    rintro r rfl
    unfold m_route_Translator_Out
    rw [tfP, hs, lasting_ok t v_at b1 b2 (by omega) he, find_ok t v_at a b b1 b2 (by omega) he]
    simp only [bi_some, orI_inl, e1, bne_self_eq_false, cond_false, ixZ_lt]
    rw [any_filter', h1]
    simp only [Bool.not_true, Bool.false_and, cond_false]
    rw [pass_ok k t v_at b1 b2 (by omega) (by omega) he]
    simp only [bi_some]
    rw [find_ok ⟨t.nat, v_at, t.v_next, t.list.filter (frE t.nat v_at)⟩ v_at a b b1 b2 (Nat.le_trans (List.length_filter_le _ _) (by omega)) fun e he' => he e (List.mem_filter.1 he').1]
    simp only [bi_some]
    rw [fresh_twice, h2, decide_eq_false (show ¬ ((i : Int) < 0) by omega)]
    simp only [cond_false, bi_some, getZ_cast, h4, contains_ok, Int.toNat_natCast]
  by_cases hc : b ∈ e.sent.2
  · have hu : updE v_at b (al.length + 2) e = ⟨e.inner, e.port, e.dep, v_at, e.sent⟩ := by unfold updE; rw [if_pos hc]
    refine ⟨i, e, al, h3, h4, h5, main _ ?_, ?_⟩
    · simp only [decide_eq_true hc, Bool.not_true, cond_false, bi_some, getZ_cast, hset, hu]
    · rw [hu]
      have : ((t.list.filter (frE t.nat v_at)).set i (⟨e.inner, e.port, e.dep, v_at, e.sent⟩ : T_route_entry)).map (fun x => x.sent.1) = (t.list.filter (frE t.nat v_at)).map (fun x => x.sent.1) := by
        rw [List.map_set]
        refine List.ext_getElem? fun j => ?_
        rw [List.getElem?_set]
        split
        · next hij => subst hij; rw [List.length_map, if_pos hil, List.getElem?_map, h4]; rfl
        · rfl
      rw [this]; exact hlv1
  · have hu : updE v_at b (al.length + 2) e = ⟨e.inner, e.port, e.dep, v_at, (al.length + 2, e.sent.2 ++ [b])⟩ := by unfold updE; rw [if_neg hc]
    obtain ⟨al', h6, h7, _, _⟩ := hlv1.app (i := i) (s := e.sent) b (by rw [List.getElem?_append_left (by simpa using hil), List.getElem?_map, h4]; rfl) (by have := hse e hmem; omega)
    refine ⟨i, e, al', h3, h4, h5, main _ ?_, ?_⟩
    · simp only [decide_eq_false hc, Bool.not_false, cond_true, bi_some, h6, List.set_set, getZ_cast, hset, hu]
    · rw [hu, List.map_set]
      rw [List.set_append_left _ _ (by simpa using hil)] at h7
      exact h7
theorem pOut_new (hk : 100 ≤ k) (hn : NOk t.nat) (h : erZ v_at t.now a b = 0) (hl : t.list.length < 100) (he : ∀ e ∈ t.list, okE e)
    (ts : List Nat) (hlv : Lv al (t.list.map (·.sent.1) ++ ts))
    (h1 : (t.list.filter (frE t.nat v_at)).any (kyE t.nat a b) = false) (h2 : ¬ ((t.list.filter (frE t.nat v_at)).length : Int) ≥ t.nat.Ports)
    (q : Int) (hq : t.v_next = cyc t.nat q 0) (i0 : Nat) (hi : i0 < 6)
    (hf1 : ((t.list.filter (frE t.nat v_at)).any fun e => e.port == cyc t.nat q i0) = false) (hf2 : ∀ j, j < i0 → ((t.list.filter (frE t.nat v_at)).any fun e => e.port == cyc t.nat q j) = true) :
    ∃ (al' : List Bool), m_route_Translator_Out k t v_at a b al = some (⟨t.nat.Outer, cyc t.nat q i0⟩, 0, ⟨t.nat, v_at, cyc t.nat q (i0 + 1), t.list.filter (frE t.nat v_at) ++ [⟨a, cyc t.nat q i0, seenS b t.nat.Maps, v_at, (al.length + 2, [b])⟩]⟩, al') ∧
      Lv al' ((t.list.filter (frE t.nat v_at) ++ [(⟨a, cyc t.nat q i0, seenS b t.nat.Maps, v_at, (al.length + 2, [b])⟩ : T_route_entry)]).map (·.sent.1) ++ ts) := by
  obtain ⟨e1, e2, e3⟩ := erZ0 h
  obtain ⟨b1, b2, b3⟩ := tf0 e1
  have hsub : ((t.list.filter (frE t.nat v_at)).map (·.sent.1) ++ ts).Sublist (t.list.map (·.sent.1) ++ ts) := (List.filter_sublist.map _).append (.refl _)
  have hlv1 : Lv al ((t.list.filter (frE t.nat v_at)).map (·.sent.1) ++ [1] ++ ts) := (hlv.sub hsub).one.perm (by rw [List.append_assoc, List.append_assoc]; exact List.Perm.append_left _ List.perm_append_comm)
  have hll : (t.list.filter (frE t.nat v_at)).length < 100 := Nat.lt_of_le_of_lt (List.length_filter_le _ _) hl
  obtain ⟨al', h6, h7, _, _⟩ := hlv1.app (i := (t.list.filter (frE t.nat v_at)).length) (s := ((1, []) : Tl T_api_Spot)) b (by rw [List.append_assoc, List.getElem?_append_right (by simp)]; simp) (by simp)
  rw [List.nil_append] at h6
  refine ⟨al', ?_, ?_⟩
  · have hs := spots_ok k a b (fun y => ((zSpot, y, t, al) : T_api_Spot × Int × T_route_Translator × List Bool)) (by omega)
    simp only [e2, e3, ne_eq, not_true_eq_false, if_false] at hs
    have h2000 : decide (((t.list.filter (frE t.nat v_at)).length : Int) ≥ 2000) = false := decide_eq_false (by omega)
    unfold m_route_Translator_Out
    rw [tfP, hs, lasting_ok t v_at b1 b2 (by omega) he, find_ok t v_at a b b1 b2 (by omega) he]
    simp only [bi_some, orI_inl, e1, bne_self_eq_false, cond_false, ixZ_lt]
    rw [any_filter', h1, decide_eq_false h2, h2000]
    simp only [Bool.not_false, Bool.true_and, Bool.or_self, cond_false]
    rw [pass_ok k t v_at b1 b2 (by omega) (by omega) he]
    simp only [bi_some]
    rw [find_ok ⟨t.nat, v_at, t.v_next, t.list.filter (frE t.nat v_at)⟩ v_at a b b1 b2 (by simp only; omega) fun e he' => he e (List.mem_filter.1 he').1]
    simp only [bi_some]
    rw [fresh_twice, ixZ_none h1, show decide ((-1 : Int) < 0) = true from rfl]
    simp only [cond_true]
    rw [freeP_ok k ⟨t.nat, v_at, t.v_next, t.list.filter (frE t.nat v_at)⟩ hn q hq (by simp only; omega) i0 hi (by omega) hf1 hf2]
    simp only [bi_some, seen_ok]
    rw [apd_some (by simp only [List.length_cons, List.length_nil]; omega)]
    have g : ∀ e : T_route_entry, (t.list.filter (frE t.nat v_at) ++ [e])[(t.list.filter (frE t.nat v_at)).length]? = some e := fun e => by simp
    have g2 : ∀ e e' : T_route_entry, (t.list.filter (frE t.nat v_at) ++ [e]).set (t.list.filter (frE t.nat v_at)).length e' = t.list.filter (frE t.nat v_at) ++ [e'] := fun e e' => by rw [List.set_append_right _ _ (Nat.le_refl _)]; simp
    have gm : decide (b ∈ ([] : List T_api_Spot)) = false := by simp
    simp only [bi_some, getZ_cast, g, contains_ok, gm, Bool.not_false, cond_true, h6, Int.toNat_natCast, g2]
  · rw [List.set_append_left _ _ (by simp), List.set_append_right _ _ (by simp)] at h7
    rw [List.map_append]
    simpa using h7
end
end Go.Gk
