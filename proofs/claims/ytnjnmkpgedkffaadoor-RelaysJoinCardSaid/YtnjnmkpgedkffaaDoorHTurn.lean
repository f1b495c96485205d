/-
  The plain law: what is chosen of what answered; times that are added, two ways.
-/
import Derived.Test.YtnjnmkpgedkffaaDoorHList
set_option linter.unusedVariables false
set_option linter.unusedSimpArgs false
set_option linter.unusedSectionVars false
set_option maxRecDepth 100000
namespace Go.Gk
theorem foldl_sm {α V : Type} (f : α → Str) (g : α → V) : ∀ (l : List α) (m : List (Str × V)), SM m → SM (l.foldl (fun m x => mSet m (f x) (g x)) m)
  | [], m, h => h
  | x :: l, m, h => foldl_sm f g l _ (h.set _ _)
theorem foldl_keys {α V : Type} (f : α → Str) (g : α → V) (p : Str × V → Prop) : ∀ (l : List α) (m : List (Str × V)), (∀ x ∈ l, p (f x, g x)) → (∀ e ∈ m, p e) → ∀ e ∈ l.foldl (fun m x => mSet m (f x) (g x)) m, p e
  | [], m, _, h => h
  | x :: l, m, hl, h => foldl_keys f g p l _ (fun y hy => hl y (List.mem_cons_of_mem _ hy)) (fun e he => by
      change e ∈ mSet m (f x) (g x) at he
      unfold mSet at he
      split at he
      · rcases List.mem_or_eq_of_mem_set he with h1 | rfl
        · exact h e h1
        · exact hl x (List.mem_cons_self ..)
      · have := (mIns_perm (f x) (g x) m).mem_iff.1 he
        simp only [List.mem_append, List.mem_singleton] at this
        rcases this with h1 | rfl
        · exact h e h1
        · exact hl x (List.mem_cons_self ..))
/-- A choice: the best one, by number, then by name. -/
theorem best_ok (G : List (Str × Int)) (hs : SM G) (hk : ∀ e ∈ G, e.1 ≠ []) :
    ∃ b, rangeP (σ := Str) (fun x8 s7 => bif ((((s7 : Str) == []) || (decide ((x8.2 : Int) < ((mGet G s7).getD 0)))) || (((x8.2 : Int) == ((mGet G s7).getD 0)) && (Op.bytesLess x8.1 s7))) then (some x8.1) else (some s7)) G [] = some b ∧ (b = [] ∨ ∃ n, (b, n) ∈ G) ∧ (b = [] → G = []) := by
  -- the least one
  let lt : Str × Int → Str × Int → Prop := fun a b => a.2 < b.2 ∨ (a.2 = b.2 ∧ Op.bytesLess a.1 b.1 = true)
  have hmin : ∀ L : List (Str × Int), (L.Pairwise fun a b => a.1 ≠ b.1) → L ≠ [] → ∃ e ∈ L, ∀ x ∈ L, x = e ∨ lt e x := by
    intro L
    induction L with
    | nil => intro _ h; exact absurd rfl h
    | cons a L ih =>
      intro hd _
      obtain ⟨d1, d2⟩ := List.pairwise_cons.1 hd
      by_cases hL : L = []
      · subst hL; exact ⟨a, List.mem_cons_self .., fun x hx => .inl (by simpa using hx)⟩
      · obtain ⟨e, he, hm⟩ := ih d2 hL
        by_cases hae : lt a e
        · refine ⟨a, List.mem_cons_self .., fun x hx => ?_⟩
          rcases List.mem_cons.1 hx with rfl | hx
          · exact .inl rfl
          · rcases hm x hx with rfl | h
            · exact .inr hae
            · refine .inr ?_
              rcases hae with h1 | ⟨h1, h2⟩ <;> rcases h with h3 | ⟨h3, h4⟩
              · exact .inl (by omega)
              · exact .inl (by omega)
              · exact .inl (by omega)
              · exact .inr ⟨by omega, bl_tr _ _ _ h2 h4⟩
        · refine ⟨e, List.mem_cons_of_mem _ he, fun x hx => ?_⟩
          rcases List.mem_cons.1 hx with rfl | hx
          · refine .inr ?_
            have hne := d1 e he
            by_cases h1 : x.2 < e.2
            · exact absurd (.inl h1) hae
            · by_cases h2 : e.2 < x.2
              · exact .inl h2
              · refine .inr ⟨by omega, ?_⟩
                cases h3 : Op.bytesLess e.1 x.1 with
                | true => rfl
                | false =>
                  cases h4 : Op.bytesLess x.1 e.1 with
                  | true => exact absurd (.inr ⟨by omega, h4⟩) hae
                  | false => exact absurd (bl_tri _ _ h4 h3) hne
          · exact hm x hx
  have hirr : ∀ a, ¬ lt a a := fun a h => by
    rcases h with h | ⟨_, h⟩
    · omega
    · rw [bl_irr] at h; cases h
  by_cases hG : G = []
  · subst hG; exact ⟨[], rangeP_zero, .inl rfl, fun _ => rfl⟩
  · obtain ⟨e, he, hm⟩ := hmin G (hs.of_perm_keys (.refl _)) hG
    refine ⟨e.1, ?_, .inr ⟨e.2, he⟩, fun h => absurd h (hk e he)⟩
    refine rangeP_by (fun seen s => (seen = [] ∧ s = []) ∨ ∃ a ∈ seen, s = a.1 ∧ ∀ x ∈ seen, x = a ∨ lt a x) (.inl ⟨rfl, rfl⟩) ?_ ?_
    · rintro seen x s ⟨rest, hr⟩ hi
      have hsub : ∀ y ∈ seen, y ∈ G := fun y hy => hr.mem_iff.1 (List.mem_append_left _ hy)
      have hxG : x ∈ G := hr.mem_iff.1 (List.mem_append_right _ (List.mem_cons_self ..))
      rcases hi with ⟨rfl, rfl⟩ | ⟨a, ha, rfl, hma⟩
      · exact ⟨x.1, rfl, .inr ⟨x, by simp, rfl, fun y hy => .inl (by simpa using hy)⟩⟩
      · have ha0 : ((a.1 : Str) == []) = false := by simpa using hk a (hsub a ha)
        have hga : (mGet G a.1).getD 0 = a.2 := by rw [hs.get (show (a.1, a.2) ∈ G from hsub a ha)]; rfl
        have hne : x.1 ≠ a.1 := by
          have := (hs.of_perm_keys hr)
          rw [List.pairwise_append] at this
          exact (this.2.2 a ha x (List.mem_cons_self ..)).symm
        simp only [ha0, hga, Bool.false_or]
        by_cases hlt : lt x a
        · have : ((decide (x.2 < a.2)) || ((x.2 : Int) == a.2 && Op.bytesLess x.1 a.1)) = true := by
            rcases hlt with h | ⟨h1, h2⟩
            · simp [h]
            · simp [h1, h2]
          rw [this]
          refine ⟨x.1, rfl, .inr ⟨x, by simp, rfl, fun y hy => ?_⟩⟩
          rcases List.mem_append.1 hy with hy | hy
          · rcases hma y hy with rfl | h
            · exact .inr hlt
            · refine .inr ?_
              rcases hlt with h1 | ⟨h1, h2⟩ <;> rcases h with h3 | ⟨h3, h4⟩
              · exact .inl (by omega)
              · exact .inl (by omega)
              · exact .inl (by omega)
              · exact .inr ⟨by omega, bl_tr _ _ _ h2 h4⟩
          · exact .inl (by simpa using hy)
        · have : ((decide (x.2 < a.2)) || ((x.2 : Int) == a.2 && Op.bytesLess x.1 a.1)) = false := by
            cases hb : ((decide (x.2 < a.2)) || ((x.2 : Int) == a.2 && Op.bytesLess x.1 a.1)) with
            | false => rfl
            | true =>
              refine absurd ?_ hlt
              simp only [Bool.or_eq_true, decide_eq_true_eq, Bool.and_eq_true, beq_iff_eq] at hb
              rcases hb with h | ⟨h1, h2⟩
              · exact .inl h
              · exact .inr ⟨h1, h2⟩
          rw [this]
          refine ⟨a.1, rfl, .inr ⟨a, List.mem_append_left _ ha, rfl, fun y hy => ?_⟩⟩
          rcases List.mem_append.1 hy with hy | hy
          · exact hma y hy
          · have : y = x := by simpa using hy
            subst this
            refine .inr ?_
            by_cases h1 : y.2 < a.2
            · exact absurd (.inl h1) hlt
            · by_cases h2 : a.2 < y.2
              · exact .inl h2
              · refine .inr ⟨by omega, ?_⟩
                cases h3 : Op.bytesLess a.1 y.1 with
                | true => rfl
                | false =>
                  cases h4 : Op.bytesLess y.1 a.1 with
                  | true => exact absurd (.inr ⟨by omega, h4⟩) hlt
                  | false => exact absurd (bl_tri _ _ h4 h3) hne
    · rintro seen s hp hi
      rcases hi with ⟨rfl, rfl⟩ | ⟨a, ha, rfl, hma⟩
      · have := hp.length_eq
        exact absurd (List.eq_nil_of_length_eq_zero this.symm) hG
      · have h1 := hma e (hp.mem_iff.2 he)
        rcases h1 with h1 | h1
        · rw [h1]
        · rcases hm a (hp.mem_iff.1 ha) with h2 | h2
          · rw [h2]
          · refine absurd ?_ (hirr a)
            rcases h1 with h1 | ⟨h1, h3⟩ <;> rcases h2 with h4 | ⟨h4, h5⟩
            · exact .inl (by omega)
            · exact .inl (by omega)
            · exact .inl (by omega)
            · exact .inr ⟨rfl, bl_tr _ _ _ h3 h5⟩
theorem choose_ok (G : List (Str × Int)) (hs : SM G) (hk : ∀ e ∈ G, e.1 ≠ []) (now : Str) (gain : Int) : ∃ b c, rangeP (σ := Str) (fun x8 s7 => bif ((((s7 : Str) == []) || (decide ((x8.2 : Int) < ((mGet G s7).getD 0)))) || (((x8.2 : Int) == ((mGet G s7).getD 0)) && (Op.bytesLess x8.1 s7))) then (some x8.1) else (some s7)) G [] = some b ∧
    m_route_choose G now gain = some c ∧ (bif !(((mGet G now).isSome) && (decide ((wi (((mGet G now).getD 0) - ((mGet G b).getD 0)) : Int) < gain))) then (some b) else (some now)) = some c := by
  obtain ⟨b, h1, _⟩ := best_ok G hs hk
  have h2 : m_route_choose G now gain = bif (((mGet G now).isSome) && (decide ((wi (((mGet G now).getD 0) - ((mGet G b).getD 0)) : Int) < gain))) then some now else some b := by
    unfold m_route_choose
    rw [h1]
    rfl
  refine ⟨b, bif (((mGet G now).isSome) && (decide ((wi (((mGet G now).getD 0) - ((mGet G b).getD 0)) : Int) < gain))) then now else b, h1, ?_, ?_⟩
  · rw [h2]
    generalize (((mGet G now).isSome) && (decide ((wi (((mGet G now).getD 0) - ((mGet G b).getD 0)) : Int) < gain))) = q
    cases q <;> rfl
  · generalize (((mGet G now).isSome) && (decide ((wi (((mGet G now).getD 0) - ((mGet G b).getD 0)) : Int) < gain))) = q
    cases q <;> rfl
abbrev End : Int := 345686400
theorem set_snoc {α : Type} (a : List α) (x y : α) : (a ++ [x]).set a.length y = a ++ [y] := by
  rw [List.set_append_right _ _ (Nat.le_refl _)]
  simp
theorem get_snoc {α : Type} (a : List α) (x : α) : (a ++ [x])[a.length]? = some x := by simp
/-- What is told so far: whoever is used is open in one, and ends now in the other. -/
structure RelT (t : Int) (i : Nat) (now : Str) (P R : List T_api_Turn) : Prop where
  len : P.length ≤ i ∧ R.length ≤ i
  off : now = [] → P = R ∧ ∀ x, R.getLast? = some x → x.To < t
  on : now ≠ [] → ∃ init f, P = init ++ [⟨now, f, End⟩] ∧ R = init ++ [⟨now, f, t⟩] ∧ f < t
theorem last_of {α : Type} {l : List α} (h : l ≠ []) : ∃ a x, l = a ++ [x] := ⟨l.dropLast, l.getLast h, (List.dropLast_concat_getLast h).symm⟩
theorem turn_step {t t' : Int} {i : Nat} {now : Str} {P R : List T_api_Turn} (h : RelT t i now P R) (hi : i ≤ 100000) (h1 : t < t') (h2 : t' ≤ End) (c : Str) :
    ∃ P' R', m_route_begins P t c = some P' ∧ m_laneref1_addTurn R c t t' = some R' ∧ RelT t' (i + 1) c P' R' := by
  obtain ⟨⟨hlP, hlR⟩, hoff, hon⟩ := h
  have wl : ∀ (a : List T_api_Turn) (x : T_api_Turn), a.length ≤ 100000 → wi (((a ++ [x]).length : Int) - 1) = (a.length : Int) := fun a x ha => by
    rw [wi_id (by simp <;> omega) (by simp <;> omega)]; simp
  have ht : decide (t ≥ t') = false := decide_eq_false (by omega)
  have hlast : ∀ (a : List T_api_Turn) (x : T_api_Turn), a.length ≤ 100000 → getZ (a ++ [x]) (wi (((a ++ [x]).length : Int) - 1)) = some x := fun a x ha => by
    rw [wl a x ha, getZ_cast, get_snoc]
  have hpos : ∀ (a : List T_api_Turn) (x : T_api_Turn), a.length ≤ 100000 → decide (wi (((a ++ [x]).length : Int) - 1) ≥ 0) = true := fun a x ha => by
    rw [wl a x ha]; exact decide_eq_true (by omega)
  have hpos2 : ∀ (a : List T_api_Turn) (x : T_api_Turn), decide (((a ++ [x]).length : Int) > 0) = true := fun a x => decide_eq_true (by simp <;> omega)
  unfold m_route_begins m_laneref1_addTurn
  rw [ht]
  by_cases hn : now = []
  · obtain ⟨rfl, hl⟩ := hoff hn
    subst hn
    -- the open question of begins is answered with no
    have hb : (bi (bif decide ((wi ((P.length : Int) - 1) : Int) ≥ 0) then (bi (getZ P (wi ((P.length : Int) - 1))) fun x4 => some ((x4.To : Int) == 345686400)) else (some false)) fun q1 => some q1) = some false := by
      by_cases hP : P = []
      · subst hP; rfl
      · obtain ⟨a, x, rfl⟩ := last_of hP
        have ha : a.length ≤ 100000 := by simp at hlP; omega
        rw [hpos a x ha, hlast a x ha]
        simp only [cond_true, bi_some]
        have := hl x (by simp)
        have e : ((x.To : Int) == 345686400) = false := by simp only [beq_eq_false_iff_ne, ne_eq, End] at h2 ⊢; omega
        rw [e]
    have hb2 : (bif decide ((wi ((P.length : Int) - 1) : Int) ≥ 0) then (bi (getZ P (wi ((P.length : Int) - 1))) fun x4 => some ((x4.To : Int) == 345686400)) else (some false)) = some false := by
      obtain ⟨b, e1, e2⟩ := bi_ok hb
      rw [e1]; exact e2
    rw [hb2]
    simp only [bi_some, cond_false]
    by_cases hc : c = []
    · subst hc
      refine ⟨P, P, rfl, rfl, ⟨by omega, by omega⟩, fun _ => ⟨rfl, fun x hx => ?_⟩, fun h => absurd rfl h⟩
      have := hl x hx
      omega
    · have e : ((c : Str) == []) = false := by simpa using hc
      have hap : ∀ z : T_api_Turn, apd P [z] = some (P ++ [z]) := fun z => apd_some (by simp; omega)
      simp only [orI, e, cond_false, Bool.or_false, hap, bi_some]
      have hm : ∃ q, (bif decide ((P.length : Int) > 0) then (bi (getZ P (wi ((P.length : Int) - 1))) fun x6 => some ((x6.Who : Str) == c)) else (some false)) = some q ∧ (q = true → ∃ a x, P = a ++ [x] ∧ a.length ≤ 100000) := by
        by_cases hP : P = []
        · subst hP; exact ⟨false, rfl, fun h => by cases h⟩
        · obtain ⟨a, x, rfl⟩ := last_of hP
          have ha : a.length ≤ 100000 := by simp at hlP; omega
          rw [hpos2, hlast a x ha]
          exact ⟨_, rfl, fun _ => ⟨a, x, rfl, ha⟩⟩
      obtain ⟨q, hq1, hq2⟩ := hm
      rw [hq1]
      simp only [bi_some]
      have hf : (bif q then (bi (getZ P (wi ((P.length : Int) - 1))) fun x13 => some ((x13.To : Int) == t)) else (some false)) = some false := by
        cases q with
        | false => rfl
        | true =>
          obtain ⟨a, x, rfl, ha⟩ := hq2 rfl
          rw [hlast a x ha]
          have := hl x (by simp)
          have e : ((x.To : Int) == t) = false := by simp only [beq_eq_false_iff_ne, ne_eq]; omega
          simp only [cond_true, bi_some, e]
      rw [hf]
      exact ⟨_, _, rfl, rfl, ⟨by simp; omega, by simp; omega⟩, fun h => absurd h hc, fun _ => ⟨P, t, rfl, rfl, h1⟩⟩
  · obtain ⟨a, f, rfl, rfl, hf⟩ := hon hn
    have ha : a.length ≤ 100000 := by simp at hlP; omega
    have hla : a.length + 1 ≤ i := by simpa using hlP
    have eE : (((⟨now, f, End⟩ : T_api_Turn).To : Int) == 345686400) = true := rfl
    rw [hpos a _ ha, hlast a ⟨now, f, End⟩ ha]
    simp only [cond_true, bi_some, eE, hpos2, hlast a ⟨now, f, t⟩ ha, wl a _ ha, Int.toNat_natCast, set_snoc, getZ_cast, get_snoc]
    by_cases hcn : c = now
    · subst hcn
      have e : ((c : Str) == []) = false := by simpa using hn
      simp only [beq_self_eq_true, cond_true, orI, e, Bool.or_false, cond_false, bi_some]
      exact ⟨_, _, rfl, rfl, ⟨by simp; omega, by simp; omega⟩, fun h => absurd h hn, fun _ => ⟨a, f, rfl, rfl, by omega⟩⟩
    · have e1 : ((now : Str) == c) = false := by simpa using Ne.symm hcn
      have e2 : ((f : Int) == t) = false := by simp only [beq_eq_false_iff_ne, ne_eq]; omega
      simp only [e1, e2, cond_false, bi_some, orI]
      by_cases hc : c = []
      · subst hc
        refine ⟨_, _, rfl, rfl, ⟨by simp; omega, by simp; omega⟩, fun _ => ⟨rfl, fun x hx => ?_⟩, fun h => absurd rfl h⟩
        simp at hx
        subst hx
        exact h1
      · have e : ((c : Str) == []) = false := by simpa using hc
        have hap : ∀ z : T_api_Turn, apd (a ++ [⟨now, f, t⟩]) [z] = some (a ++ [⟨now, f, t⟩] ++ [z]) := fun z => apd_some (by simp; omega)
        simp only [e, cond_false, Bool.or_false, hap, bi_some]
        exact ⟨_, _, rfl, rfl, ⟨by simp; omega, by simp; omega⟩, fun h => absurd h hc, fun _ => ⟨a ++ [⟨now, f, t⟩], t, rfl, rfl, h1⟩⟩
end Go.Gk
