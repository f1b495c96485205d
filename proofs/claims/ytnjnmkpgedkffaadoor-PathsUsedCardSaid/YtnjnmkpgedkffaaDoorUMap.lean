/-
  The plain law: what is good at a moment, and what is chosen of it.
-/
import Derived.Test.YtnjnmkpgedkffaaDoorUCompact
set_option linter.unusedVariables false
set_option linter.unusedSimpArgs false
set_option linter.unusedSectionVars false
set_option maxRecDepth 100000
namespace Go.Gk
/-- What is known at a moment. -/
def known (l : List T_api_Sample) (t : Int) : List (Str × T_api_Sample) := (l.filter fun x => decide (x.At ≤ t)).foldl (fun m x => mSet m x.Path x) []
theorem foldl_sm {α V : Type} (f : α → Str) (g : α → V) : ∀ (l : List α) (m : List (Str × V)), SM m → SM (l.foldl (fun m x => mSet m (f x) (g x)) m)
  | [], m, h => h
  | x :: l, m, h => foldl_sm f g l _ (h.set _ _)
theorem known_sm (l : List T_api_Sample) (t : Int) : SM (known l t) := foldl_sm (fun x : T_api_Sample => x.Path) (fun x => x) _ _ SM.nil
theorem foldl_keys {α V : Type} (f : α → Str) (g : α → V) (p : Str × V → Prop) : ∀ (l : List α) (m : List (Str × V)), (∀ x ∈ l, p (f x, g x)) → (∀ e ∈ m, p e) → ∀ e ∈ l.foldl (fun m x => mSet m (f x) (g x)) m, p e
  | [], m, _, h => h
  | x :: l, m, hl, h => foldl_keys f g p l _ (fun y hy => hl y (List.mem_cons_of_mem _ hy)) (fun e he => by
      change e ∈ mSet m (f x) (g x) at he
      unfold mSet at he
      split at he
      · rcases List.mem_or_eq_of_mem_set he with h1 | rfl
        · exact h e h1
        · exact hl x (List.mem_cons_self ..)
      · have := (mIns_perm (f x) (g x) m).mem_iff.1 he
        simp only [List.mem_append, List.mem_singleton] at this
        rcases this with h1 | rfl
        · exact h e h1
        · exact hl x (List.mem_cons_self ..))
/-- A choice: the best one, by number, then by name. -/
theorem best_ok (G : List (Str × Int)) (hs : SM G) (hk : ∀ e ∈ G, e.1 ≠ []) :
    ∃ b, rangeP (σ := Str) (fun x8 s7 => bif ((((s7 : Str) == []) || (decide ((x8.2 : Int) < ((mGet G s7).getD 0)))) || (((x8.2 : Int) == ((mGet G s7).getD 0)) && (Op.bytesLess x8.1 s7))) then (some x8.1) else (some s7)) G [] = some b ∧ (b = [] ∨ ∃ n, (b, n) ∈ G) ∧ (b = [] → G = []) := by
  -- the least one
  let lt : Str × Int → Str × Int → Prop := fun a b => a.2 < b.2 ∨ (a.2 = b.2 ∧ Op.bytesLess a.1 b.1 = true)
  have hmin : ∀ L : List (Str × Int), (L.Pairwise fun a b => a.1 ≠ b.1) → L ≠ [] → ∃ e ∈ L, ∀ x ∈ L, x = e ∨ lt e x := by
    intro L
    induction L with
    | nil => intro _ h; exact absurd rfl h
    | cons a L ih =>
      intro hd _
      obtain ⟨d1, d2⟩ := List.pairwise_cons.1 hd
      by_cases hL : L = []
      · subst hL; exact ⟨a, List.mem_cons_self .., fun x hx => .inl (by simpa using hx)⟩
      · obtain ⟨e, he, hm⟩ := ih d2 hL
        by_cases hae : lt a e
        · refine ⟨a, List.mem_cons_self .., fun x hx => ?_⟩
          rcases List.mem_cons.1 hx with rfl | hx
          · exact .inl rfl
          · rcases hm x hx with rfl | h
            · exact .inr hae
            · refine .inr ?_
              rcases hae with h1 | ⟨h1, h2⟩ <;> rcases h with h3 | ⟨h3, h4⟩
              · exact .inl (by omega)
              · exact .inl (by omega)
              · exact .inl (by omega)
              · exact .inr ⟨by omega, bl_tr _ _ _ h2 h4⟩
        · refine ⟨e, List.mem_cons_of_mem _ he, fun x hx => ?_⟩
          rcases List.mem_cons.1 hx with rfl | hx
          · refine .inr ?_
            have hne := d1 e he
            by_cases h1 : x.2 < e.2
            · exact absurd (.inl h1) hae
            · by_cases h2 : e.2 < x.2
              · exact .inl h2
              · refine .inr ⟨by omega, ?_⟩
                cases h3 : Op.bytesLess e.1 x.1 with
                | true => rfl
                | false =>
                  cases h4 : Op.bytesLess x.1 e.1 with
                  | true => exact absurd (.inr ⟨by omega, h4⟩) hae
                  | false => exact absurd (bl_tri _ _ h4 h3) hne
          · exact hm x hx
  have hirr : ∀ a, ¬ lt a a := fun a h => by
    rcases h with h | ⟨_, h⟩
    · omega
    · rw [bl_irr] at h; cases h
  by_cases hG : G = []
  · subst hG; exact ⟨[], rangeP_zero, .inl rfl, fun _ => rfl⟩
  · obtain ⟨e, he, hm⟩ := hmin G (hs.of_perm_keys (.refl _)) hG
    refine ⟨e.1, ?_, .inr ⟨e.2, he⟩, fun h => absurd h (hk e he)⟩
    refine rangeP_by (fun seen s => (seen = [] ∧ s = []) ∨ ∃ a ∈ seen, s = a.1 ∧ ∀ x ∈ seen, x = a ∨ lt a x) (.inl ⟨rfl, rfl⟩) ?_ ?_
    · rintro seen x s ⟨rest, hr⟩ hi
      have hsub : ∀ y ∈ seen, y ∈ G := fun y hy => hr.mem_iff.1 (List.mem_append_left _ hy)
      have hxG : x ∈ G := hr.mem_iff.1 (List.mem_append_right _ (List.mem_cons_self ..))
      rcases hi with ⟨rfl, rfl⟩ | ⟨a, ha, rfl, hma⟩
      · exact ⟨x.1, rfl, .inr ⟨x, by simp, rfl, fun y hy => .inl (by simpa using hy)⟩⟩
      · have ha0 : ((a.1 : Str) == []) = false := by simpa using hk a (hsub a ha)
        have hga : (mGet G a.1).getD 0 = a.2 := by rw [hs.get (show (a.1, a.2) ∈ G from hsub a ha)]; rfl
        have hne : x.1 ≠ a.1 := by
          have := (hs.of_perm_keys hr)
          rw [List.pairwise_append] at this
          exact (this.2.2 a ha x (List.mem_cons_self ..)).symm
        simp only [ha0, hga, Bool.false_or]
        by_cases hlt : lt x a
        · have : ((decide (x.2 < a.2)) || ((x.2 : Int) == a.2 && Op.bytesLess x.1 a.1)) = true := by
            rcases hlt with h | ⟨h1, h2⟩
            · simp [h]
            · simp [h1, h2]
          rw [this]
          refine ⟨x.1, rfl, .inr ⟨x, by simp, rfl, fun y hy => ?_⟩⟩
          rcases List.mem_append.1 hy with hy | hy
          · rcases hma y hy with rfl | h
            · exact .inr hlt
            · refine .inr ?_
              rcases hlt with h1 | ⟨h1, h2⟩ <;> rcases h with h3 | ⟨h3, h4⟩
              · exact .inl (by omega)
              · exact .inl (by omega)
              · exact .inl (by omega)
              · exact .inr ⟨by omega, bl_tr _ _ _ h2 h4⟩
          · exact .inl (by simpa using hy)
        · have : ((decide (x.2 < a.2)) || ((x.2 : Int) == a.2 && Op.bytesLess x.1 a.1)) = false := by
            cases hb : ((decide (x.2 < a.2)) || ((x.2 : Int) == a.2 && Op.bytesLess x.1 a.1)) with
            | false => rfl
            | true =>
              refine absurd ?_ hlt
              simp only [Bool.or_eq_true, decide_eq_true_eq, Bool.and_eq_true, beq_iff_eq] at hb
              rcases hb with h | ⟨h1, h2⟩
              · exact .inl h
              · exact .inr ⟨h1, h2⟩
          rw [this]
          refine ⟨a.1, rfl, .inr ⟨a, List.mem_append_left _ ha, rfl, fun y hy => ?_⟩⟩
          rcases List.mem_append.1 hy with hy | hy
          · exact hma y hy
          · have : y = x := by simpa using hy
            subst this
            refine .inr ?_
            by_cases h1 : y.2 < a.2
            · exact absurd (.inl h1) hlt
            · by_cases h2 : a.2 < y.2
              · exact .inl h2
              · refine .inr ⟨by omega, ?_⟩
                cases h3 : Op.bytesLess a.1 y.1 with
                | true => rfl
                | false =>
                  cases h4 : Op.bytesLess y.1 a.1 with
                  | true => exact absurd (.inr ⟨by omega, h4⟩) hlt
                  | false => exact absurd (bl_tri _ _ h4 h3) hne
    · rintro seen s hp hi
      rcases hi with ⟨rfl, rfl⟩ | ⟨a, ha, rfl, hma⟩
      · have := hp.length_eq
        exact absurd (List.eq_nil_of_length_eq_zero this.symm) hG
      · have h1 := hma e (hp.mem_iff.2 he)
        rcases h1 with h1 | h1
        · rw [h1]
        · rcases hm a (hp.mem_iff.1 ha) with h2 | h2
          · rw [h2]
          · refine absurd ?_ (hirr a)
            rcases h1 with h1 | ⟨h1, h3⟩ <;> rcases h2 with h4 | ⟨h4, h5⟩
            · exact .inl (by omega)
            · exact .inl (by omega)
            · exact .inl (by omega)
            · exact .inr ⟨rfl, bl_tr _ _ _ h3 h5⟩
/-- The good ones of what is known. -/
theorem good_ok (m : List (Str × T_api_Sample)) (hs : SM m) (hk : ∀ e ∈ m, e.1 ≠ []) (fresh t : Int) :
    ∃ G, rangeP (σ := List (Str × Int)) (fun x21 s20 => bif ((decide ((x21.2.Millis : Int) ≥ 0)) && (decide ((wi (x21.2.At + fresh) : Int) > t))) then (some (mSet s20 x21.1 x21.2.Millis)) else (some s20)) m ([] : List (Str × Int)) = some G ∧ SM G ∧ ∀ e ∈ G, e.1 ≠ [] := by
  obtain ⟨G, h1, h2, h3⟩ := rangeP_put (V2 := Int) (m := m) (s := []) (f := fun x21 s20 => bif ((decide ((x21.2.Millis : Int) ≥ 0)) && (decide ((wi (x21.2.At + fresh) : Int) > t))) then (some (mSet s20 x21.1 x21.2.Millis)) else (some s20)) hs SM.nil
    (fun k v => bif ((decide ((v.Millis : Int) ≥ 0)) && (decide ((wi (v.At + fresh) : Int) > t))) then some v.Millis else none) (fun x s _ => by cases ((decide ((x.2.Millis : Int) ≥ 0)) && (decide ((wi (x.2.At + fresh) : Int) > t))) <;> rfl)
  refine ⟨G, h1, h2, fun e he => ?_⟩
  have hg := h3 e.1
  rw [h2.get (show (e.1, e.2) ∈ G from he)] at hg
  cases hm : mGet m e.1 with
  | none => rw [hm] at hg; simp [mGet_nil] at hg
  | some v => exact hk _ (mGet_mem hm)
theorem goodAt_ok (l : List T_api_Sample) (fresh t : Int) (hk : ∀ x ∈ l, x.Path ≠ []) :
    ∃ G, m_laneref1_goodAt l fresh t = some G ∧ SM G ∧ (∀ e ∈ G, e.1 ≠ []) ∧
      rangeP (σ := List (Str × Int)) (fun x21 s20 => bif ((decide ((x21.2.Millis : Int) ≥ 0)) && (decide ((wi (x21.2.At + fresh) : Int) > t))) then (some (mSet s20 x21.1 x21.2.Millis)) else (some s20)) (known l t) ([] : List (Str × Int)) = some G := by
  obtain ⟨G, h1, h2, h3⟩ := good_ok (known l t) (known_sm l t) (foldl_keys (fun x : T_api_Sample => x.Path) (fun x => x) (fun e => e.1 ≠ []) _ _ (fun x hx => hk x (List.mem_filter.1 hx).1) (fun e he => by cases he)) fresh t
  refine ⟨G, ?_, h2, h3, h1⟩
  unfold m_laneref1_goodAt
  refine bi_rangeF (I := fun i s => s = known (l.take i) t) (by simp [known]) (fun i x s hx hi => ?_) (fun r hr => ?_)
  · have e : known (l.take (i + 1)) t = bif decide (x.At ≤ t) then mSet s x.Path x else s := by
      subst hi
      unfold known
      rw [List.take_add_one, hx, Option.toList_some, List.filter_append, List.foldl_append]
      cases h : decide (x.At ≤ t) <;> simp [List.filter_cons, h]
    rw [e]
    cases decide (x.At ≤ t) <;> exact ⟨_, rfl, rfl⟩
  · rw [List.take_length] at hr
    rw [hr, h1]
    rfl
end Go.Gk
