/-
  CachesKeep, the plain law: Put.
-/
import Derived.Test.YtfnjahjbpaoepaaGreatDoorOKeep
set_option linter.unusedVariables false
set_option linter.unusedSimpArgs false
set_option linter.unusedSectionVars false
set_option maxRecDepth 100000
namespace Go.Gk
/-- The place of the least number. -/
def leastAt (l : List T_name_kept) (i : Nat) (m : Nat) : Prop := m < l.length ∧ ∀ (j : Nat) (x y : T_name_kept), j < i → l[j]? = some x → l[m]? = some y → y.used ≤ x.used
theorem least_ok (l : List T_name_kept) (hl : 0 < l.length) (hl2 : l.length ≤ 1000) :
    ∃ m : Nat, (bi (gd (decide ((l.length : Int) ≤ 9223372036854775807)) (rangeG (σ := Int) (fun i52 s53 => bi (getZ l (i52 : Int)) fun x64 => bi (getZ l s53) fun x67 => bif decide ((x64.used : Int) < x67.used) then (some (i52 : Int)) else (some s53)) (l.length : Int) 0)) fun q55 => some q55) = some (m : Int) ∧ leastAt l l.length m := by
  rw [decide_eq_true (show (l.length : Int) ≤ 9223372036854775807 by omega), gd_true]
  obtain ⟨r, h1, m, rfl, h2⟩ := rangeG_at (n := (l.length : Int)) (s := (0 : Int)) (f := fun (i52 : Nat) (s53 : Int) => bi (getZ l (i52 : Int)) fun x64 => bi (getZ l s53) fun x67 => bif decide ((x64.used : Int) < x67.used) then (some (i52 : Int)) else (some s53))
    (fun i s => ∃ m : Nat, s = (m : Int) ∧ leastAt l i m) ⟨0, rfl, hl, fun j x y hj => absurd hj (Nat.not_lt_zero _)⟩ (by
      rintro i s hi ⟨m, rfl, hm, hle⟩
      rw [Int.toNat_natCast] at hi
      have e1 : l[i]? = some l[i] := List.getElem?_eq_getElem hi
      have e2 : l[m]? = some l[m] := List.getElem?_eq_getElem hm
      simp only [getZ_cast, e1, e2, bi_some]
      by_cases hlt : l[i].used < l[m].used
      · rw [decide_eq_true hlt, cond_true]
        refine ⟨_, rfl, i, rfl, hi, fun j x y hj hx hy => ?_⟩
        rw [e1] at hy; cases hy
        rcases Nat.lt_succ_iff_lt_or_eq.1 hj with hj | rfl
        · have := hle j x _ hj hx e2
          omega
        · rw [e1] at hx; cases hx; exact Int.le_refl _
      · rw [decide_eq_false hlt, cond_false]
        refine ⟨_, rfl, m, rfl, hm, fun j x y hj hx hy => ?_⟩
        rcases Nat.lt_succ_iff_lt_or_eq.1 hj with hj | rfl
        · exact hle j x y hj hx hy
        · rw [e1] at hx; cases hx
          rw [e2] at hy; cases hy
          omega)
  rw [h1]
  rw [Int.toNat_natCast] at h2
  exact ⟨m, rfl, h2⟩
theorem cut_ok (l : List T_name_kept) (m : Nat) (hm : m < l.length) (hl : l.length ≤ 1000) : m_slices_Delete_name_kept_name_kept l (m : Int) (wi ((m : Int) + 1)) = some (l.eraseIdx m) := by
  have hw : wi ((m : Int) + 1) = ((m + 1 : Nat) : Int) := by rw [wi_id (by omega) (by omega)]; omega
  unfold m_slices_Delete_name_kept_name_kept
  rw [hw, subZ_cast (by omega) (by omega), bi_some, show ((m : Int) == ((m + 1 : Nat) : Int)) = false by rw [beq_eq_false_iff_ne]; omega, cond_false,
    show (0 : Int) = ((0 : Nat) : Int) from rfl, subZ_cast (by omega) (by omega), bi_some, subZ_cast (by omega) (Nat.le_refl _), bi_some, List.take_length, List.drop_zero, List.eraseIdx_eq_take_drop_succ]
/-- Two lists alike, each without its least. -/
theorem least_two {c : Int} {p : List T_name_kept} {r s : List T_laneref1_kept} (h : Keep c p r) {m : Nat} (hm : leastAt p p.length m) (hs : s.Pairwise fun a b => usL b a = false) (hp : s.Perm r) : Keep c (p.eraseIdx m) (s.drop 1) := by
  obtain ⟨hml, hle⟩ := hm
  have he : p[m]? = some p[m] := List.getElem?_eq_getElem hml
  have hpp : p.Perm (p[m] :: p.eraseIdx m) := by
    have hsp : p.take m ++ p[m] :: p.drop (m + 1) = p := by rw [List.getElem_cons_drop, List.take_append_drop]
    rw [List.eraseIdx_eq_take_drop_succ]
    have := (List.perm_middle (a := p[m]) (l₁ := p.take m) (l₂ := p.drop (m + 1)))
    rw [hsp] at this
    exact this
  have hps : (toR p[m] :: (p.eraseIdx m).map toR).Perm s := ((hpp.map toR).symm.trans h.pm).trans hp.symm
  have key : ∃ t, s = toR p[m] :: t := by
    cases s with
    | nil => exact absurd hps.length_eq (by simp)
    | cons a t =>
      have ha : a ∈ toR p[m] :: (p.eraseIdx m).map toR := hps.mem_iff.2 List.mem_cons_self
      have hmem : toR p[m] ∈ a :: t := hps.mem_iff.1 List.mem_cons_self
      refine ⟨t, ?_⟩
      congr 1
      rcases List.mem_cons.1 hmem with e | hmem
      · exact e.symm
      · have h1 := (List.pairwise_cons.1 hs).1 _ hmem
        have ha2 : a ∈ p.map toR := (hpp.map toR).mem_iff.2 ha
        obtain ⟨x, hx, rfl⟩ := List.mem_map.1 ha2
        obtain ⟨j, hj, e⟩ := List.getElem_of_mem hx
        have h2 := hle j x p[m] hj (by rw [List.getElem?_eq_getElem hj, e]) he
        have hu : x.used = p[m].used := by
          have h1' : ¬ p[m].used < x.used := of_decide_eq_false h1
          omega
        have hne := h.us
        have hjm : j = m := by
          refine Classical.byContradiction fun hne2 => ?_
          have hnd := List.pairwise_iff_getElem.1 hne
          rcases Nat.lt_or_gt_of_ne hne2 with hlt | hlt
          · exact hnd j m (by simpa using hj) (by simpa using hml) hlt (by simp [e, hu])
          · exact hnd m j (by simpa using hml) (by simpa using hj) hlt (by simp [e, hu])
        subst hjm
        rw [← e]
  obtain ⟨t, rfl⟩ := key
  have hsub : List.Sublist (p.eraseIdx m) p := List.eraseIdx_sublist ..
  exact ⟨(List.perm_cons _).1 hps, fun x hx => h.el x (hsub.subset hx), h.ks.sublist (hsub.map _), h.us.sublist (hsub.map _)⟩
/-- A new entry. -/
theorem Keep.snoc {c : Int} {p : List T_name_kept} {r : List T_laneref1_kept} (h : Keep c p r) {x : T_name_kept} (hx : KIn (c + 1) x) (hu : x.used = c + 1) (hk : ∀ y ∈ p, y.asking ≠ x.asking) : Keep (c + 1) (p ++ [x]) (r ++ [toR x]) where
  pm := by rw [List.map_append]; exact h.pm.append_right _
  el := fun y hy => by
    rcases List.mem_append.1 hy with hy | hy
    · exact (h.el y hy).up (by omega)
    · simp only [List.mem_singleton] at hy; subst hy; exact hx
  ks := by
    rw [List.map_append, List.nodup_append]
    refine ⟨h.ks, by simp, fun a ha b hb => ?_⟩
    obtain ⟨y, hy, rfl⟩ := List.mem_map.1 ha
    simp only [List.map_cons, List.map_nil, List.mem_singleton] at hb
    subst hb
    exact hk y hy
  us := by
    rw [List.map_append, List.nodup_append]
    refine ⟨h.us, by simp, fun a ha b hb => ?_⟩
    obtain ⟨y, hy, rfl⟩ := List.mem_map.1 ha
    simp only [List.map_cons, List.map_nil, List.mem_singleton] at hb
    subst hb
    have := (h.el y hy).u1
    omega
end Go.Gk
