/-
  The plain laws of routers: sorted by weight, and who is chosen.
-/
import Derived.Test.YtnjnmkpgedkffaaGreatDoorWMom
set_option linter.unusedVariables false
set_option linter.unusedSimpArgs false
set_option linter.unusedSectionVars false
set_option maxRecDepth 100000
namespace Go.Gk
abbrev Rt : Type := T_api_Router
/-- The first of the greatest weight among those that are up. -/
def bst1 (u : Str → Bool) (s : Str × Int) (x : Rt) : Str × Int := if u x.Node = true ∧ x.Weight > s.2 then (x.Node, x.Weight) else s
def best (u : Str → Bool) (m : List Rt) (s : Str × Int) : Str × Int := m.foldl (bst1 u) s
theorem best_swap (u : Str → Bool) {p q : Rt} (h : p.Weight < q.Weight) (A X : List Rt) (s : Str × Int) : best u (A ++ p :: q :: X) s = best u (A ++ q :: p :: X) s := by
  unfold best
  rw [List.foldl_append, List.foldl_append]
  generalize A.foldl (bst1 u) s = s
  simp only [List.foldl_cons]
  congr 1
  unfold bst1
  by_cases h1 : u q.Node = true <;> by_cases h2 : u p.Node = true <;> by_cases h3 : q.Weight > s.2 <;> by_cases h4 : p.Weight > s.2 <;> simp [h1, h2, h3, h4, h, show ¬ q.Weight < p.Weight by omega] <;> (try (repeat' split)) <;> (try omega) <;> (try rfl)
/-- The same routers, those of one weight in the same order. -/
structure Eqw (a b : List Rt) : Prop where
  bst : ∀ u s, best u a s = best u b s
  flt : ∀ w : Int, a.filter (fun r => decide (r.Weight = w)) = b.filter fun r => decide (r.Weight = w)
theorem Eqw.refl (a : List Rt) : Eqw a a := ⟨fun _ _ => rfl, fun _ => rfl⟩
theorem Eqw.trans {a b c : List Rt} (h : Eqw a b) (g : Eqw b c) : Eqw a c := ⟨fun u s => (h.bst u s).trans (g.bst u s), fun w => (h.flt w).trans (g.flt w)⟩
theorem Eqw.swap {p q : Rt} (h : p.Weight < q.Weight) (A X : List Rt) : Eqw (A ++ q :: p :: X) (A ++ p :: q :: X) where
  bst u s := (best_swap u h A X s).symm
  flt w := by
    rw [List.filter_append, List.filter_append]
    congr 1
    by_cases h1 : p.Weight = w
    · have h2 : ¬ q.Weight = w := by omega
      rw [List.filter_cons_of_neg (by simpa using h2), List.filter_cons_of_pos (by simpa using h1), List.filter_cons_of_pos (by simpa using h1), List.filter_cons_of_neg (by simpa using h2)]
    · by_cases h2 : q.Weight = w
      · rw [List.filter_cons_of_pos (by simpa using h2), List.filter_cons_of_neg (by simpa using h1), List.filter_cons_of_neg (by simpa using h1), List.filter_cons_of_pos (by simpa using h2)]
      · rw [List.filter_cons_of_neg (by simpa using h2), List.filter_cons_of_neg (by simpa using h1), List.filter_cons_of_neg (by simpa using h1), List.filter_cons_of_neg (by simpa using h2)]
theorem Eqw.mem {a b : List Rt} (h : Eqw a b) {x : Rt} (hx : x ∈ a) : x ∈ b := by
  have h1 : x ∈ a.filter (fun r => decide (r.Weight = x.Weight)) := List.mem_filter.2 ⟨hx, by simp⟩
  rw [h.flt] at h1
  exact (List.mem_filter.1 h1).1
theorem swap_set (A : List Rt) (p q : Rt) (X : List Rt) : ((A ++ p :: q :: X).set (A.length + 1) p).set A.length q = A ++ q :: p :: X := by
  rw [List.set_append_right _ _ (by omega), List.set_append_right _ _ (by omega)]
  simp
theorem ins_inner {cmp : Rt → Rt → Option Int} (hcmp : ∀ x y, cmp x y = some (cmpI y.Weight x.Weight)) {f : (List Rt) × Int → Option (LS ((List Rt) × Int) (List Rt))}
    (hf : ∀ s13, f s13 = bi (bif decide ((s13.2 : Int) > 0) then (bi (getZ s13.1 s13.2) fun x25 => bi (getZ s13.1 (wi (s13.2 - 1))) fun x28 => bi (cmp x25 x28) fun y31 => some (decide ((y31 : Int) < 0))) else (some false)) fun q22 => bif q22 then (bi (getZ s13.1 (wi (s13.2 - 1))) fun x35 => bi (getZ s13.1 s13.2) fun x38 => bi (getZ s13.1 s13.2) fun x41 => bi (getZ s13.1 (wi (s13.2 - 1))) fun x44 => bi (getZ (s13.1.set s13.2.toNat x35) (((wi (s13.2 - 1)).toNat : Nat) : Int)) fun x47 => some (.go ((s13.1.set s13.2.toNat x35).set ((wi (s13.2 - 1)).toNat) x38, wi (s13.2 - 1)))) else (some (.out s13.1))) :
    ∀ (k : Nat) (A B C : List Rt) (q : Rt), (A ++ B).Pairwise (fun x y => y.Weight ≤ x.Weight) → (∀ b ∈ B, b.Weight < q.Weight) → A.length < k → A.length ≤ 100 →
      ∃ D, loopM f k (A ++ q :: (B ++ C), (A.length : Int)) = some (D ++ C) ∧ D.Pairwise (fun x y => y.Weight ≤ x.Weight) ∧ D.length = A.length + 1 + B.length ∧ Eqw (D ++ C) (A ++ q :: (B ++ C))
  | 0, A, B, C, q, _, _, h, _ => absurd h (Nat.not_lt_zero _)
  | k + 1, A, B, C, q, hp, hB, hk, hl => by
    have hq : (A ++ q :: (B ++ C))[A.length]? = some q := by simp
    unfold loopM
    rw [hf]
    by_cases hA : A = []
    · subst hA
      refine ⟨q :: B, by simp, ?_, by simp; omega, by simpa using Eqw.refl _⟩
      rw [List.pairwise_cons]
      exact ⟨fun b hb => Int.le_of_lt (hB b hb), by simpa using hp⟩
    · obtain ⟨A', p, rfl⟩ : ∃ a x, A = a ++ [x] := ⟨A.dropLast, A.getLast hA, (List.dropLast_concat_getLast hA).symm⟩
      have hlen : (A' ++ [p]).length = A'.length + 1 := by simp
      have hpj : ((A' ++ [p]) ++ q :: (B ++ C))[A'.length]? = some p := by simp
      have hw : wi (((A' ++ [p]).length : Int) - 1) = (A'.length : Int) := by rw [hlen, wi_id (by omega) (by omega)]; omega
      have hst : (A' ++ [p]) ++ q :: (B ++ C) = A' ++ p :: q :: (B ++ C) := by simp
      simp only
      rw [decide_eq_true (show ((A' ++ [p]).length : Int) > 0 by rw [hlen]; omega)]
      simp only [cond_true, hw, getZ_cast, hq, hpj, bi_some, hcmp]
      by_cases hlt : p.Weight < q.Weight
      · have hc : decide (cmpI p.Weight q.Weight < 0) = true := by unfold cmpI; rw [if_pos hlt]; rfl
        rw [hc]
        simp only [cond_true, Int.toNat_natCast, bi_some]
        have e1 : (((A' ++ [p]) ++ q :: (B ++ C)).set (A' ++ [p]).length p)[A'.length]? = some p := by rw [List.getElem?_set_ne (by rw [hlen]; omega)]; exact hpj
        rw [e1]
        simp only [bi_some]
        rw [hlen, hst, swap_set]
        obtain ⟨D, d1, d2, d3, d4⟩ := ins_inner hcmp hf k A' (p :: B) C q (by simpa using hp) (fun b hb => by
          rcases List.mem_cons.1 hb with rfl | hb
          · exact hlt
          · exact hB b hb) (by omega) (by omega)
        refine ⟨D, d1, d2, by rw [d3]; simp; omega, d4.trans ?_⟩
        exact Eqw.swap hlt A' (B ++ C)
      · have hc : decide (cmpI p.Weight q.Weight < 0) = false := by
          unfold cmpI
          rw [if_neg hlt]
          by_cases h2 : p.Weight > q.Weight
          · rw [if_pos h2]; rfl
          · rw [if_neg h2]; rfl
        rw [hc]
        refine ⟨(A' ++ [p]) ++ q :: B, by simp, ?_, by simp; omega, by simpa using Eqw.refl _⟩
        rw [List.pairwise_append] at hp ⊢
        refine ⟨hp.1, ?_, fun x hx y hy => ?_⟩
        · rw [List.pairwise_cons]
          exact ⟨fun b hb => Int.le_of_lt (hB b hb), hp.2.1⟩
        · rcases List.mem_cons.1 hy with rfl | hy
          · rcases List.mem_append.1 hx with hx | hx
            · have h5 := (List.pairwise_append.1 hp.1).2.2 x hx p (by simp)
              omega
            · simp only [List.mem_singleton] at hx
              subst hx; omega
          · exact hp.2.2 x hx y hy
end Go.Gk
