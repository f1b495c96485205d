/-
  The plain laws of routers: the whole sort; the first that is up.
-/
import Derived.Test.YtnjnmkpgedkffaaGreatDoorWSort
set_option linter.unusedVariables false
set_option linter.unusedSimpArgs false
set_option linter.unusedSectionVars false
set_option maxRecDepth 100000
namespace Go.Gk
theorem ins_outer {cmp : Rt → Rt → Option Int} (hcmp : ∀ x y, cmp x y = some (cmpI y.Weight x.Weight)) {f : (List Rt) × Int → Option (LS ((List Rt) × Int) (List Rt))}
    (hf : ∀ s13, f s13 = bi (bif decide ((s13.2 : Int) > 0) then (bi (getZ s13.1 s13.2) fun x25 => bi (getZ s13.1 (wi (s13.2 - 1))) fun x28 => bi (cmp x25 x28) fun y31 => some (decide ((y31 : Int) < 0))) else (some false)) fun q22 => bif q22 then (bi (getZ s13.1 (wi (s13.2 - 1))) fun x35 => bi (getZ s13.1 s13.2) fun x38 => bi (getZ s13.1 s13.2) fun x41 => bi (getZ s13.1 (wi (s13.2 - 1))) fun x44 => bi (getZ (s13.1.set s13.2.toNat x35) (((wi (s13.2 - 1)).toNat : Nat) : Int)) fun x47 => some (.go ((s13.1.set s13.2.toNat x35).set ((wi (s13.2 - 1)).toNat) x38, wi (s13.2 - 1)))) else (some (.out s13.1)))
    (n : Nat) (hn : n ≤ 100) (k1 : Nat) (hk1 : 200 ≤ k1) {f2 : (List Rt) × Int → Option (LS ((List Rt) × Int) (List Rt))}
    (hf2 : ∀ s2, f2 s2 = bif decide ((s2.2 : Int) < (n : Int)) then (bi (loopM f k1 (s2.1, s2.2)) fun q15 => some (.go (q15, wi (s2.2 + 1)))) else (some (.out s2.1))) :
    ∀ (k : Nat) (S C : List Rt), S.Pairwise (fun x y => y.Weight ≤ x.Weight) → (S ++ C).length = n → C.length < k →
      ∃ m, loopM f2 k (S ++ C, (S.length : Int)) = some m ∧ m.Pairwise (fun x y => y.Weight ≤ x.Weight) ∧ m.length = n ∧ Eqw m (S ++ C)
  | 0, S, C, _, _, h => absurd h (Nat.not_lt_zero _)
  | k + 1, S, C, hS, hl, hk => by
    unfold loopM
    rw [hf2]
    cases C with
    | nil =>
      simp only [List.append_nil] at hl ⊢
      rw [decide_eq_false (show ¬ (S.length : Int) < (n : Int) by omega)]
      exact ⟨S, rfl, hS, hl, Eqw.refl _⟩
    | cons q C =>
      have hl' : S.length + (C.length + 1) = n := by simpa using hl
      simp only
      rw [decide_eq_true (show (S.length : Int) < (n : Int) by omega)]
      obtain ⟨D, d1, d2, d3, d4⟩ := ins_inner hcmp hf k1 S [] C q (by simpa using hS) (fun b hb => by cases hb) (by omega) (by omega)
      simp only [List.nil_append] at d1 d4
      simp only [List.length_nil, Nat.add_zero] at d3
      simp only [cond_true, d1, bi_some]
      have hw : wi ((S.length : Int) + 1) = (D.length : Int) := by rw [wi_id (by omega) (by omega), d3]; omega
      rw [hw]
      obtain ⟨m, m1, m2, m3, m4⟩ := ins_outer hcmp hf n hn k1 hk1 hf2 k D C d2 (by simp; omega) (by simp at hk; omega)
      exact ⟨m, m1, m2, m3, m4.trans d4⟩
/-- In order of weight, the first that is up is the one that is chosen. -/
theorem best_sorted (u : Str → Bool) : ∀ (m : List Rt), m.Pairwise (fun x y => y.Weight ≤ x.Weight) → (∀ x ∈ m, 0 ≤ x.Weight) → (best u m ([], -1)).1 = (match m.find? fun x => u x.Node with | some x => x.Node | none => [])
  | [], _, _ => rfl
  | x :: m, hp, h0 => by
    rw [List.pairwise_cons] at hp
    have hx := h0 x List.mem_cons_self
    unfold best
    rw [List.foldl_cons, List.find?_cons]
    cases hu : u x.Node with
    | true =>
      have e : bst1 u ([], -1) x = (x.Node, x.Weight) := by unfold bst1; rw [if_pos ⟨hu, by simp only; omega⟩]
      rw [e]
      have keep : ∀ (l : List Rt), (∀ y ∈ l, y.Weight ≤ x.Weight) → l.foldl (bst1 u) (x.Node, x.Weight) = (x.Node, x.Weight) := by
        intro l
        induction l with
        | nil => intro _; rfl
        | cons y l ih =>
          intro hl
          have hy := hl y List.mem_cons_self
          have e2 : bst1 u (x.Node, x.Weight) y = (x.Node, x.Weight) := by unfold bst1; rw [if_neg fun h => by have := h.2; simp only at this; omega]
          rw [List.foldl_cons, e2]
          exact ih fun z hz => hl z (List.mem_cons_of_mem _ hz)
      rw [keep m hp.1]
    | false =>
      have e : bst1 u ([], -1) x = ([], -1) := by unfold bst1; rw [if_neg fun h => by rw [hu] at h; cases h.1]
      rw [e]
      exact best_sorted u m hp.2 fun y hy => h0 y (List.mem_cons_of_mem _ hy)
end Go.Gk
