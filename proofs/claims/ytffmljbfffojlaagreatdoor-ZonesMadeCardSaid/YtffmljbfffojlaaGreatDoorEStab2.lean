/-
  A stable sort, part 2: insertion in a segment; two runs merged in place.
-/
import Derived.Test.YtffmljbfffojlaaGreatDoorEStab
import Derived.Test.YtffmljbfffojlaaGreatDoorGk56
set_option linter.unusedVariables false
set_option linter.unusedSimpArgs false
set_option linter.unusedSectionVars false
set_option maxRecDepth 100000
namespace Go.Gk
open Go.Sort
section
variable {α : Type} {cmp : α → α → Option Int}
/-- The comparison answers whatever two elements; 'less' is an order. -/
structure CmpOk (cmp : α → α → Option Int) : Prop where
  tot : ∀ x y, ∃ r, cmp x y = some r
  swo : SWO (ltO cmp)
theorem CmpOk.ev (H : CmpOk cmp) (x y : α) : ∃ c, cmp x y = some c ∧ decide (c < 0) = ltO cmp x y := by
  obtain ⟨c, h⟩ := H.tot x y
  exact ⟨c, h, by unfold ltO; rw [h]; rfl⟩
theorem CmpOk.as (H : CmpOk cmp) {x y : α} (h : ltO cmp x y = true) : ltO cmp y x = false := by
  cases h2 : ltO cmp y x with
  | false => rfl
  | true => have := H.swo.trans x y x h h2; rw [H.swo.irrefl] at this; cases this
abbrev Srt (cmp : α → α → Option Int) (l : List α) : Prop := l.Pairwise fun x y => ltO cmp y x = false
/-! ### Insertion in a segment -/
def gIns (cmp : α → α → Option Int) (k : Nat) (data : List α) (a : Int) (b : Int) : Option (List α) :=
  bi (loopM (σ := (List α) × Int) (ρ := List α) (fun s2 => bif decide ((s2.2 : Int) < b) then (bi (loopM (σ := (List α) × Int) (ρ := List α) (fun s13 => bi (bif decide ((s13.2 : Int) > a) then (bi (getZ s13.1 s13.2) fun x25 => bi (getZ s13.1 (wi (s13.2 - 1))) fun x28 => bi (cmp x25 x28) fun y31 => some (decide ((y31 : Int) < 0))) else (some false)) fun q22 => bif q22 then (bi (getZ s13.1 (wi (s13.2 - 1))) fun x35 => bi (getZ s13.1 s13.2) fun x38 => bi (getZ s13.1 s13.2) fun x41 => bi (getZ s13.1 (wi (s13.2 - 1))) fun x44 => bi (getZ (s13.1.set s13.2.toNat x35) (((wi (s13.2 - 1)).toNat : Nat) : Int)) fun x47 => some (.go ((s13.1.set s13.2.toNat x35).set ((wi (s13.2 - 1)).toNat) x38, wi (s13.2 - 1)))) else (some (.out s13.1))) k (s2.1, s2.2)) fun q15 => some (.go (q15, wi (s2.2 + 1)))) else (some (.out s2.1))) k (data, wi (a + 1))) fun q4 => some q4
theorem swap_nb (A : List α) (p q : α) (X : List α) : ((A ++ p :: q :: X).set (A.length + 1) p).set A.length q = A ++ q :: p :: X := by
  rw [List.set_append_right _ _ (by omega), List.set_append_right _ _ (by omega)]
  simp
theorem ins_in (H : CmpOk cmp) (P : List α) {f : (List α) × Int → Option (LS ((List α) × Int) (List α))}
    (hf : ∀ s13, f s13 = bi (bif decide ((s13.2 : Int) > (P.length : Int)) then (bi (getZ s13.1 s13.2) fun x25 => bi (getZ s13.1 (wi (s13.2 - 1))) fun x28 => bi (cmp x25 x28) fun y31 => some (decide ((y31 : Int) < 0))) else (some false)) fun q22 => bif q22 then (bi (getZ s13.1 (wi (s13.2 - 1))) fun x35 => bi (getZ s13.1 s13.2) fun x38 => bi (getZ s13.1 s13.2) fun x41 => bi (getZ s13.1 (wi (s13.2 - 1))) fun x44 => bi (getZ (s13.1.set s13.2.toNat x35) (((wi (s13.2 - 1)).toNat : Nat) : Int)) fun x47 => some (.go ((s13.1.set s13.2.toNat x35).set ((wi (s13.2 - 1)).toNat) x38, wi (s13.2 - 1)))) else (some (.out s13.1))) :
    ∀ (k : Nat) (A B C : List α) (q : α), Srt cmp (A ++ B) → (∀ b ∈ B, ltO cmp q b = true) → A.length < k → (P ++ A).length ≤ 100000 →
      ∃ D, loopM f k (P ++ (A ++ q :: (B ++ C)), ((P.length + A.length : Nat) : Int)) = some (P ++ (D ++ C)) ∧ Srt cmp D ∧ D.Perm (A ++ q :: B)
  | 0, A, B, C, q, _, _, h, _ => absurd h (Nat.not_lt_zero _)
  | k + 1, A, B, C, q, hp, hB, hk, hl => by
    have hl0 := hl
    simp only [List.length_append] at hl0
    have hq : (P ++ (A ++ q :: (B ++ C)))[P.length + A.length]? = some q := by
      rw [← List.append_assoc, ← List.length_append]; simp
    unfold loopM
    rw [hf]
    by_cases hA : A = []
    · subst hA
      simp only [List.length_nil, Nat.add_zero]
      rw [decide_eq_false (by omega)]
      refine ⟨q :: B, by simp, ?_, by simp⟩
      unfold Srt at hp ⊢
      rw [List.pairwise_cons]
      exact ⟨fun b hb => H.as (hB b hb), by simpa using hp⟩
    · obtain ⟨A', p, rfl⟩ : ∃ a x, A = a ++ [x] := ⟨A.dropLast, A.getLast hA, (List.dropLast_concat_getLast hA).symm⟩
      have hlen : (A' ++ [p]).length = A'.length + 1 := by simp
      have hst : P ++ ((A' ++ [p]) ++ q :: (B ++ C)) = (P ++ A') ++ p :: q :: (B ++ C) := by simp
      have hpj : (P ++ ((A' ++ [p]) ++ q :: (B ++ C)))[P.length + A'.length]? = some p := by
        rw [hst, ← List.length_append]; simp
      have hw : wi (((P.length + (A' ++ [p]).length : Nat) : Int) - 1) = ((P.length + A'.length : Nat) : Int) := by
        rw [hlen, show ((P.length + (A'.length + 1) : Nat) : Int) - 1 = ((P.length + A'.length : Nat) : Int) by omega, wiN (by omega)]
      simp only
      rw [decide_eq_true (show ((P.length + (A' ++ [p]).length : Nat) : Int) > (P.length : Int) by rw [hlen]; omega)]
      obtain ⟨c, hc1, hc⟩ := H.ev q p
      simp only [cond_true, hw, getZ_cast, hq, hpj, bi_some, hc1]
      cases hlt : ltO cmp q p with
      | true =>
        rw [hc, hlt]
        simp only [cond_true, Int.toNat_natCast, bi_some]
        have e1 : ((P ++ ((A' ++ [p]) ++ q :: (B ++ C))).set (P.length + (A' ++ [p]).length) p)[P.length + A'.length]? = some p := by rw [List.getElem?_set_ne (by rw [hlen]; omega)]; exact hpj
        rw [e1]
        simp only [bi_some]
        rw [show P.length + (A' ++ [p]).length = (P ++ A').length + 1 by simp; omega, show P.length + A'.length = (P ++ A').length by simp, hst, swap_nb]
        obtain ⟨D, d1, d2, d3⟩ := ins_in H P hf k A' (p :: B) C q (by simpa using hp) (fun b hb => by
          rcases List.mem_cons.1 hb with rfl | hb
          · exact hlt
          · exact hB b hb) (by simp only [hlen] at hk; omega) (by simp only [List.length_append, List.length_singleton] at hl ⊢; omega)
        refine ⟨D, ?_, d2, d3.trans ?_⟩
        · rw [← d1]; simp
        · simpa using (List.Perm.swap p q B).append_left A'
      | false =>
        rw [hc, hlt]
        refine ⟨(A' ++ [p]) ++ q :: B, by simp, ?_, by simp⟩
        unfold Srt at hp ⊢
        rw [List.pairwise_append] at hp ⊢
        refine ⟨hp.1, ?_, fun x hx y hy => ?_⟩
        · rw [List.pairwise_cons]
          exact ⟨fun b hb => H.as (hB b hb), hp.2.1⟩
        · rcases List.mem_cons.1 hy with rfl | hy
          · rcases List.mem_append.1 hx with hx | hx
            · exact H.swo.ntrans _ _ _ hlt ((List.pairwise_append.1 hp.1).2.2 x hx p (by simp))
            · simp only [List.mem_singleton] at hx
              subst hx; exact hlt
          · exact hp.2.2 x hx y hy
theorem ins_out (H : CmpOk cmp) (P : List α) {f : (List α) × Int → Option (LS ((List α) × Int) (List α))}
    (hf : ∀ s13, f s13 = bi (bif decide ((s13.2 : Int) > (P.length : Int)) then (bi (getZ s13.1 s13.2) fun x25 => bi (getZ s13.1 (wi (s13.2 - 1))) fun x28 => bi (cmp x25 x28) fun y31 => some (decide ((y31 : Int) < 0))) else (some false)) fun q22 => bif q22 then (bi (getZ s13.1 (wi (s13.2 - 1))) fun x35 => bi (getZ s13.1 s13.2) fun x38 => bi (getZ s13.1 s13.2) fun x41 => bi (getZ s13.1 (wi (s13.2 - 1))) fun x44 => bi (getZ (s13.1.set s13.2.toNat x35) (((wi (s13.2 - 1)).toNat : Nat) : Int)) fun x47 => some (.go ((s13.1.set s13.2.toNat x35).set ((wi (s13.2 - 1)).toNat) x38, wi (s13.2 - 1)))) else (some (.out s13.1)))
    (n k1 : Nat) (hk1 : n < k1) (hn : P.length + n ≤ 100000) {f2 : (List α) × Int → Option (LS ((List α) × Int) (List α))}
    (hf2 : ∀ s2, f2 s2 = bif decide ((s2.2 : Int) < ((P.length + n : Nat) : Int)) then (bi (loopM f k1 (s2.1, s2.2)) fun q15 => some (.go (q15, wi (s2.2 + 1)))) else (some (.out s2.1))) :
    ∀ (k : Nat) (S C Z : List α), Srt cmp S → (S ++ C).length = n → C.length < k →
      ∃ D, loopM f2 k (P ++ (S ++ (C ++ Z)), ((P.length + S.length : Nat) : Int)) = some (P ++ (D ++ Z)) ∧ Srt cmp D ∧ D.Perm (S ++ C)
  | 0, S, C, Z, _, _, h => absurd h (Nat.not_lt_zero _)
  | k + 1, S, C, Z, hS, hl, hk => by
    unfold loopM
    rw [hf2]
    cases C with
    | nil =>
      simp only [List.append_nil] at hl
      simp only
      rw [decide_eq_false (by omega)]
      exact ⟨S, by simp, hS, by simp⟩
    | cons q C =>
      have hl' : S.length + (C.length + 1) = n := by simpa using hl
      simp only
      rw [decide_eq_true (show ((P.length + S.length : Nat) : Int) < ((P.length + n : Nat) : Int) by omega)]
      obtain ⟨D, d1, d2, d3⟩ := ins_in H P hf k1 S [] (C ++ Z) q (by simpa using hS) (fun b hb => by cases hb) (by omega) (by simp; omega)
      simp only [List.nil_append] at d1
      have dl : D.length = S.length + 1 := by rw [d3.length_eq]; simp
      simp only [cond_true, List.cons_append, d1, bi_some]
      rw [show wi (((P.length + S.length : Nat) : Int) + 1) = ((P.length + D.length : Nat) : Int) by rw [show ((P.length + S.length : Nat) : Int) + 1 = ((P.length + D.length : Nat) : Int) by omega, wiN (by omega)]]
      obtain ⟨m, m1, m2, m3⟩ := ins_out H P hf n k1 hk1 hn hf2 k D C Z d2 (by simp; omega) (by simp at hk; omega)
      exact ⟨m, m1, m2, m3.trans (by simpa using d3.append_right C)⟩
theorem ins_ok (H : CmpOk cmp) (k : Nat) (P U Z : List α) (hk : U.length + 1 < k) (hl : (P ++ U).length ≤ 100000) :
    ∃ W, gIns cmp k (P ++ (U ++ Z)) (P.length : Int) ((P.length + U.length : Nat) : Int) = some (P ++ (W ++ Z)) ∧ Srt cmp W ∧ W.Perm U := by
  simp only [List.length_append] at hl
  unfold gIns
  cases U with
  | nil =>
    obtain ⟨k, rfl⟩ : ∃ j, k = j + 1 := ⟨k - 1, by omega⟩
    refine ⟨[], ?_, List.Pairwise.nil, .refl _⟩
    unfold loopM
    simp only
    rw [show wi ((P.length : Int) + 1) = ((P.length + 1 : Nat) : Int) by rw [show (P.length : Int) + 1 = ((P.length + 1 : Nat) : Int) by omega, wiN (by simp at hl; omega)], decide_eq_false (by simp; omega)]
    rfl
  | cons u U =>
    simp only [List.length_cons] at hk hl
    obtain ⟨D, d1, d2, d3⟩ := ins_out H P (fun _ => rfl) (U.length + 1) k (by omega) (by omega) (fun _ => rfl) k [u] U Z (by simp [Srt]) (by simp) (by omega)
    refine ⟨D, ?_, d2, by simpa using d3⟩
    rw [show wi ((P.length : Int) + 1) = ((P.length + [u].length : Nat) : Int) by rw [show (P.length : Int) + 1 = ((P.length + 1 : Nat) : Int) by omega, wiN (by omega)]; rfl]
    refine Eq.trans (congrArg (fun x => bi x fun q4 => some q4) (?_ : _ = some (P ++ (D ++ Z)))) rfl
    exact d1
end
end Go.Gk
