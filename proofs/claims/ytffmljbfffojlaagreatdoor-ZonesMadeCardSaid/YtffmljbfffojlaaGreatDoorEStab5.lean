/-
  A stable sort, part 5: the whole, of fewer than forty elements.
-/
import Derived.Test.YtffmljbfffojlaaGreatDoorEStab4
set_option linter.unusedVariables false
set_option linter.unusedSimpArgs false
set_option linter.unusedSectionVars false
set_option maxRecDepth 100000
namespace Go.Gk
open Go.Sort
section
variable {α : Type} {cmp : α → α → Option Int}
def gStable (cmp : α → α → Option Int) (k : Nat) (data : List α) (n : Int) : Option (List α) :=
  bi (loopM (σ := (List α) × Int × Int) (ρ := (List α) × Int) (fun s2 => bif decide ((s2.2.2 : Int) ≤ n) then (bi (gIns cmp k s2.1 s2.2.1 s2.2.2) fun y12 => gd (decide (y12.length = s2.1.length)) (some (.go (y12, s2.2.2, wi (s2.2.2 + 20))))) else (some (.out (s2.1, s2.2.1)))) k (data, 0, 20)) fun q4 => bi (gIns cmp k q4.1 q4.2 n) fun y17 => gd (decide (y17.length = q4.1.length)) (bi (loopM (σ := (List α) × Int) (ρ := List α) (fun s22 => bif decide ((s22.2 : Int) < n) then (bi (loopM (σ := (List α) × Int × Int) (ρ := (List α) × Int) (fun s33 => bif decide ((s33.2.2 : Int) ≤ n) then (bi (gSym cmp k s33.1 s33.2.1 (wi (s33.2.1 + s22.2)) s33.2.2) fun y43 => gd (decide (y43.length = s33.1.length)) (some (.go (y43, s33.2.2, wi (s33.2.2 + (wi (2 * s22.2))))))) else (some (.out (s33.1, s33.2.1)))) k (s22.1, 0, wi (2 * s22.2))) fun q35 => bif decide ((wi (q35.2 + s22.2) : Int) < n) then (bi (gSym cmp k q35.1 q35.2 (wi (q35.2 + s22.2)) n) fun y49 => gd (decide (y49.length = q35.1.length)) (some (.go (y49, wi (s22.2 * 2))))) else (some (.go (q35.1, wi (s22.2 * 2))))) else (some (.out s22.1))) k (y17, 20)) fun q24 => some q24)
theorem stable_ok (H : CmpOk cmp) (k : Nat) (l : List α) (hk : 60 < k) (hl : l.length < 40) : ∃ r, gStable cmp k l (l.length : Int) = some r ∧ Srt cmp r ∧ r.Perm l := by
  obtain ⟨k, rfl⟩ : ∃ j, k = j + 1 + 1 := ⟨k - 2, by omega⟩
  unfold gStable
  by_cases h20 : l.length < 20
  · refine bi_ex (fun r => r = (l, (0 : Int))) ⟨(l, 0), ?_, rfl⟩ ?_
    · unfold loopM
      simp only
      rw [decide_eq_false (by omega)]
      rfl
    · rintro _ rfl
      obtain ⟨W, w1, w2, w3⟩ := ins_ok H (k + 1 + 1) [] l [] (by omega) (by simp; omega)
      simp only [List.append_nil, List.nil_append, List.length_nil, Nat.zero_add] at w1
      rw [show ((0 : Nat) : Int) = 0 from rfl] at w1
      simp only [w1, bi_some]
      rw [gd_len w3.length_eq]
      unfold loopM
      simp only
      rw [decide_eq_false (show ¬ (20 : Int) < (l.length : Int) by omega)]
      exact ⟨W, rfl, w2, w3⟩
  · obtain ⟨A, B, rfl, hA⟩ : ∃ A B, l = A ++ B ∧ A.length = 20 := ⟨l.take 20, l.drop 20, (List.take_append_drop _ _).symm, by rw [List.length_take]; omega⟩
    simp only [List.length_append, hA] at hl h20 ⊢
    obtain ⟨W, w1, w2, w3⟩ := ins_ok H (k + 1 + 1) [] A B (by omega) (by simp; omega)
    have wl : W.length = 20 := by rw [w3.length_eq, hA]
    simp only [List.nil_append, List.length_nil, Nat.zero_add, hA] at w1
    refine bi_ex (fun r => r = (W ++ B, (20 : Int))) ⟨(W ++ B, 20), ?_, rfl⟩ ?_
    · unfold loopM
      simp only
      rw [decide_eq_true (by omega)]
      rw [show ((0 : Nat) : Int) = 0 from rfl, show ((20 : Nat) : Int) = 20 from rfl] at w1
      simp only [cond_true, w1, bi_some]
      rw [gd_len (by simp [wl, hA])]
      unfold loopM
      simp only
      rw [show wi (20 + 20) = 40 from by decide, decide_eq_false (by omega)]
      rfl
    · rintro _ rfl
      obtain ⟨X, x1, x2, x3⟩ := ins_ok H (k + 1 + 1) W B [] (by omega) (by simp [wl]; omega)
      have xl : X.length = B.length := x3.length_eq
      simp only [List.append_nil, wl] at x1
      rw [show ((20 : Nat) : Int) = 20 from rfl] at x1
      simp only [x1, bi_some]
      rw [gd_len (by simp [xl])]
      have hp : (W ++ X).Perm (A ++ B) := w3.append x3
      by_cases hB : B.length = 0
      · have e : X = [] := List.eq_nil_of_length_eq_zero (by omega)
        subst e
        unfold loopM
        simp only
        rw [decide_eq_false (show ¬ (20 : Int) < ((20 + B.length : Nat) : Int) by omega)]
        exact ⟨W ++ [], rfl, by simpa using w2, hp⟩
      · obtain ⟨r, r1, Y, rfl, r2, r3⟩ := sym_ok H (k + 1 + 1) [] W X [] (by omega) (by omega) w2 x2 (by omega) (by simp; omega)
        simp only [List.append_nil, List.nil_append, List.length_nil, Nat.zero_add, wl, xl] at r1
        rw [show ((0 : Nat) : Int) = 0 from rfl, show ((20 : Nat) : Int) = 20 from rfl] at r1
        refine bi_ex (fun r => r = Y) ⟨Y, ?_, rfl⟩ ?_
        · unfold loopM
          simp only
          rw [decide_eq_true (show (20 : Int) < ((20 + B.length : Nat) : Int) by omega)]
          simp only [cond_true]
          rw [show (loopM (σ := (List α) × Int × Int) (ρ := (List α) × Int) (fun s33 => bif decide ((s33.2.2 : Int) ≤ ((20 + B.length : Nat) : Int)) then (bi (gSym cmp (k + 1 + 1) s33.1 s33.2.1 (wi (s33.2.1 + 20)) s33.2.2) fun y43 => gd (decide (y43.length = s33.1.length)) (some (.go (y43, s33.2.2, wi (s33.2.2 + (wi (2 * 20))))))) else (some (.out (s33.1, s33.2.1)))) (k + 1 + 1) (W ++ X, 0, wi (2 * 20))) = some (W ++ X, 0) by
            unfold loopM
            simp only
            rw [show wi (2 * 20) = 40 from by decide, decide_eq_false (by omega)]
            rfl]
          simp only [bi_some]
          rw [show wi ((0 : Int) + 20) = 20 from by decide, decide_eq_true (show (20 : Int) < ((20 + B.length : Nat) : Int) by omega)]
          simp only [cond_true, r1, bi_some]
          rw [gd_len (by have := r3.length_eq; simpa using this)]
          unfold loopM
          simp only
          rw [show wi (20 * 2) = 40 from by decide, decide_eq_false (by omega)]
          rfl
        · rintro _ rfl
          exact ⟨_, rfl, r2, r3.trans hp⟩
/-- A stable sort gives what sortF gives. -/
theorem stable_sortF (H : CmpOk cmp) (k : Nat) (l : List α) (hk : 60 < k) (hl : l.length < 40) (ht : ∀ x, x ∈ l → ∀ y, y ∈ l → ltO cmp x y = false → ltO cmp y x = false → x = y) :
    ∃ r, gStable cmp k l (l.length : Int) = some r ∧ sortF cmp l = some r ∧ Srt cmp r ∧ r.Perm l := by
  obtain ⟨r, h1, h2, h3⟩ := stable_ok H k l hk hl
  refine ⟨r, h1, ?_, h2, h3⟩
  rw [sortF_ok ⟨H.tot, H.swo, ht, by omega⟩, sorted_one H.swo ht h3 h2]
end
end Go.Gk
