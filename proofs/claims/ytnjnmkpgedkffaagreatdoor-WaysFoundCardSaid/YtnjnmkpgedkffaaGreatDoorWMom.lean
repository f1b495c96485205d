/-
  The plain laws of routers: what is told at one moment.
-/
import Derived.Test.YtnjnmkpgedkffaaGreatDoorWMap
set_option linter.unusedVariables false
set_option linter.unusedSimpArgs false
set_option linter.unusedSectionVars false
set_option maxRecDepth 100000
namespace Go.Gk
def upF (n : Str) (m : List T_api_Health) (s : Bool) : Bool := m.foldl (fun s x => if x.Node = n then x.Up else s) s
/-- The program's loop over what is told at one moment. -/
theorem mom_loop (l : List T_api_Health) (hl : l.length ≤ 40) (at' : Int) {f : (List (Str × Bool)) × Int → Option (LS ((List (Str × Bool)) × Int) ((List (Str × Bool)) × Int))}
    (hf : ∀ s15, f s15 = bi (bif decide ((s15.2 : Int) < (l.length : Int)) then (bi (getZ l s15.2) fun x27 => some ((x27.At : Int) == at')) else (some false)) fun q24 => bif q24 then (bi (getZ l s15.2) fun x31 => bi (getZ l s15.2) fun x33 => some (.go ((mSet s15.1 x31.Node x33.Up), wi (s15.2 + 1)))) else (some (.out (s15.1, s15.2)))) :
    ∀ (k i : Nat) (m : List (Str × Bool)), l.length - i < k → i ≤ l.length → ∃ m' j, loopM f k (m, (i : Int)) = some (m', ((j : Nat) : Int)) ∧ i ≤ j ∧ j ≤ l.length ∧ (∀ q x, i ≤ q → q < j → l[q]? = some x → x.At = at') ∧ (∀ x, l[j]? = some x → x.At ≠ at') ∧
      ∀ n, (mGet m' n).getD false = upF n ((l.take j).drop i) ((mGet m n).getD false)
  | 0, i, m, h, _ => absurd h (Nat.not_lt_zero _)
  | k + 1, i, m, hk, hi => by
    unfold loopM
    rw [hf]
    have stop : (∀ x, l[i]? = some x → x.At ≠ at') → ∃ m' j, some (m, (i : Int)) = some (m', ((j : Nat) : Int)) ∧ i ≤ j ∧ j ≤ l.length ∧ (∀ q x, i ≤ q → q < j → l[q]? = some x → x.At = at') ∧ (∀ x, l[j]? = some x → x.At ≠ at') ∧ ∀ n, (mGet m' n).getD false = upF n ((l.take j).drop i) ((mGet m n).getD false) := fun hno =>
      ⟨m, i, rfl, Nat.le_refl _, hi, fun q x h1 h2 => by omega, hno, fun n => by rw [List.drop_eq_nil_of_le (by simp; omega)]; rfl⟩
    by_cases h1 : i < l.length
    · have hx : l[i]? = some l[i] := List.getElem?_eq_getElem h1
      have hw : wi ((i : Int) + 1) = ((i + 1 : Nat) : Int) := by rw [wi_id (by omega) (by omega)]; omega
      simp only
      rw [decide_eq_true (show (i : Int) < (l.length : Int) by omega)]
      simp only [cond_true, getZ_cast, hx, bi_some]
      by_cases h2 : l[i].At = at'
      · rw [show (l[i].At == at') = true by simpa using h2]
        simp only [cond_true, hw]
        obtain ⟨m', j, e, j1, j2, j3, j4, j5⟩ := mom_loop l hl at' hf k (i + 1) (mSet m l[i].Node l[i].Up) (by omega) (by omega)
        refine ⟨m', j, e, by omega, j2, fun q x hq1 hq2 hqx => ?_, j4, fun n => ?_⟩
        · by_cases hqi : q = i
          · subst hqi; rw [hx] at hqx; cases hqx; exact h2
          · exact j3 q x (by omega) hq2 hqx
        · rw [j5 n, mGet_set]
          have hd : (l.take j).drop i = l[i] :: (l.take j).drop (i + 1) := by
            rw [List.drop_eq_getElem_cons (by simp; omega)]
            simp
          rw [hd]
          unfold upF
          rw [List.foldl_cons]
          congr 1
          by_cases hn : l[i].Node = n
          · rw [if_pos hn, show (n == l[i].Node) = true by simp [hn]]; rfl
          · rw [if_neg hn, show (n == l[i].Node) = false by simpa using fun e => hn e.symm]; rfl
      · rw [beq_eq_false_iff_ne.2 h2]
        exact stop fun x hx' => by rw [hx] at hx'; cases hx'; exact h2
    · simp only
      rw [decide_eq_false (show ¬ (i : Int) < (l.length : Int) by omega)]
      exact stop fun x hx' => absurd (List.getElem?_eq_some_iff.1 hx').1 h1
/-- Who is up at a moment: the last word of all that was told till then. -/
theorem upAt_take {l : List T_api_Health} {t : Int} {j : Nat} (h1 : ∀ q x, q < j → l[q]? = some x → x.At ≤ t) (h2 : ∀ q x, j ≤ q → l[q]? = some x → t < x.At) (n : Str) : upAt l n t = upF n (l.take j) false := by
  unfold upAt upF
  have key : ∀ (m : List T_api_Health) (i : Nat) (s : Bool), (∀ q x, q < i → m[q]? = some x → x.At ≤ t) → (∀ q x, i ≤ q → m[q]? = some x → t < x.At) → m.foldl (fun s x => if x.Node = n ∧ x.At ≤ t then x.Up else s) s = (m.take i).foldl (fun s x => if x.Node = n then x.Up else s) s := by
    intro m
    induction m with
    | nil => intro i s _ _; simp
    | cons x m ih =>
      intro i s g1 g2
      cases i with
      | zero =>
        have hx := g2 0 x (Nat.le_refl _) (by simp)
        rw [List.foldl_cons, if_neg (by omega), ih 0 s (fun q y hq => absurd hq (Nat.not_lt_zero _)) (fun q y _ hy => g2 (q + 1) y (Nat.zero_le _) (by simpa using hy))]
        rfl
      | succ i =>
        have hx := g1 0 x (by omega) (by simp)
        rw [List.take_succ_cons, List.foldl_cons, List.foldl_cons, ih i _ (fun q y hq hy => g1 (q + 1) y (by omega) (by simpa using hy)) (fun q y hq hy => g2 (q + 1) y (by omega) (by simpa using hy))]
        congr 1
        by_cases hn : x.Node = n
        · rw [if_pos ⟨hn, hx⟩, if_pos hn]
        · rw [if_neg (fun h => hn h.1), if_neg hn]
  exact key l j false h1 h2
end Go.Gk
