/-
  A stable sort (blocks sorted by insertion, then merged in place): the list comes out sorted, whatever its length.
-/
import Derived.Test.YtffmljbfffojlaaGreatDoorGk49
set_option linter.unusedVariables false
set_option linter.unusedSimpArgs false
set_option linter.unusedSectionVars false
set_option maxRecDepth 100000
namespace Go.Gk
section
variable {α : Type}
theorem wiN {n : Nat} (h : n ≤ 4611686018427387904) : wi (n : Int) = (n : Int) := w64 (by omega)
theorem halfN {n : Nat} (h : n ≤ 4611686018427387904) : wi (shrV .u64 (IntKind.u64.wrap (wi (n : Int))) 1) = ((n / 2 : Nat) : Int) := by
  rw [wiN h, show IntKind.u64.wrap (n : Int) = n from by rw [IntKind.wrap_u64]; omega]
  unfold shrV
  rw [show min 1 IntKind.u64.bits = 1 from rfl, Int.fdiv_eq_ediv_of_nonneg _ (by decide), show ((n : Int) / 2 ^ 1) = ((n / 2 : Nat) : Int) by omega, wiN (by omega)]
theorem set_two (P R S : List α) (x y : α) : ((P ++ x :: (R ++ y :: S)).set P.length y).set (P.length + 1 + R.length) x = P ++ y :: (R ++ x :: S) := by
  rw [List.set_append_right _ _ (by omega), List.set_append_right _ _ (by omega)]
  simp only [Nat.sub_self, List.set_cons_zero, show P.length + 1 + R.length - P.length = R.length + 1 by omega, List.set_cons_succ]
  rw [List.set_append_right _ _ (by omega)]
  simp
theorem get_fst (P R : List α) (x : α) : (P ++ x :: R)[P.length]? = some x := by simp
theorem get_snd (P R S : List α) (x y : α) : (P ++ x :: (R ++ y :: S))[P.length + 1 + R.length]? = some y := by
  rw [List.getElem?_append_right (by omega)]
  simp only [show P.length + 1 + R.length - P.length = R.length + 1 by omega, List.getElem?_cons_succ]
  rw [List.getElem?_append_right (by omega)]
  simp
/-! ### Two ranges change places -/
def gSwp (k : Nat) (data : List α) (a : Int) (b : Int) (n : Int) : Option (List α) :=
  bi (loopM (σ := (List α) × Int) (ρ := List α) (fun s2 => bif decide ((s2.2 : Int) < n) then (bi (getZ s2.1 (wi (b + s2.2))) fun x12 => bi (getZ s2.1 (wi (a + s2.2))) fun x15 => bi (getZ s2.1 (wi (a + s2.2))) fun x18 => bi (getZ s2.1 (wi (b + s2.2))) fun x21 => bi (getZ (s2.1.set ((wi (a + s2.2)).toNat) x12) (((wi (b + s2.2)).toNat : Nat) : Int)) fun x24 => some (.go ((s2.1.set ((wi (a + s2.2)).toNat) x12).set ((wi (b + s2.2)).toNat) x15, wi (s2.2 + 1)))) else (some (.out s2.1))) k (data, 0)) fun q4 => some q4
theorem swp_loop (a b n : Nat) (hb : b + n ≤ 1000000) (ha : a + n ≤ 1000000) : ∀ (X Y : List α) (k : Nat) (P M Q : List α) (i : Nat), X.length + i = n → Y.length + i = n → X.length < k → P.length = a + i → P.length + X.length + M.length = b + i →
    loopM (σ := (List α) × Int) (ρ := List α) (fun s2 => bif decide ((s2.2 : Int) < (n : Int)) then (bi (getZ s2.1 (wi ((b : Int) + s2.2))) fun x12 => bi (getZ s2.1 (wi ((a : Int) + s2.2))) fun x15 => bi (getZ s2.1 (wi ((a : Int) + s2.2))) fun x18 => bi (getZ s2.1 (wi ((b : Int) + s2.2))) fun x21 => bi (getZ (s2.1.set ((wi ((a : Int) + s2.2)).toNat) x12) (((wi ((b : Int) + s2.2)).toNat : Nat) : Int)) fun x24 => some (.go ((s2.1.set ((wi ((a : Int) + s2.2)).toNat) x12).set ((wi ((b : Int) + s2.2)).toNat) x15, wi (s2.2 + 1)))) else (some (.out s2.1))) k (P ++ (X ++ (M ++ (Y ++ Q))), (i : Int)) = some (P ++ (Y ++ (M ++ (X ++ Q))))
  | [], Y, 0, P, M, Q, i, h1, h2, h3, h4, h5 => absurd h3 (Nat.not_lt_zero _)
  | x :: X, Y, 0, P, M, Q, i, h1, h2, h3, h4, h5 => absurd h3 (Nat.not_lt_zero _)
  | [], Y, k + 1, P, M, Q, i, h1, h2, h3, h4, h5 => by
    simp only [List.length_nil] at h1
    obtain rfl : Y = [] := List.eq_nil_of_length_eq_zero (by omega)
    unfold loopM
    simp only
    rw [decide_eq_false (by omega)]
    rfl
  | x :: X, Y, k + 1, P, M, Q, i, h1, h2, h3, h4, h5 => by
    simp only [List.length_cons] at h1 h3 h5
    cases Y with
    | nil => simp only [List.length_nil] at h2; omega
    | cons y Y =>
      simp only [List.length_cons] at h2
      have e0 : P ++ ((x :: X) ++ (M ++ ((y :: Y) ++ Q))) = P ++ x :: ((X ++ M) ++ y :: (Y ++ Q)) := by simp
      have wa : wi ((a : Int) + (i : Int)) = (P.length : Int) := by rw [show (a : Int) + (i : Int) = ((a + i : Nat) : Int) by omega, wiN (by omega), h4]
      have wb : wi ((b : Int) + (i : Int)) = ((P.length + 1 + (X ++ M).length : Nat) : Int) := by rw [show (b : Int) + (i : Int) = ((b + i : Nat) : Int) by omega, wiN (by omega), List.length_append]; omega
      unfold loopM
      simp only
      rw [decide_eq_true (show (i : Int) < (n : Int) by omega), e0, wa, wb]
      simp only [cond_true, getZ_cast, get_fst, get_snd, bi_some, Int.toNat_natCast]
      have e1 : ((P ++ x :: ((X ++ M) ++ y :: (Y ++ Q))).set P.length y)[P.length + 1 + (X ++ M).length]? = some y := by
        rw [List.getElem?_set_ne (by omega)]; exact get_snd _ _ _ _ _
      rw [e1]
      simp only [bi_some]
      rw [set_two, show wi ((i : Int) + 1) = ((i + 1 : Nat) : Int) by rw [show (i : Int) + 1 = ((i + 1 : Nat) : Int) by omega, wiN (by omega)]]
      have := swp_loop a b n hb ha X Y k (P ++ [y]) (M ++ [x]) Q (i + 1) (by omega) (by omega) (by omega) (by simp; omega) (by simp; omega)
      rw [show P ++ y :: ((X ++ M) ++ x :: (Y ++ Q)) = (P ++ [y]) ++ (X ++ ((M ++ [x]) ++ (Y ++ Q))) by simp]
      refine Eq.trans ?_ (show some ((P ++ [y]) ++ (Y ++ ((M ++ [x]) ++ (X ++ Q)))) = some (P ++ ((y :: Y) ++ (M ++ ((x :: X) ++ Q)))) by simp)
      exact this
theorem swp_ok (k : Nat) (P X M Y Q : List α) (h : X.length = Y.length) (hk : X.length < k) (hl : (P ++ (X ++ (M ++ (Y ++ Q)))).length ≤ 100000) :
    gSwp k (P ++ (X ++ (M ++ (Y ++ Q)))) (P.length : Int) ((P.length + X.length + M.length : Nat) : Int) (X.length : Int) = some (P ++ (Y ++ (M ++ (X ++ Q)))) := by
  simp only [List.length_append] at hl
  unfold gSwp
  have := swp_loop P.length (P.length + X.length + M.length) X.length (by omega) (by omega) X Y k P M Q 0 (by omega) (by omega) hk (by omega) (by omega)
  rw [show ((0 : Nat) : Int) = 0 from rfl] at this
  rw [this]
  rfl
/-! ### Two neighbours change places -/
def gRot (k : Nat) (data : List α) (a : Int) (m : Int) (b : Int) : Option (List α) :=
  bi (loopM (σ := (List α) × Int × Int) (ρ := (List α) × Int) (fun s2 => bif (s2.2.1 : Int) != s2.2.2 then (bif decide ((s2.2.1 : Int) > s2.2.2) then (bi (gSwp k s2.1 (wi (m - s2.2.1)) m s2.2.2) fun y13 => gd (decide (y13.length = s2.1.length)) (some (.go (y13, wi (s2.2.1 - s2.2.2), s2.2.2)))) else (bi (gSwp k s2.1 (wi (m - s2.2.1)) (wi ((wi (m + s2.2.2)) - s2.2.1)) s2.2.1) fun y18 => gd (decide (y18.length = s2.1.length)) (some (.go (y18, s2.2.1, wi (s2.2.2 - s2.2.1)))))) else (some (.out (s2.1, s2.2.1)))) k (data, wi (m - a), wi (b - m))) fun q4 => bi (gSwp k q4.1 (wi (m - q4.2)) m q4.2) fun y23 => some y23
theorem gd_len {β : Type} {a b : List α} (h : a.length = b.length) (x : Option β) : gd (decide (a.length = b.length)) x = x := by rw [decide_eq_true h]; rfl
theorem rot_loop (k0 m : Nat) (hm : m ≤ 100000) : ∀ (k i j : Nat) (X Y P R : List α), X.length = i → Y.length = j → 0 < i → 0 < j → P.length + i = m → i + j ≤ k → (P ++ (X ++ (Y ++ R))).length ≤ 100000 → i + j < k0 →
    ∃ (P' X' Y' R' : List α), loopM (σ := (List α) × Int × Int) (ρ := (List α) × Int) (fun s2 => bif (s2.2.1 : Int) != s2.2.2 then (bif decide ((s2.2.1 : Int) > s2.2.2) then (bi (gSwp k0 s2.1 (wi ((m : Int) - s2.2.1)) (m : Int) s2.2.2) fun y13 => gd (decide (y13.length = s2.1.length)) (some (.go (y13, wi (s2.2.1 - s2.2.2), s2.2.2)))) else (bi (gSwp k0 s2.1 (wi ((m : Int) - s2.2.1)) (wi ((wi ((m : Int) + s2.2.2)) - s2.2.1)) s2.2.1) fun y18 => gd (decide (y18.length = s2.1.length)) (some (.go (y18, s2.2.1, wi (s2.2.2 - s2.2.1)))))) else (some (.out (s2.1, s2.2.1)))) k (P ++ (X ++ (Y ++ R)), (i : Int), (j : Int)) = some (P' ++ (X' ++ (Y' ++ R')), (X'.length : Int)) ∧
      X'.length = Y'.length ∧ P'.length + X'.length = m ∧ P' ++ (Y' ++ (X' ++ R')) = P ++ (Y ++ (X ++ R)) ∧ X'.length ≤ i
  | 0, i, j, X, Y, P, R, h1, h2, h3, h4, h5, h6, h7, h8 => by omega
  | k + 1, i, j, X, Y, P, R, h1, h2, h3, h4, h5, h6, h7, h8 => by
    have hl := h7
    simp only [List.length_append] at hl
    unfold loopM
    simp only
    have w1 : wi ((m : Int) - (i : Int)) = (P.length : Int) := by rw [show (m : Int) - (i : Int) = ((P.length : Nat) : Int) by omega, wiN (by omega)]
    by_cases hij : i = j
    · have : ((i : Int) != (j : Int)) = false := by rw [hij]; simp
      rw [this]
      exact ⟨P, X, Y, R, by rw [h1]; rfl, by omega, by omega, rfl, by omega⟩
    · have : ((i : Int) != (j : Int)) = true := by simp; omega
      rw [this]
      simp only [cond_true]
      by_cases hgt : j < i
      · rw [decide_eq_true (show (i : Int) > (j : Int) by omega)]
        simp only [cond_true]
        -- X = X1 ++ X2, as many in X1 as in Y
        obtain ⟨X1, X2, rfl, hx1⟩ : ∃ X1 X2, X = X1 ++ X2 ∧ X1.length = j := ⟨X.take j, X.drop j, (List.take_append_drop _ _).symm, by rw [List.length_take]; omega⟩
        simp only [List.length_append] at h1 hl
        have hs := swp_ok k0 P X1 X2 Y R (by omega) (by omega) (by simp only [List.length_append]; omega)
        rw [show P.length + X1.length + X2.length = m by omega, hx1] at hs
        rw [w1, show P ++ ((X1 ++ X2) ++ (Y ++ R)) = P ++ (X1 ++ (X2 ++ (Y ++ R))) by simp, hs]
        simp only [bi_some]
        rw [gd_len (by simp only [List.length_append]; omega)]
        simp only
        rw [show wi ((i : Int) - (j : Int)) = ((i - j : Nat) : Int) by rw [show (i : Int) - (j : Int) = ((i - j : Nat) : Int) by omega, wiN (by omega)]]
        obtain ⟨P', X', Y', R', e1, e2, e3, e4, e5⟩ := rot_loop k0 m hm k (i - j) j X2 X1 (P ++ Y) R (by omega) (by omega) (by omega) (by omega) (by simp only [List.length_append]; omega) (by omega) (by simp only [List.length_append]; omega) (by omega)
        refine ⟨P', X', Y', R', ?_, e2, e3, ?_, by omega⟩
        · rw [← e1]; simp
        · rw [e4]; simp
      · rw [decide_eq_false (show ¬ (i : Int) > (j : Int) by omega)]
        simp only [cond_false]
        obtain ⟨Y1, Y2, rfl, hy2⟩ : ∃ Y1 Y2, Y = Y1 ++ Y2 ∧ Y2.length = i := ⟨Y.take (j - i), Y.drop (j - i), (List.take_append_drop _ _).symm, by rw [List.length_drop]; omega⟩
        simp only [List.length_append] at h2 hl
        have hs := swp_ok k0 P X Y1 Y2 R (by omega) (by omega) (by simp only [List.length_append]; omega)
        rw [show P.length + X.length + Y1.length = m + j - i by omega, h1] at hs
        rw [w1, show wi ((m : Int) + (j : Int)) = ((m + j : Nat) : Int) by rw [show (m : Int) + (j : Int) = ((m + j : Nat) : Int) by omega, wiN (by omega)], show wi (((m + j : Nat) : Int) - (i : Int)) = ((m + j - i : Nat) : Int) by rw [show ((m + j : Nat) : Int) - (i : Int) = ((m + j - i : Nat) : Int) by omega, wiN (by omega)],
          show P ++ (X ++ ((Y1 ++ Y2) ++ R)) = P ++ (X ++ (Y1 ++ (Y2 ++ R))) by simp, hs]
        simp only [bi_some]
        rw [gd_len (by simp only [List.length_append]; omega)]
        simp only
        rw [show wi ((j : Int) - (i : Int)) = ((j - i : Nat) : Int) by rw [show (j : Int) - (i : Int) = ((j - i : Nat) : Int) by omega, wiN (by omega)]]
        obtain ⟨P', X', Y', R', e1, e2, e3, e4, e5⟩ := rot_loop k0 m hm k i (j - i) Y2 Y1 P (X ++ R) (by omega) (by omega) (by omega) (by omega) (by omega) (by omega) (by simp only [List.length_append]; omega) (by omega)
        refine ⟨P', X', Y', R', ?_, e2, e3, ?_, e5⟩
        · rw [← e1]
        · rw [e4]; simp
theorem rot_ok (k : Nat) (P X Y R : List α) (hx : 0 < X.length) (hy : 0 < Y.length) (hk : X.length + Y.length < k) (hl : (P ++ (X ++ (Y ++ R))).length ≤ 100000) :
    gRot k (P ++ (X ++ (Y ++ R))) (P.length : Int) ((P.length + X.length : Nat) : Int) ((P.length + X.length + Y.length : Nat) : Int) = some (P ++ (Y ++ (X ++ R))) := by
  have hl' := hl
  simp only [List.length_append] at hl'
  unfold gRot
  obtain ⟨P', X', Y', R', e1, e2, e3, e4, e5⟩ := rot_loop k (P.length + X.length) (by omega) k X.length Y.length X Y P R rfl rfl hx hy rfl (by omega) hl hk
  rw [show wi (((P.length + X.length : Nat) : Int) - (P.length : Int)) = (X.length : Int) by rw [show ((P.length + X.length : Nat) : Int) - (P.length : Int) = (X.length : Int) by omega, wiN (by omega)],
    show wi (((P.length + X.length + Y.length : Nat) : Int) - ((P.length + X.length : Nat) : Int)) = (Y.length : Int) by rw [show ((P.length + X.length + Y.length : Nat) : Int) - ((P.length + X.length : Nat) : Int) = (Y.length : Int) by omega, wiN (by omega)], e1]
  simp only [bi_some]
  have hlen : (P' ++ (Y' ++ (X' ++ R'))).length ≤ 100000 := by rw [e4]; simp only [List.length_append]; omega
  simp only [List.length_append] at hlen
  have hs := swp_ok k P' X' [] Y' R' e2 (by omega) (by simp only [List.length_append, List.length_nil]; omega)
  simp only [List.nil_append, List.length_nil, Nat.add_zero] at hs
  rw [show wi (((P.length + X.length : Nat) : Int) - (X'.length : Int)) = (P'.length : Int) by rw [show ((P.length + X.length : Nat) : Int) - (X'.length : Int) = (P'.length : Int) by omega, wiN (by omega)], ← e3, hs]
  simp only [bi_some]
  rw [e4]
end
end Go.Gk
