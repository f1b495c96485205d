/-
  A stable sort, part 3: two runs merged in place; the whole.
-/
import Derived.Test.YtffmljbfffojlaaGreatDoorEStab2
set_option linter.unusedVariables false
set_option linter.unusedSimpArgs false
set_option linter.unusedSectionVars false
set_option maxRecDepth 100000
namespace Go.Gk
open Go.Sort
section
variable {α : Type} {cmp : α → α → Option Int}
theorem loopM_ind {σ ρ : Type} {f : σ → Option (LS σ ρ)} (I : σ → Prop) (μ : σ → Nat) (Q : ρ → Prop) (step : ∀ s, I s → (∃ r, f s = some (.out r) ∧ Q r) ∨ (∃ s', f s = some (.go s') ∧ I s' ∧ μ s' < μ s)) :
    ∀ (k : Nat) (s : σ), I s → μ s < k → ∃ r, loopM f k s = some r ∧ Q r
  | 0, s, _, h => absurd h (Nat.not_lt_zero _)
  | k + 1, s, hs, h => by
    unfold loopM
    rcases step s hs with ⟨r, h1, h2⟩ | ⟨s', h1, h2, h3⟩
    · rw [h1]; exact ⟨r, rfl, h2⟩
    · rw [h1]; exact loopM_ind I μ Q step k s' h2 (by omega)
/-- A search by halves: t tells of each place whether the place sought lies behind it. -/
theorem halves {f : Int × Int → Option (LS (Int × Int) Int)} (lo hi : Nat) (hle : lo ≤ hi) (hhi : hi ≤ 1000000) (t : Nat → Bool)
    (hf : ∀ i j : Nat, lo ≤ i → i < j → j ≤ hi → f ((i : Int), (j : Int)) = some (.go (if t ((i + j) / 2) then ((((i + j) / 2 + 1 : Nat) : Int), (j : Int)) else ((i : Int), (((i + j) / 2 : Nat) : Int)))))
    (hf0 : ∀ i : Nat, f ((i : Int), (i : Int)) = some (.out (i : Int))) (k : Nat) (hk : hi - lo < k) :
    ∃ q : Nat, loopM f k ((lo : Int), (hi : Int)) = some (q : Int) ∧ lo ≤ q ∧ q ≤ hi ∧ (q = lo ∨ t (q - 1) = true) ∧ (q = hi ∨ t q = false) := by
  obtain ⟨r, h1, q, rfl, h2⟩ := loopM_ind (f := f) (fun s => ∃ i j : Nat, s = ((i : Int), (j : Int)) ∧ lo ≤ i ∧ i ≤ j ∧ j ≤ hi ∧ (i = lo ∨ t (i - 1) = true) ∧ (j = hi ∨ t j = false)) (fun s => (s.2 - s.1).toNat)
    (fun r => ∃ q : Nat, r = (q : Int) ∧ lo ≤ q ∧ q ≤ hi ∧ (q = lo ∨ t (q - 1) = true) ∧ (q = hi ∨ t q = false)) (fun s ⟨i, j, e, h1, h2, h3, h4, h5⟩ => by
      subst e
      by_cases hij : i = j
      · subst hij
        exact .inl ⟨_, hf0 i, i, rfl, h1, h3, h4, h5⟩
      · refine .inr ⟨_, hf i j h1 (by omega) h3, ?_, ?_⟩
        · by_cases ht : t ((i + j) / 2) = true
          · rw [if_pos ht]
            exact ⟨(i + j) / 2 + 1, j, rfl, by omega, by omega, h3, .inr (by rw [Nat.add_sub_cancel]; exact ht), h5⟩
          · rw [if_neg ht]
            exact ⟨i, (i + j) / 2, rfl, h1, by omega, by omega, h4, .inr (by simpa using ht)⟩
        · by_cases ht : t ((i + j) / 2) = true
          · rw [if_pos ht]; simp only; omega
          · rw [if_neg ht]; simp only; omega) k ((lo : Int), (hi : Int)) ⟨lo, hi, rfl, Nat.le_refl _, hle, Nat.le_refl _, .inl rfl, .inl rfl⟩ (by simp only; omega)
  exact ⟨q, h1, h2⟩
/-- An element goes behind those that follow it, step by step. -/
theorem bub_up {f : (List α) × Int → Option (LS ((List α) × Int) (List α))} (e : Nat) (he : e ≤ 100000)
    (hf : ∀ s25, f s25 = bif decide ((s25.2 : Int) < (e : Int)) then (bi (getZ s25.1 (wi (s25.2 + 1))) fun x35 => bi (getZ s25.1 s25.2) fun x38 => bi (getZ s25.1 s25.2) fun x41 => bi (getZ s25.1 (wi (s25.2 + 1))) fun x44 => bi (getZ (s25.1.set s25.2.toNat x35) (((wi (s25.2 + 1)).toNat : Nat) : Int)) fun x47 => some (.go ((s25.1.set s25.2.toNat x35).set ((wi (s25.2 + 1)).toNat) x38, wi (s25.2 + 1)))) else (some (.out s25.1))) :
    ∀ (W : List α) (k : Nat) (P R : List α) (u : α), P.length + W.length = e → W.length < k → loopM f k (P ++ u :: (W ++ R), (P.length : Int)) = some (P ++ (W ++ u :: R))
  | [], 0, P, R, u, h1, h2 => absurd h2 (Nat.not_lt_zero _)
  | w :: W, 0, P, R, u, h1, h2 => absurd h2 (Nat.not_lt_zero _)
  | [], k + 1, P, R, u, h1, h2 => by
    simp only [List.length_nil, Nat.add_zero] at h1
    unfold loopM
    rw [hf]
    simp only
    rw [decide_eq_false (by omega)]
    rfl
  | w :: W, k + 1, P, R, u, h1, h2 => by
    simp only [List.length_cons] at h1 h2
    have g1 : (P ++ u :: ((w :: W) ++ R))[P.length]? = some u := by simp
    have g2 : (P ++ u :: ((w :: W) ++ R))[P.length + 1]? = some w := by rw [List.getElem?_append_right (by omega)]; simp
    have hw : wi ((P.length : Int) + 1) = ((P.length + 1 : Nat) : Int) := by rw [show (P.length : Int) + 1 = ((P.length + 1 : Nat) : Int) by omega, wiN (by omega)]
    unfold loopM
    rw [hf]
    simp only
    rw [decide_eq_true (show (P.length : Int) < (e : Int) by omega), hw]
    simp only [cond_true, getZ_cast, g1, g2, bi_some, Int.toNat_natCast]
    have g3 : ((P ++ u :: ((w :: W) ++ R)).set P.length w)[P.length + 1]? = some w := by rw [List.getElem?_set_ne (by omega)]; exact g2
    rw [g3]
    simp only [bi_some]
    have e1 : ((P ++ u :: ((w :: W) ++ R)).set P.length w).set (P.length + 1) u = (P ++ [w]) ++ u :: (W ++ R) := by
      rw [List.set_append_right _ _ (by omega), List.set_append_right _ _ (by omega)]
      simp
    rw [e1]
    have := bub_up e he hf W k (P ++ [w]) R u (by simp; omega) (by omega)
    rw [show ((P ++ [w]).length : Int) = ((P.length + 1 : Nat) : Int) by simp] at this
    rw [this]
    simp
/-- An element goes ahead of those before it. -/
theorem bub_down {f : (List α) × Int → Option (LS ((List α) × Int) (List α))} (P : List α) (hP : P.length ≤ 100000)
    (hf : ∀ s76, f s76 = bif decide ((s76.2 : Int) > (P.length : Int)) then (bi (getZ s76.1 (wi (s76.2 - 1))) fun x86 => bi (getZ s76.1 s76.2) fun x89 => bi (getZ s76.1 s76.2) fun x92 => bi (getZ s76.1 (wi (s76.2 - 1))) fun x95 => bi (getZ (s76.1.set s76.2.toNat x86) (((wi (s76.2 - 1)).toNat : Nat) : Int)) fun x98 => some (.go ((s76.1.set s76.2.toNat x86).set ((wi (s76.2 - 1)).toNat) x89, wi (s76.2 - 1)))) else (some (.out s76.1))) :
    ∀ (n k : Nat) (W R : List α) (v : α), W.length = n → n < k → n ≤ 100000 → loopM f k (P ++ (W ++ v :: R), ((P.length + W.length : Nat) : Int)) = some (P ++ (v :: (W ++ R)))
  | n, 0, W, R, v, _, h, _ => absurd h (Nat.not_lt_zero _)
  | 0, k + 1, W, R, v, h, _, _ => by
    obtain rfl := List.eq_nil_of_length_eq_zero h
    unfold loopM
    rw [hf]
    simp only [List.length_nil, Nat.add_zero]
    rw [decide_eq_false (by omega)]
    rfl
  | n + 1, k + 1, W, R, v, h, h2, h3 => by
    obtain ⟨W', w, rfl⟩ : ∃ a x, W = a ++ [x] := ⟨W.dropLast, W.getLast (by rintro rfl; cases h), (List.dropLast_concat_getLast (by rintro rfl; cases h)).symm⟩
    have hl : W'.length = n := by simpa using h
    have hst : P ++ ((W' ++ [w]) ++ v :: R) = (P ++ W') ++ w :: v :: R := by simp
    have g1 : (P ++ ((W' ++ [w]) ++ v :: R))[(P ++ W').length + 1]? = some v := by rw [hst, List.getElem?_append_right (by omega)]; simp
    have g2 : (P ++ ((W' ++ [w]) ++ v :: R))[(P ++ W').length]? = some w := by rw [hst]; simp
    have hn : P.length + (W' ++ [w]).length = (P ++ W').length + 1 := by simp; omega
    have hw : wi ((((P ++ W').length + 1 : Nat) : Int) - 1) = ((P ++ W').length : Int) := by
      rw [show (((P ++ W').length + 1 : Nat) : Int) - 1 = ((P ++ W').length : Int) by omega, wiN (by simp; omega)]
    unfold loopM
    rw [hf, hn]
    simp only
    rw [decide_eq_true (show (((P ++ W').length + 1 : Nat) : Int) > (P.length : Int) by simp; omega), hw]
    simp only [cond_true, getZ_cast, g1, g2, bi_some, Int.toNat_natCast]
    have g3 : ((P ++ ((W' ++ [w]) ++ v :: R)).set ((P ++ W').length + 1) w)[(P ++ W').length]? = some w := by rw [List.getElem?_set_ne (by omega)]; exact g2
    rw [g3]
    simp only [bi_some]
    rw [hst, swap_nb]
    have := bub_down P hP hf n k W' (w :: R) v hl (by omega) (by omega)
    rw [show ((P ++ W').length : Int) = ((P.length + W'.length : Nat) : Int) by simp, show (P ++ W') ++ v :: w :: R = P ++ (W' ++ v :: (w :: R)) by simp, this]
    simp
/-! ### Two runs merged -/
def gSym (cmp : α → α → Option Int) : Nat → (List α) → Int → Int → Int → Option (List α)
  | 0, _, _, _, _ => none
  | k + 1, data, a, m, b => bif (wi (m - a) : Int) == 1 then (bi (loopM (σ := Int × Int) (ρ := Int) (fun s3 => bif decide ((s3.1 : Int) < s3.2) then (bi (getZ data (wi (shrV .u64 (IntKind.u64.wrap (wi (s3.1 + s3.2))) 1))) fun x13 => bi (getZ data a) fun x16 => bi (cmp x13 x16) fun y19 => bif decide ((y19 : Int) < 0) then (some (.go (wi ((wi (shrV .u64 (IntKind.u64.wrap (wi (s3.1 + s3.2))) 1)) + 1), s3.2))) else (some (.go (s3.1, wi (shrV .u64 (IntKind.u64.wrap (wi (s3.1 + s3.2))) 1))))) else (some (.out s3.1))) k (m, b)) fun q5 => bi (loopM (σ := (List α) × Int) (ρ := List α) (fun s25 => bif decide ((s25.2 : Int) < (wi (q5 - 1))) then (bi (getZ s25.1 (wi (s25.2 + 1))) fun x35 => bi (getZ s25.1 s25.2) fun x38 => bi (getZ s25.1 s25.2) fun x41 => bi (getZ s25.1 (wi (s25.2 + 1))) fun x44 => bi (getZ (s25.1.set s25.2.toNat x35) (((wi (s25.2 + 1)).toNat : Nat) : Int)) fun x47 => some (.go ((s25.1.set s25.2.toNat x35).set ((wi (s25.2 + 1)).toNat) x38, wi (s25.2 + 1)))) else (some (.out s25.1))) k (data, a)) fun q27 => some q27) else (bif (wi (b - m) : Int) == 1 then (bi (loopM (σ := Int × Int) (ρ := Int) (fun s54 => bif decide ((s54.1 : Int) < s54.2) then (bi (getZ data m) fun x64 => bi (getZ data (wi (shrV .u64 (IntKind.u64.wrap (wi (s54.1 + s54.2))) 1))) fun x67 => bi (cmp x64 x67) fun y70 => bif !(decide ((y70 : Int) < 0)) then (some (.go (wi ((wi (shrV .u64 (IntKind.u64.wrap (wi (s54.1 + s54.2))) 1)) + 1), s54.2))) else (some (.go (s54.1, wi (shrV .u64 (IntKind.u64.wrap (wi (s54.1 + s54.2))) 1))))) else (some (.out s54.1))) k (a, m)) fun q56 => bi (loopM (σ := (List α) × Int) (ρ := List α) (fun s76 => bif decide ((s76.2 : Int) > q56) then (bi (getZ s76.1 (wi (s76.2 - 1))) fun x86 => bi (getZ s76.1 s76.2) fun x89 => bi (getZ s76.1 s76.2) fun x92 => bi (getZ s76.1 (wi (s76.2 - 1))) fun x95 => bi (getZ (s76.1.set s76.2.toNat x86) (((wi (s76.2 - 1)).toNat : Nat) : Int)) fun x98 => some (.go ((s76.1.set s76.2.toNat x86).set ((wi (s76.2 - 1)).toNat) x89, wi (s76.2 - 1)))) else (some (.out s76.1))) k (data, m)) fun q78 => some q78) else (bi (bif decide ((m : Int) > (wi (shrV .u64 (IntKind.u64.wrap (wi (a + b))) 1))) then (some (wi ((wi ((wi (shrV .u64 (IntKind.u64.wrap (wi (a + b))) 1)) + m)) - b), wi (shrV .u64 (IntKind.u64.wrap (wi (a + b))) 1))) else (some (a, m))) fun q103 => bi (loopM (σ := Int × Int) (ρ := Int) (fun s108 => bif decide ((s108.1 : Int) < s108.2) then (bi (getZ data (wi ((wi ((wi ((wi (shrV .u64 (IntKind.u64.wrap (wi (a + b))) 1)) + m)) - 1)) - (wi (shrV .u64 (IntKind.u64.wrap (wi (s108.1 + s108.2))) 1))))) fun x118 => bi (getZ data (wi (shrV .u64 (IntKind.u64.wrap (wi (s108.1 + s108.2))) 1))) fun x121 => bi (cmp x118 x121) fun y124 => bif !(decide ((y124 : Int) < 0)) then (some (.go (wi ((wi (shrV .u64 (IntKind.u64.wrap (wi (s108.1 + s108.2))) 1)) + 1), s108.2))) else (some (.go (s108.1, wi (shrV .u64 (IntKind.u64.wrap (wi (s108.1 + s108.2))) 1))))) else (some (.out s108.1))) k (q103.1, q103.2)) fun q110 => bi (bif ((decide ((q110 : Int) < m)) && (decide ((m : Int) < (wi ((wi ((wi (shrV .u64 (IntKind.u64.wrap (wi (a + b))) 1)) + m)) - q110))))) then (bi (gRot k data q110 m (wi ((wi ((wi (shrV .u64 (IntKind.u64.wrap (wi (a + b))) 1)) + m)) - q110))) fun y132 => gd (decide (y132.length = data.length)) (some y132)) else (some data)) fun q129 => bi (bif ((decide ((a : Int) < q110)) && (decide ((q110 : Int) < (wi (shrV .u64 (IntKind.u64.wrap (wi (a + b))) 1))))) then (bi (gSym cmp k q129 a q110 (wi (shrV .u64 (IntKind.u64.wrap (wi (a + b))) 1))) fun y140 => gd (decide (y140.length = q129.length)) (some y140)) else (some q129)) fun q137 => bif ((decide ((wi (shrV .u64 (IntKind.u64.wrap (wi (a + b))) 1) : Int) < (wi ((wi ((wi (shrV .u64 (IntKind.u64.wrap (wi (a + b))) 1)) + m)) - q110)))) && (decide ((wi ((wi ((wi (shrV .u64 (IntKind.u64.wrap (wi (a + b))) 1)) + m)) - q110) : Int) < b))) then (bi (gSym cmp k q137 (wi (shrV .u64 (IntKind.u64.wrap (wi (a + b))) 1)) (wi ((wi ((wi (shrV .u64 (IntKind.u64.wrap (wi (a + b))) 1)) + m)) - q110)) b) fun y146 => some y146) else (some q137)))
theorem wiE {x : Int} {n : Nat} (h : x = (n : Int)) (hn : n ≤ 4000000) : wi x = (n : Int) := by rw [h, wiN (by omega)]
theorem halfE (i j : Nat) (h : i + j ≤ 4000000) : wi (shrV .u64 (IntKind.u64.wrap (wi ((i : Int) + (j : Int)))) 1) = (((i + j) / 2 : Nat) : Int) := by
  rw [show (i : Int) + (j : Int) = ((i + j : Nat) : Int) by omega, halfN (by omega)]
/-- An element among two runs that are one: it is put between those that are less and the others. -/
theorem srt_mid (H : CmpOk cmp) {A B : List α} {u : α} (hs : Srt cmp (A ++ B)) (h1 : ∀ x ∈ A, ltO cmp u x = false) (h2 : ∀ x ∈ B, ltO cmp x u = false) : Srt cmp (A ++ u :: B) := by
  unfold Srt at hs ⊢
  rw [List.pairwise_append] at hs ⊢
  refine ⟨hs.1, List.pairwise_cons.2 ⟨h2, hs.2.1⟩, fun x hx y hy => ?_⟩
  rcases List.mem_cons.1 hy with rfl | hy
  · exact h1 x hx
  · exact hs.2.2 x hx y hy
/-- What holds of a run's last holds of all before it. -/
theorem srt_last (H : CmpOk cmp) {A : List α} (hs : Srt cmp A) {u z : α} (hz : A.getLast? = some z) (h : ltO cmp u z = false) : ∀ x ∈ A, ltO cmp u x = false := by
  obtain ⟨A', rfl⟩ : ∃ A', A = A' ++ [z] := by
    have hne : A ≠ [] := by rintro rfl; cases hz
    rw [List.getLast?_eq_some_getLast hne] at hz
    exact ⟨A.dropLast, by rw [← Option.some.inj hz, List.dropLast_concat_getLast]⟩
  unfold Srt at hs
  rw [List.pairwise_append] at hs
  intro x hx
  rcases List.mem_append.1 hx with hx | hx
  · exact H.swo.ntrans u z x h (hs.2.2 x hx z (by simp))
  · simp only [List.mem_singleton] at hx
    subst hx; exact h
/-- What holds of a run's first holds of all behind it. -/
theorem srt_head (H : CmpOk cmp) {A : List α} (hs : Srt cmp A) {u z : α} (hz : A.head? = some z) (h : ltO cmp z u = false) : ∀ x ∈ A, ltO cmp x u = false := by
  cases A with
  | nil => cases hz
  | cons a A =>
    cases hz
    unfold Srt at hs
    rw [List.pairwise_cons] at hs
    intro x hx
    rcases List.mem_cons.1 hx with rfl | hx
    · exact h
    · exact H.swo.ntrans x z u (hs.1 x hx) h
end
end Go.Gk
