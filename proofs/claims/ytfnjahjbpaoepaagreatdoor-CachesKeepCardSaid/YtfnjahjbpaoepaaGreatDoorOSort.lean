/-
  CachesKeep, the plain law: the reference's sort.
-/
import Derived.Test.YtfnjahjbpaoepaaGreatDoorOBase
set_option linter.unusedVariables false
set_option linter.unusedSimpArgs false
set_option linter.unusedSectionVars false
set_option maxRecDepth 100000
namespace Go.Gk
section
variable {α : Type} {lt : α → α → Bool}
structure Ord (lt : α → α → Bool) : Prop where
  sy : ∀ a b, lt a b = true → lt b a = false
  tr : ∀ a b c, lt a b = false → lt b c = false → lt a c = false
theorem swap_setG (A : List α) (p q : α) (X : List α) : ((A ++ p :: q :: X).set (A.length + 1) p).set A.length q = A ++ q :: p :: X := by
  rw [List.set_append_right _ _ (by omega), List.set_append_right _ _ (by omega)]
  simp
theorem insG_inner (O : Ord lt) {cmp : α → α → Option Int} (hcmp : ∀ x y, ∃ c, cmp x y = some c ∧ decide (c < 0) = lt x y) {f : (List α) × Int → Option (LS ((List α) × Int) (List α))}
    (hf : ∀ s13, f s13 = bi (bif decide ((s13.2 : Int) > 0) then (bi (getZ s13.1 s13.2) fun x25 => bi (getZ s13.1 (wi (s13.2 - 1))) fun x28 => bi (cmp x25 x28) fun y31 => some (decide ((y31 : Int) < 0))) else (some false)) fun q22 => bif q22 then (bi (getZ s13.1 (wi (s13.2 - 1))) fun x35 => bi (getZ s13.1 s13.2) fun x38 => bi (getZ s13.1 s13.2) fun x41 => bi (getZ s13.1 (wi (s13.2 - 1))) fun x44 => bi (getZ (s13.1.set s13.2.toNat x35) (((wi (s13.2 - 1)).toNat : Nat) : Int)) fun x47 => some (.go ((s13.1.set s13.2.toNat x35).set ((wi (s13.2 - 1)).toNat) x38, wi (s13.2 - 1)))) else (some (.out s13.1))) :
    ∀ (k : Nat) (A B C : List α) (q : α), (A ++ B).Pairwise (fun x y => lt y x = false) → (∀ b ∈ B, lt q b = true) → A.length < k → A.length ≤ 100 →
      ∃ D, loopM f k (A ++ q :: (B ++ C), (A.length : Int)) = some (D ++ C) ∧ D.Pairwise (fun x y => lt y x = false) ∧ D.length = A.length + 1 + B.length ∧ (D ++ C).Perm (A ++ q :: (B ++ C))
  | 0, A, B, C, q, _, _, h, _ => absurd h (Nat.not_lt_zero _)
  | k + 1, A, B, C, q, hp, hB, hk, hl => by
    have hq : (A ++ q :: (B ++ C))[A.length]? = some q := by simp
    unfold loopM
    rw [hf]
    by_cases hA : A = []
    · subst hA
      refine ⟨q :: B, by simp, ?_, by simp; omega, by simp⟩
      rw [List.pairwise_cons]
      exact ⟨fun b hb => O.sy _ _ (hB b hb), by simpa using hp⟩
    · obtain ⟨A', p, rfl⟩ : ∃ a x, A = a ++ [x] := ⟨A.dropLast, A.getLast hA, (List.dropLast_concat_getLast hA).symm⟩
      have hlen : (A' ++ [p]).length = A'.length + 1 := by simp
      have hpj : ((A' ++ [p]) ++ q :: (B ++ C))[A'.length]? = some p := by simp
      have hw : wi (((A' ++ [p]).length : Int) - 1) = (A'.length : Int) := by rw [hlen, wi_id (by omega) (by omega)]; omega
      have hst : (A' ++ [p]) ++ q :: (B ++ C) = A' ++ p :: q :: (B ++ C) := by simp
      simp only
      rw [decide_eq_true (show ((A' ++ [p]).length : Int) > 0 by rw [hlen]; omega)]
      obtain ⟨c, hc1, hc⟩ := hcmp q p
      simp only [cond_true, hw, getZ_cast, hq, hpj, bi_some, hc1]
      cases hlt : lt q p with
      | true =>
        rw [hc, hlt]
        simp only [cond_true, Int.toNat_natCast, bi_some]
        have e1 : (((A' ++ [p]) ++ q :: (B ++ C)).set (A' ++ [p]).length p)[A'.length]? = some p := by rw [List.getElem?_set_ne (by rw [hlen]; omega)]; exact hpj
        rw [e1]
        simp only [bi_some]
        rw [hlen, hst, swap_setG]
        obtain ⟨D, d1, d2, d3, d4⟩ := insG_inner O hcmp hf k A' (p :: B) C q (by simpa using hp) (fun b hb => by
          rcases List.mem_cons.1 hb with rfl | hb
          · exact hlt
          · exact hB b hb) (by omega) (by omega)
        refine ⟨D, d1, d2, by rw [d3]; simp; omega, d4.trans ?_⟩
        exact (List.Perm.swap p q (B ++ C)).append_left A'
      | false =>
        rw [hc, hlt]
        refine ⟨(A' ++ [p]) ++ q :: B, by simp, ?_, by simp; omega, by simp⟩
        rw [List.pairwise_append] at hp ⊢
        refine ⟨hp.1, ?_, fun x hx y hy => ?_⟩
        · rw [List.pairwise_cons]
          exact ⟨fun b hb => O.sy _ _ (hB b hb), hp.2.1⟩
        · rcases List.mem_cons.1 hy with rfl | hy
          · rcases List.mem_append.1 hx with hx | hx
            · exact O.tr _ _ _ hlt ((List.pairwise_append.1 hp.1).2.2 x hx p (by simp))
            · simp only [List.mem_singleton] at hx
              subst hx; exact hlt
          · exact hp.2.2 x hx y hy
theorem insG_outer (O : Ord lt) {cmp : α → α → Option Int} (hcmp : ∀ x y, ∃ c, cmp x y = some c ∧ decide (c < 0) = lt x y) {f : (List α) × Int → Option (LS ((List α) × Int) (List α))}
    (hf : ∀ s13, f s13 = bi (bif decide ((s13.2 : Int) > 0) then (bi (getZ s13.1 s13.2) fun x25 => bi (getZ s13.1 (wi (s13.2 - 1))) fun x28 => bi (cmp x25 x28) fun y31 => some (decide ((y31 : Int) < 0))) else (some false)) fun q22 => bif q22 then (bi (getZ s13.1 (wi (s13.2 - 1))) fun x35 => bi (getZ s13.1 s13.2) fun x38 => bi (getZ s13.1 s13.2) fun x41 => bi (getZ s13.1 (wi (s13.2 - 1))) fun x44 => bi (getZ (s13.1.set s13.2.toNat x35) (((wi (s13.2 - 1)).toNat : Nat) : Int)) fun x47 => some (.go ((s13.1.set s13.2.toNat x35).set ((wi (s13.2 - 1)).toNat) x38, wi (s13.2 - 1)))) else (some (.out s13.1)))
    (n : Nat) (hn : n ≤ 100) (k1 : Nat) (hk1 : 200 ≤ k1) {f2 : (List α) × Int → Option (LS ((List α) × Int) (List α))}
    (hf2 : ∀ s2, f2 s2 = bif decide ((s2.2 : Int) < (n : Int)) then (bi (loopM f k1 (s2.1, s2.2)) fun q15 => some (.go (q15, wi (s2.2 + 1)))) else (some (.out s2.1))) :
    ∀ (k : Nat) (S C : List α), S.Pairwise (fun x y => lt y x = false) → (S ++ C).length = n → C.length < k →
      ∃ m, loopM f2 k (S ++ C, (S.length : Int)) = some m ∧ m.Pairwise (fun x y => lt y x = false) ∧ m.length = n ∧ m.Perm (S ++ C)
  | 0, S, C, _, _, h => absurd h (Nat.not_lt_zero _)
  | k + 1, S, C, hS, hl, hk => by
    unfold loopM
    rw [hf2]
    cases C with
    | nil =>
      simp only [List.append_nil] at hl ⊢
      rw [decide_eq_false (show ¬ (S.length : Int) < (n : Int) by omega)]
      exact ⟨S, rfl, hS, hl, .refl _⟩
    | cons q C =>
      have hl' : S.length + (C.length + 1) = n := by simpa using hl
      simp only
      rw [decide_eq_true (show (S.length : Int) < (n : Int) by omega)]
      obtain ⟨D, d1, d2, d3, d4⟩ := insG_inner O hcmp hf k1 S [] C q (by simpa using hS) (fun b hb => by cases hb) (by omega) (by omega)
      simp only [List.nil_append] at d1 d4
      simp only [List.length_nil, Nat.add_zero] at d3
      simp only [cond_true, d1, bi_some]
      have hw : wi ((S.length : Int) + 1) = (D.length : Int) := by rw [wi_id (by omega) (by omega), d3]; omega
      rw [hw]
      obtain ⟨m, m1, m2, m3, m4⟩ := insG_outer O hcmp hf n hn k1 hk1 hf2 k D C d2 (by simp; omega) (by simp at hk; omega)
      exact ⟨m, m1, m2, m3, m4.trans d4⟩
end
theorem bits_some : ∀ n : Nat, n < 13 → (m_math_bits_Len (IntKind.u64.wrap (n : Int))).isSome = true := by decide +kernel
def usL (a b : T_laneref1_kept) : Bool := decide (a.used < b.used)
theorem usL_ord : Ord usL := ⟨fun a b h => by simp only [usL, decide_eq_true_eq, decide_eq_false_iff_not] at *; omega, fun a b c h1 h2 => by simp only [usL, decide_eq_false_iff_not] at *; omega⟩
theorem put2_ok (a b : T_laneref1_kept) : ∃ c, m_laneref1_Cache_Put_2 a b = some c ∧ decide (c < 0) = usL a b := by
  refine ⟨cmpI a.used b.used, by unfold m_laneref1_Cache_Put_2; rw [cmpInt_ok]; rfl, ?_⟩
  unfold cmpI usL
  by_cases h1 : a.used < b.used
  · simp [h1]
  · by_cases h2 : a.used > b.used <;> simp [h1, h2]
theorem ins_ok (x : List T_laneref1_kept) (hx : x.length ≤ 12) : ∃ r, m_slices_insertionSortCmpFunc_laneref1_kept 400 x 0 (x.length : Int) = some r ∧ r.Pairwise (fun a b => usL b a = false) ∧ r.Perm x := by
  unfold m_slices_insertionSortCmpFunc_laneref1_kept
  cases x with
  | nil =>
    refine ⟨[], ?_, List.Pairwise.nil, .refl _⟩
    rw [bi_eq (loopM_out (k := 399) ([] : List T_laneref1_kept) rfl)]
  | cons a x =>
    obtain ⟨m, m1, m2, m3, m4⟩ := insG_outer usL_ord put2_ok (fun _ => rfl) (a :: x).length (by omega) 400 (by omega) (fun _ => rfl) 400 [a] x (by simp) (by simp) (by simp only [List.length_cons] at hx; omega)
    refine ⟨m, ?_, m2, m4⟩
    rw [show wi ((0 : Int) + 1) = (([a] : List T_laneref1_kept).length : Int) from rfl]
    simp only [List.singleton_append] at m1
    rw [bi_eq m1]
theorem sort_ok (x : List T_laneref1_kept) (hx : x.length ≤ 12) : ∃ r, m_slices_SortFunc_laneref1_kept_laneref1_kept 400 x = some r ∧ r.Pairwise (fun a b => usL b a = false) ∧ r.Perm x := by
  obtain ⟨y, hy⟩ := Option.isSome_iff_exists.1 (bits_some x.length (by omega))
  obtain ⟨r, h1, h2, h3⟩ := ins_ok x hx
  refine ⟨r, ?_, h2, h3⟩
  unfold m_slices_SortFunc_laneref1_kept_laneref1_kept
  rw [hy, bi_some]
  have hp : m_slices_pdqsortCmpFunc_laneref1_kept 400 x 0 (x.length : Int) y = some r := by
    unfold m_slices_pdqsortCmpFunc_laneref1_kept
    rw [bi_eq (loopM_out (k := 399) r ?_)]
    rw [decide_eq_true (show wi ((x.length : Int) - 0) ≤ 12 by rw [wi_id (by omega) (by omega)]; omega), cond_true, h1]
    rfl
  rw [bi_eq hp]
end Go.Gk
