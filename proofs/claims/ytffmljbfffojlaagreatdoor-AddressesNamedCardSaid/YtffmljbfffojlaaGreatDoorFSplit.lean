/-
  Names split at their dots; a row turned round; numbers out of texts.
-/
import Derived.Test.YtffmljbfffojlaaGreatDoorFBack
import Derived.Lib.SplitLaws
set_option linter.unusedVariables false
set_option linter.unusedSimpArgs false
set_option maxRecDepth 100000
namespace Go.Gk
theorem split_none {s : Str} (h : ∀ c ∈ s, c ≠ 46) : Lib.split s [46] = [s] := by
  unfold Lib.split
  rw [Lib.count_one, List.count_eq_zero_of_not_mem fun hm => h _ hm rfl]
  rfl
theorem indexB_dot : ∀ {x : Str} (t : Str), (∀ c ∈ x, c ≠ 46) → Lib.indexByte (x ++ 46 :: t) 46 = (x.length : Int)
  | [], t, _ => by simp [Lib.indexByte]
  | c :: x, t, h => by
    have h1 : (c == 46) = false := by simpa using h c List.mem_cons_self
    have ih := indexB_dot (x := x) t fun c hc => h c (List.mem_cons_of_mem _ hc)
    simp only [List.cons_append, Lib.indexByte, h1, ih, List.length_cons]
    rw [if_neg (by decide), if_neg (by simp)]
    omega
theorem split_dot {x : Str} (t : Str) (h : ∀ c ∈ x, c ≠ 46) : Lib.split (x ++ 46 :: t) [46] = x :: Lib.split t [46] := by
  unfold Lib.split
  rw [Lib.count_one, Lib.count_one, List.count_append, List.count_eq_zero_of_not_mem fun hm => h _ hm rfl, List.count_cons_self, Nat.zero_add]
  have e : Lib.index (x ++ 46 :: t) [46] = (x.length : Int) := by rw [Lib.index_one]; exact indexB_dot t h
  conv => lhs; unfold Lib.splitK
  rw [e, if_neg (by simp)]
  simp
theorem split_dots : ∀ {L : List Str} (t : Str), (∀ x ∈ L, ∀ c ∈ x, c ≠ 46) → Lib.split (dots L ++ t) [46] = L ++ Lib.split t [46]
  | [], t, _ => rfl
  | x :: L, t, h => by
    have e : dots (x :: L) ++ t = x ++ 46 :: (dots L ++ t) := by simp [dots]
    rw [e, split_dot _ (h x List.mem_cons_self), split_dots t fun y hy => h y (List.mem_cons_of_mem _ hy)]
    rfl
theorem split_join {L : List Str} (hn : L ≠ []) (h : ∀ x ∈ L, ∀ c ∈ x, c ≠ 46) : Lib.split (Lib.join L [46]) [46] = L := by
  have e := join_dots L hn []
  rw [← List.dropLast_concat_getLast hn] at e ⊢
  rw [dots_snoc] at e
  have e2 : Lib.join (L.dropLast ++ [L.getLast hn]) [46] = dots L.dropLast ++ L.getLast hn := by
    rw [List.append_nil, ← List.append_assoc] at e
    exact List.append_cancel_right e
  rw [e2, split_dots _ fun x hx => h x (List.dropLast_subset L hx), split_none (h _ (List.getLast_mem hn))]
/-- A row turned round. -/
theorem reverse_ok (s : List Str) (hl : s.length ≤ 300) : m_slices_Reverse_string_string 400 s = some s.reverse := by
  unfold m_slices_Reverse_string_string
  refine bi_loop (fun st => ∃ i : Nat, i ≤ s.length ∧ st.2.1 = (i : Int) ∧ st.2.2 = (s.length : Int) - 1 - i ∧ st.1.length = s.length ∧ ∀ k : Nat, k < s.length → st.1[k]? = if k < i ∨ s.length - i ≤ k then s.reverse[k]? else s[k]?) (fun st => (300 - st.2.1).toNat) (fun r => r = s.reverse) ?_ ⟨0, by omega, rfl, by simp only; rw [wi_id (by omega) (by omega)]; omega, rfl, fun k hk => by rw [if_neg (by omega)]⟩ (by simp) (by rintro r rfl; rfl)
  rintro ⟨l, a, b⟩ ⟨i, hi, h1, h2, h3, h4⟩
  simp only at h1 h2 h3 h4
  subst h1 h2
  simp only
  by_cases hc : (i : Int) < (s.length : Int) - 1 - i
  · rw [decide_eq_true hc]
    have hj : (s.length : Int) - 1 - i = ((s.length - 1 - i : Nat) : Int) := by omega
    have hjl : s.length - 1 - i < s.length := by omega
    have hil : i < s.length := by omega
    have g1 : l[s.length - 1 - i]? = some (s[s.length - 1 - i]) := by rw [h4 _ hjl, if_neg (by omega)]; simp [hjl]
    have g2 : l[i]? = some (s[i]) := by rw [h4 _ hil, if_neg (by omega)]; simp [hil]
    have g3 : ∃ z, (l.set i s[s.length - 1 - i])[s.length - 1 - i]? = some z := ⟨_, List.getElem?_eq_getElem (by rw [List.length_set]; omega)⟩
    obtain ⟨z, g3⟩ := g3
    refine .inr ⟨((l.set i s[s.length - 1 - i]).set (s.length - 1 - i) s[i], wi ((i : Int) + 1), wi ((s.length : Int) - 1 - i - 1)), ?_, ⟨i + 1, by omega, by simp only; rw [wi_id (by omega) (by omega)]; omega, by simp only; rw [wi_id (by omega) (by omega)]; omega, by simp [h3], fun k hk => ?_⟩, by simp only; rw [wi_id (by omega) (by omega)]; omega⟩
    · rw [hj]
      simp only [cond_true, getZ_cast, g1, g2, bi_some, Int.toNat_natCast, g3]
    · simp only [List.getElem?_set]
      by_cases k1 : s.length - 1 - i = k
      · subst k1
        rw [if_pos rfl, if_pos (by rw [List.length_set]; omega), if_pos (by omega), List.getElem?_reverse (by omega)]
        rw [show s.length - 1 - (s.length - 1 - i) = i by omega]
        simp [hil]
      · rw [if_neg k1]
        by_cases k2 : i = k
        · subst k2
          rw [if_pos rfl, if_pos (by omega), if_pos (by omega), List.getElem?_reverse (by omega)]
          simp [hjl]
        · rw [if_neg k2, h4 k hk]
          by_cases hq : k < i ∨ s.length - i ≤ k
          · rw [if_pos hq, if_pos (by omega)]
          · rw [if_neg hq, if_neg (by omega)]
  · rw [decide_eq_false hc]
    refine .inl ⟨l, rfl, List.ext_getElem? fun k => ?_⟩
    by_cases hk : k < s.length
    · rw [h4 k hk]
      by_cases hq : k < i ∨ s.length - i ≤ k
      · rw [if_pos hq]
      · rw [if_neg hq, List.getElem?_reverse hk]
        rw [show s.length - 1 - k = k by omega]
    · rw [List.getElem?_eq_none (by omega), List.getElem?_eq_none (by rw [List.length_reverse]; omega)]
theorem rangeI_at {σ ρ : Type} {f : Nat → σ → Option (LS σ ρ)} {n : Nat} {s : σ} (I : Nat → σ → Prop) (Q : ρ → Prop) (h0 : I 0 s) (step : ∀ (i : Nat) (s : σ), i < n → I i s → (∃ s', f i s = some (.go s') ∧ I (i + 1) s') ∨ ∃ r, f i s = some (.out r) ∧ Q r) :
    (∃ s', rangeI f (n : Int) s = some (.go s') ∧ I n s') ∨ ∃ r, rangeI f (n : Int) s = some (.out r) ∧ Q r := by
  have := rangeM_at (f := fun i (_ : Unit) s => f i s) (List.replicate n ()) I Q (fun i x s hx hi => step i s (by have := (List.getElem?_eq_some_iff.1 hx).1; simpa using this) hi) (List.replicate n ()) 0 s rfl h0
  simpa [rangeI] using this
/-! ### Numbers out of texts -/
theorem pu_hex : ∀ n : Fin 16, m_strconv_ParseUint [hexB n] 16 4 = some (some (n.val : Int)) := by decide +kernel
theorem pu_dec : ∀ n : Fin 256, m_strconv_ParseUint (Lib.decDigits n) 10 8 = some (some (n.val : Int)) := by decide +kernel
end Go.Gk
