/-
  The plain laws of routers: the routers of a prefix.
-/
import Derived.Test.YtnjnmkpgedkffaaGreatDoorWPick
set_option linter.unusedVariables false
set_option linter.unusedSimpArgs false
set_option linter.unusedSectionVars false
set_option maxRecDepth 100000
namespace Go.Gk
def ixZ {α : Type} (p : α → Bool) (l : List α) : Int := match l.findIdx? p with
  | some i => (i : Int)
  | none => -1
theorem ixZ_none {α : Type} {p : α → Bool} {l : List α} (h : l.any p = false) : ixZ p l = -1 := by
  unfold ixZ
  rw [List.findIdx?_eq_none_iff.2 (by simpa using h)]
theorem ixZ_some {α : Type} {p : α → Bool} {l : List α} (h : l.any p = true) : ∃ (i : Nat) (a : α), ixZ p l = (i : Int) ∧ l.findIdx? p = some i ∧ l[i]? = some a ∧ p a = true ∧ (l.take i).any p = false := by
  unfold ixZ
  cases hi : l.findIdx? p with
  | none =>
    rw [List.findIdx?_eq_none_iff] at hi
    rw [List.any_eq_true] at h
    obtain ⟨x, hx, hp⟩ := h
    rw [hi x hx] at hp; cases hp
  | some i =>
    obtain ⟨h1, h2, h3⟩ := List.findIdx?_eq_some_iff_getElem.1 hi
    refine ⟨i, l[i], rfl, rfl, List.getElem?_eq_getElem h1, h2, ?_⟩
    rw [List.any_eq_false]
    intro x hx
    obtain ⟨j, hj, e⟩ := List.getElem_of_mem hx
    rw [List.length_take] at hj
    rw [List.getElem_take] at e
    subst e
    have := h3 j (by omega)
    simpa using this
theorem ixZ_ge {α : Type} (p : α → Bool) (l : List α) : decide (ixZ p l ≥ 0) = l.any p := by
  cases h : l.any p with
  | false => rw [ixZ_none h]; rfl
  | true => obtain ⟨i, a, e, _⟩ := ixZ_some h; rw [e]; simp
theorem ixZ_lt {α : Type} (p : α → Bool) (l : List α) : decide (ixZ p l < 0) = !l.any p := by
  cases h : l.any p with
  | false => rw [ixZ_none h]; rfl
  | true => obtain ⟨i, a, e, _⟩ := ixZ_some h; rw [e]; simp
theorem rangeM_ix {α : Type} {f : Nat → α → Unit → Option (LS Unit Int)} (p : α → Bool) : ∀ (l : List α) (i : Nat), (∀ (j : Nat) x, l[j]? = some x → f (i + j) x () = some (if p x then .out ((i + j : Nat) : Int) else .go ())) →
    rangeM f i l () = some (match l.findIdx? p with | some j => .out ((i + j : Nat) : Int) | none => .go ())
  | [], i, _ => rfl
  | x :: l, i, h => by
    have h0 := h 0 x (by simp)
    have ih := rangeM_ix p l (i + 1) fun j y hy => by rw [show i + 1 + j = i + (j + 1) by omega]; exact h (j + 1) y (by simpa using hy)
    rw [Nat.add_zero] at h0
    simp only [rangeM, h0, List.findIdx?_cons]
    by_cases hp : p x = true
    · simp [hp]
    · simp only [Bool.not_eq_true] at hp
      simp only [hp, Bool.false_eq_true, if_false, ih]
      cases l.findIdx? p with
      | none => rfl
      | some j => simp only [Option.map_some]; rw [show i + 1 + j = i + (j + 1) by omega]
theorem bi_rangeM_ix {α : Type} {f : Nat → α → Unit → Option (LS Unit Int)} (p : α → Bool) (l : List α) (h : ∀ (j : Nat) x, l[j]? = some x → f j x () = some (if p x then .out (j : Int) else .go ())) :
    (bi (rangeM f 0 l ()) fun q => goI q fun _ => some (-1)) = some (ixZ p l) := by
  rw [rangeM_ix p l 0 fun j x hx => by rw [Nat.zero_add]; exact h j x hx]
  unfold ixZ
  cases l.findIdx? p with
  | none => rfl
  | some j => simp
theorem bi_rangeI_ix {α : Type} {f : Nat → Unit → Option (LS Unit Int)} (p : α → Bool) (l : List α) (h : ∀ (j : Nat) x, l[j]? = some x → f j () = some (if p x then .out (j : Int) else .go ())) :
    (bi (rangeI f (l.length : Int) ()) fun q => goI q fun _ => some (-1)) = some (ixZ p l) := by
  rw [rangeI_L (g := fun j x _ => some (if p x then .out (j : Int) else .go ())) l (fun j x s hx => h j x hx)]
  exact bi_rangeM_ix p l fun j x hx => rfl
/-! ### What goes is taken out -/
theorem del_loop {α : Type} (p : α → Bool) (g : α → Option Bool) (s : List α) (hg : ∀ x ∈ s, g x = some (p x)) (hs : s.length ≤ 4294967296)
    {f : (List α) × Int × Int → Option (LS ((List α) × Int × Int) ((List α) × Int))}
    (hf : ∀ s6, f s6 = bif decide ((s6.2.2 : Int) < (s6.1.length : Int)) then (bi (getZ s6.1 s6.2.2) fun x16 => bi (g x16) fun y19 => bif !y19 then (bi (getZ s6.1 s6.2.1) fun x22 => some (.go (s6.1.set s6.2.1.toNat x16, wi (s6.2.1 + 1), wi (s6.2.2 + 1)))) else (some (.go (s6.1, s6.2.1, wi (s6.2.2 + 1))))) else (some (.out (s6.1, s6.2.1)))) :
    ∀ (k : Nat) (a : List α) (i j : Nat), i ≤ j → j ≤ s.length → a.length = s.length → a.drop j = s.drop j → a.take i = (s.take j).filter (fun x => !p x) → s.length - j < k →
      ∃ (a' : List α) (i' : Nat), loopM f k (a, (i : Int), (j : Int)) = some (a', (i' : Int)) ∧ i' ≤ a'.length ∧ a'.take i' = s.filter (fun x => !p x)
  | 0, a, i, j, _, _, _, _, _, h => absurd h (Nat.not_lt_zero _)
  | k + 1, a, i, j, h1, h2, h3, h4, h5, h6 => by
    unfold loopM
    rw [hf]
    by_cases hj : j < s.length
    · have haj : a[j]? = some s[j] := by
        have := congrArg (fun q => q[0]?) h4
        simpa [hj] using this
      have hw : wi ((j : Int) + 1) = ((j + 1 : Nat) : Int) := by rw [wi_id (by omega) (by omega)]; omega
      have hwi : wi ((i : Int) + 1) = ((i + 1 : Nat) : Int) := by rw [wi_id (by omega) (by omega)]; omega
      have hs1 : s.take (j + 1) = s.take j ++ [s[j]] := by rw [List.take_add_one, List.getElem?_eq_getElem hj]; rfl
      simp only
      rw [decide_eq_true (show (j : Int) < (a.length : Int) by omega)]
      simp only [cond_true, getZ_cast, haj, bi_some, hg _ (List.getElem_mem hj), hw, hwi, Int.toNat_natCast]
      cases hp : p s[j] with
      | true =>
        simp only [Bool.not_true, cond_false]
        refine del_loop p g s hg hs hf k a i (j + 1) (by omega) (by omega) h3 (by rw [← List.drop_drop, h4, List.drop_drop]) ?_ (by omega)
        rw [hs1, List.filter_append, h5]; simp [hp]
      | false =>
        have hai : a[i]? = some (a[i]'(by omega)) := List.getElem?_eq_getElem _
        simp only [Bool.not_false, cond_true, hai, bi_some]
        refine del_loop p g s hg hs hf k (a.set i s[j]) (i + 1) (j + 1) (by omega) (by omega) (by rw [List.length_set]; exact h3) ?_ ?_ (by omega)
        · rw [List.drop_set_of_lt (by omega), ← List.drop_drop, h4, List.drop_drop]
        · rw [hs1, List.filter_append, ← h5, List.take_add_one, List.getElem?_set_self (by omega), List.take_set_of_le (Nat.le_refl _)]
          simp [hp]
    · simp only
      rw [decide_eq_false (show ¬ (j : Int) < (a.length : Int) by omega)]
      refine ⟨a, i, rfl, by omega, ?_⟩
      rw [h5, List.take_of_length_le (by omega)]
theorem del_ok {α : Type} (p : α → Bool) (g : α → Option Bool) (s : List α) (k : Nat) (hg : ∀ x ∈ s, g x = some (p x)) (hs : s.length ≤ 4294967296) (hk : s.length < k) :
    (bif (ixZ p s : Int) == (-1) then (some s) else (bi (loopM (σ := (List α) × Int × Int) (ρ := (List α) × Int) (fun s6 => bif decide ((s6.2.2 : Int) < (s6.1.length : Int)) then (bi (getZ s6.1 s6.2.2) fun x16 => bi (g x16) fun y19 => bif !y19 then (bi (getZ s6.1 s6.2.1) fun x22 => some (.go (s6.1.set s6.2.1.toNat x16, wi (s6.2.1 + 1), wi (s6.2.2 + 1)))) else (some (.go (s6.1, s6.2.1, wi (s6.2.2 + 1))))) else (some (.out (s6.1, s6.2.1)))) k (s, ixZ p s, wi (ixZ p s + 1))) fun q8 => bi (subZ q8.1 q8.2 (q8.1.length : Int)) fun z27 => some (q8.1.take q8.2.toNat))) = some (s.filter fun x => !p x) := by
  cases h : s.any p with
  | false =>
    rw [ixZ_none h]
    have : s.filter (fun x => !p x) = s := List.filter_eq_self.2 fun x hx => by
      have := List.any_eq_false.1 h x hx
      simpa using this
    rw [this]; rfl
  | true =>
    obtain ⟨i, a, e, h1, h2, h3, h4⟩ := ixZ_some h
    have hi : i < s.length := (List.getElem?_eq_some_iff.1 h2).1
    rw [e, show (((i : Int) : Int) == (-1)) = false by simp]
    rw [show wi ((i : Int) + 1) = ((i + 1 : Nat) : Int) by rw [wi_id (by omega) (by omega)]; omega]
    simp only [cond_false]
    obtain ⟨a', i', h5, h6, h7⟩ := del_loop p g s hg hs (fun _ => rfl) k s i (i + 1) (by omega) (by omega) rfl rfl (by
      have hs1 : s.take (i + 1) = s.take i ++ [a] := by rw [List.take_add_one, h2]; rfl
      rw [hs1, List.filter_append, List.filter_eq_self.2 fun x hx => by
        have := List.any_eq_false.1 h4 x hx
        simpa using this]
      simp [h3]) (by omega)
    rw [h5]
    simp only [bi_some]
    rw [subZ_cast (by omega) (Nat.le_refl _)]
    simp only [bi_some, Int.toNat_natCast, h7]
theorem small_gd {n : Nat} (h : n ≤ 4294967296) : decide ((n : Int) ≤ 9223372036854775807) = true := decide_eq_true (by omega)
theorem prefix_eq (p q : T_api_Prefix) : (((p.Addr.Six == q.Addr.Six) && ((p.Addr.Hi == q.Addr.Hi) && ((p.Addr.Lo == q.Addr.Lo) && true))) && ((p.Bits == q.Bits) && true)) = decide (p = q) := by
  rw [addr_eq]
  cases p; cases q
  rw [Bool.eq_iff_iff]
  simp
theorem ro1_ok (x : T_api_Router) (p : T_api_Prefix) : m_laneref1_routersOf_1 x p = some (!decide (x.Prefix = p)) := by
  unfold m_laneref1_routersOf_1
  rw [prefix_eq]
theorem routersOf_ok (r : List T_api_Router) (hl : r.length ≤ 40) (p : T_api_Prefix) : m_laneref1_routersOf 400 r p = some (r.filter fun x => decide (x.Prefix = p)) := by
  unfold m_laneref1_routersOf m_slices_Clone_api_Router_api_Router
  rw [apd_some (by simp; omega)]
  simp only [bi_some, List.nil_append]
  have hix : m_slices_IndexFunc_api_Router_api_Router_2 r p = some (ixZ (fun x => !decide (x.Prefix = p)) r) := by
    unfold m_slices_IndexFunc_api_Router_api_Router_2
    first
      | (rw [small_gd (by omega), gd_true, bi_rangeI_ix (fun x : T_api_Router => !decide (x.Prefix = p)) r]
         intro j x hx
         simp only [getZ_cast, hx, bi_some, ro1_ok]
         cases decide (x.Prefix = p) <;> rfl)
      | (rw [bi_rangeM_ix (fun x : T_api_Router => !decide (x.Prefix = p)) r]
         intro j x hx
         simp only [ro1_ok, bi_some]
         cases decide (x.Prefix = p) <;> rfl)
  unfold m_slices_DeleteFunc_api_Router_api_Router_2
  rw [hix]
  simp only [bi_some]
  rw [del_ok (fun x : T_api_Router => !decide (x.Prefix = p)) (fun x => m_laneref1_routersOf_1 x p) r 400 (fun x _ => ro1_ok x p) (by omega) (by omega)]
  simp
end Go.Gk
