/-
  The plain law: wishes, sorted, and labels that are taken.
  The plain law: NodesCalled.
-/
import Derived.Test.YtpgnhnjhpnbelaaGreatDoorNBase
set_option linter.unusedVariables false
set_option linter.unusedSimpArgs false
set_option maxRecDepth 100000
namespace Go.Gk
def nodesT : List Str := [[], [110, 97], [110, 98], [110, 99], [110, 100], [110, 101]]
def okWish (w : T_api_Wish) : Prop := w.Node ∈ nodesT ∧ w.Name.length ≤ 300
theorem key_tab : ∀ x ∈ nodesT, ∃ b, m_kit_IsKey 400 x = some b ∧ m_laneref2_Key x = some b := by
  intro x hx
  simp only [nodesT, List.mem_cons, List.not_mem_nil, or_false] at hx
  rcases hx with rfl | rfl | rfl | rfl | rfl | rfl <;> exact ⟨_, rfl, rfl⟩
theorem moment_ok (n : Int) : ∃ b, m_kit_IsMoment n = some b ∧ m_laneref2_Moment n = some b := by
  refine ⟨_, rfl, ?_⟩
  unfold m_laneref2_Moment m_laneref2_in
  simp only [bi_some]
  congr 1
  rw [Bool.eq_iff_iff]
  simp
  omega
theorem rangeM_ex2 {α ρ : Type} {f g : Nat → α → Unit → Option (LS Unit ρ)} : ∀ (l : List α) (i : Nat), (∀ j x, j < i + l.length → x ∈ l → ∃ y, f j x () = some y ∧ g j x () = some y) → ∃ r, rangeM f i l () = some r ∧ rangeM g i l () = some r
  | [], i, _ => ⟨_, rfl, rfl⟩
  | x :: l, i, h => by
    obtain ⟨y, h1, h2⟩ := h i x (by simp) List.mem_cons_self
    simp only [rangeM, h1, h2]
    cases y with
    | out r => exact ⟨_, rfl, rfl⟩
    | go s' => exact rangeM_ex2 l (i + 1) fun j y hj hy => h j y (by simp only [List.length_cons]; omega) (List.mem_cons_of_mem _ hy)
theorem wfault_ok (l : List T_api_Wish) (h : ∀ w ∈ l, okWish w) (hl : l.length ≤ 5) : ∃ e, m_name_wishesFault 400 l = some e ∧ m_laneref1_WishesFault l = some e := by
  unfold m_name_wishesFault m_laneref1_WishesFault
  rw [decide_eq_false (show ¬ (l.length : Int) > 500 by omega)]
  simp only [cond_false]
  generalize hf : (fun (i3 : Nat) (x5 : T_api_Wish) (s4 : Unit) => _) = f
  generalize hg : (fun (i3 : Nat) (x5 : T_api_Wish) (s4 : Unit) => _) = g
  obtain ⟨r, h1, h2⟩ := rangeM_ex2 (f := f) (g := g) l 0 (by
    intro j x hj hx
    obtain ⟨b, b1, b2⟩ := key_tab _ (h x hx).1
    obtain ⟨c, c1, c2⟩ := moment_ok x.Joined
    subst hf; subst hg
    simp only [b1, b2, c1, c2, bi_some]
    have hord : ∃ b, (bif decide ((j : Int) > 0) then (bi (getZ l (wi ((j : Int) - 1))) fun x23 => some (Op.bytesLess x.Node x23.Node || (x.Node : Str) == x23.Node)) else (some false)) = some b := by
      cases hd : decide ((j : Int) > 0) with
      | false => exact ⟨_, rfl⟩
      | true =>
        have hj0 : (j : Int) > 0 := of_decide_eq_true hd
        obtain ⟨z, _, hz⟩ := getZ_in l (r := wi ((j : Int) - 1)) (by rw [wi_id (by omega) (by omega)]; omega) (by rw [wi_id (by omega) (by omega)]; omega)
        rw [hz]
        exact ⟨_, rfl⟩
    obtain ⟨o, ho⟩ := hord
    rw [ho]
    simp only [bi_some]
    cases b <;> cases o <;> cases decide ((x.Name.length : Int) > 200) <;> cases c <;> exact ⟨_, rfl, rfl⟩)
  rw [h1, h2]
  cases r <;> exact ⟨_, rfl, rfl⟩

/-! ### Sorting a few -/
theorem loopM_ex {σ ρ : Type} {f : σ → Option (LS σ ρ)} (I : σ → Prop) (μ : σ → Nat) (R : ρ → Prop) (h : ∀ s, I s → ∃ y, f s = some y ∧ (∀ s', y = .go s' → I s' ∧ μ s' < μ s) ∧ ∀ r, y = .out r → R r) : ∀ (k : Nat) (s : σ), I s → μ s < k → ∃ r, loopM f k s = some r ∧ R r
  | 0, s, _, hk => by omega
  | k + 1, s, hI, hk => by
    obtain ⟨y, h1, h2, h3⟩ := h s hI
    simp only [loopM, h1]
    cases y with
    | out r => exact ⟨r, rfl, h3 r rfl⟩
    | go s' =>
      obtain ⟨h4, h5⟩ := h2 s' rfl
      exact loopM_ex I μ R h k s' h4 (by omega)
theorem set_mem {α : Type} {l : List α} {p : α → Prop} (h : ∀ x ∈ l, p x) {i : Nat} {y : α} (hy : p y) : ∀ x ∈ l.set i y, p x := fun x hx => by
  rcases List.mem_or_eq_of_mem_set hx with h' | rfl
  · exact h x h'
  · exact hy
theorem insert_ok {α : Type} (p : α → Prop) (cmp : α → α → Option Int) (hc : ∀ x y, ∃ c, cmp x y = some c) (data : List α) (hl : data.length ≤ 100) (h : ∀ x ∈ data, p x) :
    ∃ r, (bi (loopM (σ := (List α) × Int) (ρ := List α) (fun s2 => bif decide ((s2.2 : Int) < (data.length : Int)) then (bi (loopM (σ := (List α) × Int) (ρ := List α) (fun s13 => bi (bif decide ((s13.2 : Int) > 0) then (bi (getZ s13.1 s13.2) fun x25 => bi (getZ s13.1 (wi (s13.2 - 1))) fun x28 => bi (cmp x25 x28) fun y31 => some (decide ((y31 : Int) < 0))) else (some false)) fun q22 => bif q22 then (bi (getZ s13.1 (wi (s13.2 - 1))) fun x35 => bi (getZ s13.1 s13.2) fun x38 => bi (getZ s13.1 s13.2) fun x41 => bi (getZ s13.1 (wi (s13.2 - 1))) fun x44 => some (.go ((s13.1.set s13.2.toNat x35).set ((wi (s13.2 - 1)).toNat) x38, wi (s13.2 - 1)))) else (some (.out s13.1))) 400 (s2.1, s2.2)) fun q15 => some (.go (q15, wi (s2.2 + 1)))) else (some (.out s2.1))) 400 (data, wi (0 + 1))) fun q4 => some q4) = some r ∧ r.length = data.length ∧ ∀ x ∈ r, p x := by
  generalize hf : (fun (s2 : List α × Int) => _) = f
  have w1 : wi ((0 : Int) + 1) = 1 := rfl
  rw [w1]
  obtain ⟨r, e1, e2⟩ := loopM_ex (f := f) (fun s => s.1.length = data.length ∧ (∀ x ∈ s.1, p x) ∧ 1 ≤ s.2 ∧ s.2 ≤ 101) (fun s => (101 - s.2).toNat) (fun r => r.length = data.length ∧ ∀ x ∈ r, p x) (by
    rintro ⟨d, i⟩ ⟨i1, i2, i3, i4⟩
    simp only at i1 i2 i3 i4
    subst hf
    simp only
    by_cases hi : i < (data.length : Int)
    · rw [decide_eq_true hi]
      simp only [cond_true]
      generalize hg : (fun (s13 : List α × Int) => _) = g
      obtain ⟨q, q1, q2⟩ := loopM_ex (f := g) (fun s => s.1.length = data.length ∧ (∀ x ∈ s.1, p x) ∧ 0 ≤ s.2 ∧ s.2 < data.length) (fun s => s.2.toNat) (fun r => r.length = data.length ∧ ∀ x ∈ r, p x) (by
        rintro ⟨e, j⟩ ⟨j1, j2, j3, j4⟩
        simp only at j1 j2 j3 j4
        subst hg
        simp only
        by_cases hj : j > 0
        · have wj : wi (j - 1) = j - 1 := wi_id (by omega) (by omega)
          obtain ⟨x, hx, ex⟩ := getZ_in e (r := j) (by omega) (by omega)
          obtain ⟨y, hy, ey⟩ := getZ_in e (r := j - 1) (by omega) (by omega)
          obtain ⟨c, hc⟩ := hc x y
          rw [decide_eq_true hj, wj]
          simp only [cond_true, ex, ey, bi_some, hc]
          cases decide (c < 0) with
          | false => exact ⟨_, rfl, fun s' e => (by cases e), fun r e => (by cases e; exact ⟨j1, j2⟩)⟩
          | true => exact ⟨_, rfl, fun s' e => (by cases e; exact ⟨⟨by simpa using j1, set_mem (set_mem j2 (j2 y hy)) (j2 x hx), by simp only; omega, by simp only; omega⟩, by simp only; omega⟩), fun r e => (by cases e)⟩
        · rw [decide_eq_false hj]
          exact ⟨_, rfl, fun s' e => (by cases e), fun r e => (by cases e; exact ⟨j1, j2⟩)⟩)
        400 (d, i) ⟨i1, i2, by simp only; omega, hi⟩ (by simp only; omega)
      rw [q1]
      have wi1 : wi (i + 1) = i + 1 := wi_id (by omega) (by omega)
      simp only [bi_some, wi1]
      exact ⟨_, rfl, fun s' e => (by cases e; exact ⟨⟨q2.1, q2.2, by simp only; omega, by simp only; omega⟩, by simp only; omega⟩), fun r e => (by cases e)⟩
    · rw [decide_eq_false hi]
      exact ⟨_, rfl, fun s' e => (by cases e), fun r e => (by cases e; exact ⟨i1, i2⟩)⟩)
    400 (data, 1) ⟨rfl, h, (by decide : (1 : Int) ≤ 1), (by decide : (1 : Int) ≤ 101)⟩ (by simp)
  rw [e1]
  exact ⟨r, rfl, e2⟩
theorem cmpi_ok (x y : Int) : ∃ c, m_cmp_Compare_int x y = some c := by
  unfold m_cmp_Compare_int m_cmp_isNaN_int
  have : ∀ z : Int, (z != z) = false := fun z => by simp
  simp only [this, bi_some, cond_false]
  cases decide (x < y) <;> cases decide (x > y) <;> exact ⟨_, rfl⟩
theorem sortW (data : List T_api_Wish) (hl : data.length ≤ 19) (h : ∀ x ∈ data, okWish x) : ∃ r, m_slices_SortStableFunc_api_Wish_api_Wish 400 data = some r ∧ r.length = data.length ∧ ∀ x ∈ r, okWish x := by
  unfold m_slices_SortStableFunc_api_Wish_api_Wish m_slices_stableCmpFunc_api_Wish
  obtain ⟨r, e1, e2, e3⟩ := insert_ok okWish m_name_Call_1 (fun x y => by
    unfold m_name_Call_1
    obtain ⟨c, hc⟩ := cmpi_ok x.Joined y.Joined
    rw [hc]; exact ⟨_, rfl⟩) data (by omega) h
  have e1' : m_slices_insertionSortCmpFunc_api_Wish 400 data 0 (data.length : Int) = some r := e1
  have d1 : decide ((20 : Int) ≤ (data.length : Int)) = false := decide_eq_false (by omega)
  have d2 : decide ((20 : Int) < (data.length : Int)) = false := decide_eq_false (by omega)
  have d3 : decide (r.length = data.length) = true := decide_eq_true e2
  refine ⟨r, ?_, e2, e3⟩
  simp only [loopM, d1, cond_false, bi_some, e1', d3, gd_true, d2]
theorem sortW_eq (data : List T_api_Wish) : m_slices_SortStableFunc_api_Wish_api_Wish_2 400 data = m_slices_SortStableFunc_api_Wish_api_Wish 400 data := rfl
theorem len64_ok (n : Nat) (h : n ≤ 12) : ∃ r, m_math_bits_Len (IntKind.u64.wrap (n : Int)) = some r := by
  have : ∀ n : Nat, n < 13 → (m_math_bits_Len (IntKind.u64.wrap (n : Int))).isSome = true := by decide +kernel
  exact Option.isSome_iff_exists.1 (this n (by omega))
theorem sortC (data : List T_api_Called) (hl : data.length ≤ 12) : ∃ r, m_slices_SortFunc_api_Called_api_Called 400 data = some r ∧ r.length = data.length := by
  unfold m_slices_SortFunc_api_Called_api_Called m_slices_pdqsortCmpFunc_api_Called
  obtain ⟨r, e1, e2, _⟩ := insert_ok (fun _ => True) m_name_Call_2 (fun x y => by
    unfold m_name_Call_2
    exact ⟨_, rfl⟩) data (by omega) (fun _ _ => trivial)
  have e1' : m_slices_insertionSortCmpFunc_api_Called 400 data 0 (data.length : Int) = some r := e1
  obtain ⟨b, hb⟩ := len64_ok data.length hl
  rw [hb]
  have w : wi ((data.length : Int) - 0) = (data.length : Int) := by rw [wi_id (by omega) (by omega)]; omega
  have d1 : decide ((data.length : Int) ≤ 12) = true := decide_eq_true (by omega)
  refine ⟨r, ?_, e2⟩
  simp only [bi_some, loopM, w, d1, cond_true, e1']
theorem sortC_eq (data : List T_api_Called) : m_slices_SortFunc_api_Called_api_Called_2 400 data = m_slices_SortFunc_api_Called_api_Called 400 data := rfl

/-! ### Labels that are taken -/
theorem sub_len {α : Type} [BEq α] [LawfulBEq α] : ∀ (l m : List α), l.Nodup → (∀ x ∈ l, x ∈ m) → l.length ≤ m.length
  | [], m, _, _ => Nat.zero_le _
  | x :: l, m, hn, hs => by
    rw [List.nodup_cons] at hn
    have hx := hs x List.mem_cons_self
    have ih := sub_len l (m.erase x) hn.2 fun y hy => by
      refine (List.mem_erase_of_ne ?_).2 (hs y (List.mem_cons_of_mem _ hy))
      rintro rfl
      exact hn.1 hy
    have h1 := List.length_erase_of_mem hx
    have h2 := List.length_pos_of_mem hx
    simp only [List.length_cons]
    omega
theorem mGet_mem {m : List (Str × Bool)} {k : Str} (h : (mGet m k).getD false = true) : k ∈ m.map (·.1) := by
  unfold mGet at h
  cases hf : m.find? fun e => k == e.1 with
  | none => rw [hf] at h; cases h
  | some e =>
    have h1 := List.find?_some hf
    have h2 := List.mem_of_find?_eq_some hf
    have : k = e.1 := by simpa using h1
    rw [this]
    exact List.mem_map_of_mem h2
theorem mSet_len (m : List (Str × Bool)) (k : Str) (v : Bool) : (mSet m k v).length ≤ m.length + 1 := by
  unfold mSet
  split <;> simp
/-- The label of the n-th try. -/
def lab (base : Str) (n : Nat) : Str := base.take (min base.length (62 - (Lib.decDigits n).length)) ++ 45 :: Lib.decDigits n
theorem dig0 : ∀ n, n < 10 → Lib.decDigits n = [UInt8.ofNat (48 + n)] := fun n h => by
  rw [Lib.decDigits, dif_pos h]
theorem dig1 (n : Nat) (_ : 1 ≤ n) (h : n ≤ 9) : Lib.decDigits n = [UInt8.ofNat (48 + n)] := dig0 n (by omega)
theorem lab_inj (base : Str) {i j : Nat} (hi : 1 ≤ i ∧ i ≤ 9) (hj : 1 ≤ j ∧ j ≤ 9) (h : lab base i = lab base j) : i = j := by
  unfold lab at h
  rw [dig1 i hi.1 hi.2, dig1 j hj.1 hj.2] at h
  have := (List.append_inj_right' h rfl)
  simp only [List.cons.injEq, and_true, true_and] at this
  have h2 := congrArg UInt8.toNat this
  simp only [UInt8.toNat_ofNat'] at h2
  omega
theorem tries_ok (m : List (Str × Bool)) (base : Str) (hb : base.length ≤ 63) (hm : m.length ≤ 4) : ∃ r, loopM (σ := Str × Int) (ρ := Str) (fun s29 => bif ((mGet m s29.1).getD false) then (bi (m_strconv_Itoa s29.2) fun y39 => bi (catZ [45] y39) fun y41 => bi (subZ base 0 (if (wi (63 - (y41.length : Int))) < (base.length : Int) then wi (63 - (y41.length : Int)) else (base.length : Int))) fun z43 => bi (catZ z43 y41) fun y45 => some (.go (y45, wi (s29.2 + 1)))) else (some (.out s29.1))) 400 (base, 1) = some r := by
  generalize hf : (fun (s29 : Str × Int) => _) = f
  obtain ⟨r, h1, _⟩ := loopM_ex (f := f) (fun s => ∃ n : Nat, s.2 = (n : Int) ∧ 1 ≤ n ∧ n ≤ 6 ∧ (s.1 = if n = 1 then base else lab base (n - 1)) ∧ ∀ i, 1 ≤ i → i + 1 < n → lab base i ∈ m.map (·.1)) (fun s => (7 - s.2).toNat) (fun _ => True) (by
    rintro ⟨lb, q⟩ ⟨n, rfl, n1, n2, n3, n4⟩
    simp only at n3
    subst hf
    simp only
    cases ht : ((mGet m lb).getD false) with
    | false => exact ⟨_, rfl, fun s' e => (by cases e), fun r e => trivial⟩
    | true =>
      have hmem := mGet_mem ht
      have hall : ∀ i, 1 ≤ i → i < n → lab base i ∈ m.map (·.1) := fun i h1 h2 => by
        by_cases hi : i + 1 < n
        · exact n4 i h1 hi
        · have : i = n - 1 := by omega
          rw [this]
          rw [n3, if_neg (by omega)] at hmem
          exact hmem
      have hn5 : n ≤ 5 := by
        rcases Nat.lt_or_ge n 6 with h | h
        · omega
        · exfalso
          have hnd : ([lab base 1, lab base 2, lab base 3, lab base 4, lab base 5] : List Str).Nodup := by
            have hne : ∀ i j, (1 ≤ i ∧ i ≤ 9) → (1 ≤ j ∧ j ≤ 9) → i ≠ j → lab base i ≠ lab base j := fun i j hi hj hij e => hij (lab_inj base hi hj e)
            simp only [List.nodup_cons, List.mem_cons, List.not_mem_nil, or_false, not_or, List.nodup_nil, and_true, not_false_eq_true]
            refine ⟨⟨?_, ?_, ?_, ?_⟩, ⟨?_, ?_, ?_⟩, ⟨?_, ?_⟩, ?_⟩ <;> exact hne _ _ (by omega) (by omega) (by omega)
          have := sub_len _ (m.map (·.1)) hnd (fun x hx => by
            simp only [List.mem_cons, List.not_mem_nil, or_false] at hx
            rcases hx with rfl | rfl | rfl | rfl | rfl <;> exact hall _ (by omega) (by omega))
          simp only [List.length_cons, List.length_nil, List.length_map] at this
          omega
      have hi : m_strconv_Itoa (n : Int) = some (Lib.decDigits n) := by
        show (gd (Nat.blt n 100) (some (Lib.decDigits n)) : Option Str) = _
        rw [nblt.2 (show n < 100 by omega)]
        rfl
      have hd := dig1 n n1 (by omega)
      have hcat : catZ [45] (Lib.decDigits n) = some (45 :: Lib.decDigits n) := cat_ok (by rw [hd]; simp only [List.length_cons, List.length_nil]; decide)
      have hdl : (Lib.decDigits n).length = 1 := by rw [hd]; rfl
      rw [hi]
      simp only [cond_true, bi_some, hcat, List.length_cons, hdl]
      have hw : wi (63 - ((1 + 1 : Nat) : Int)) = 61 := rfl
      rw [hw]
      have hsub : subZ base 0 (if (61 : Int) < (base.length : Int) then 61 else (base.length : Int)) = some (base.take (min base.length (62 - (Lib.decDigits n).length))) := by
        rw [hdl]
        have : ∃ k : Nat, (if (61 : Int) < (base.length : Int) then (61 : Int) else (base.length : Int)) = (k : Int) ∧ k ≤ base.length ∧ k = min base.length 61 := by
          by_cases h : (61 : Int) < (base.length : Int)
          · rw [if_pos h]; exact ⟨61, rfl, by omega, by omega⟩
          · rw [if_neg h]; exact ⟨base.length, rfl, Nat.le_refl _, by omega⟩
        obtain ⟨k, e1, e2, e3⟩ := this
        rw [e1]
        unfold subZ
        rw [decide_eq_true (Int.le_refl 0), decide_eq_true (show (0 : Int) ≤ (k : Int) by omega), decide_eq_true (show (k : Int) ≤ (base.length : Int) by omega)]
        simp [e3]
      rw [hsub]
      simp only [bi_some]
      have hc2 : catZ (base.take (min base.length (62 - (Lib.decDigits n).length))) (45 :: Lib.decDigits n) = some (lab base n) := by
        rw [cat_ok (by simp only [List.length_take, List.length_cons, hdl]; omega)]
        rfl
      rw [hc2]
      have hw2 : wi ((n : Int) + 1) = ((n + 1 : Nat) : Int) := by rw [wi_id (by omega) (by omega)]; omega
      simp only [bi_some, hw2]
      refine ⟨_, rfl, fun s' e => ?_, fun r e => (by cases e)⟩
      cases e
      exact ⟨⟨n + 1, rfl, by omega, by omega, by simp only; rw [if_neg (by omega)]; rfl, fun i h1 h2 => hall i h1 (by omega)⟩, by simp only; omega⟩)
    400 (base, 1) ⟨1, rfl, by omega, by omega, rfl, fun i h1 h2 => by omega⟩ (by simp)
  exact ⟨r, h1⟩

theorem rangeF_inv2 {α σ : Type} {f : Nat → α → σ → Option σ} (n : Nat) (I : Nat → σ → Prop) : ∀ (l : List α) (i : Nat) (s : σ), i + l.length ≤ n → I i s → (∀ j x s, j < n → I j s → x ∈ l → ∃ s', f j x s = some s' ∧ I (j + 1) s') → ∃ r, rangeF f i l s = some r ∧ I (i + l.length) r := rangeF_inv n I
/-- The names that are wished. -/
def wnames : List Str := [[98, 111, 120], [98, 111, 120], [66, 111, 120], [98, 111, 120, 32, 49], [77, 121, 32, 77, 97, 99, 33], [], [45, 45], Lib.repeatL [108, 111, 110, 103] 16 ++ [45], [98, 45], [195, 169]]
theorem wnames_len : ∀ x ∈ wnames, x.length ≤ 300 := by decide +kernel
theorem wrep1 : m_strings_Repeat [108, 111, 110, 103] 16 = some (Lib.repeatL [108, 111, 110, 103] 16) := by rfl
theorem wrep2 : m_strings_Repeat [97] 201 = some (Lib.repeatL [97] 201) := by rfl
def wkeys : List Str := [[110, 97], [110, 98], [110, 99], [110, 100], [110, 101]]
theorem wkeys_in : ∀ x ∈ wkeys, x ∈ nodesT := by decide
theorem wishesD (l : List Int) (a : Int) (hl : l.length ≤ 9223372036854775807) (h0 : 0 ≤ a) (h1 : a < 4611686018427300000) :
    ∃ w a', (∀ x ∈ w, okWish x) ∧ w.length ≤ 5 ∧ a ≤ a' ∧ a' ≤ a + 100 ∧ m_lanemake_Stream_Wishes ⟨l, a⟩ = some (w, ⟨l, a'⟩) := by
  unfold m_lanemake_Stream_Wishes
  generalize hf : (fun (i1 : Nat) (x3 : Str) (s2 : T_lanemake_Stream × List T_api_Wish) => _) = f
  obtain ⟨r, hr, hI⟩ := rangeF_inv (f := f) 5 (fun i s => ∃ b, s.1 = ⟨l, b⟩ ∧ a ≤ b ∧ b ≤ a + 5 * i ∧ s.2.length ≤ i ∧ ∀ x ∈ s.2, okWish x) wkeys 0 (⟨l, a⟩, []) (by decide) ⟨a, rfl, Int.le_refl _, by omega, by simp, fun p hp => by cases hp⟩ (by
    rintro j x ⟨s, y⟩ hj ⟨b, rfl, q1, q2, q3, q4⟩ hx
    simp only at q3 q4
    subst hf
    obtain ⟨c, hc⟩ := flip_ok l b 4 hl (by omega) (by omega) (by decide) (by decide)
    simp only [hc, bi_some]
    cases c with
    | true => exact ⟨_, rfl, b + 1, rfl, by omega, by push_cast; omega, by simp only; omega, q4⟩
    | false =>
      obtain ⟨n, hn, e1⟩ := some_ok l (b + 1) wnames hl (by omega) (by omega) (by decide) (by decide)
      obtain ⟨p, _, e2⟩ := pick_ok l (b + 1 + 1) [0, 1, 1, 2] hl (by omega) (by omega) (by decide) (by decide)
      have l2 : (Lib.repeatL [108, 111, 110, 103] 16).length = 64 := by rw [Lib.repeatL_length]; rfl
      unfold wnames at e1
      have happ : apd y [(⟨x, n, p⟩ : T_api_Wish)] = some (y ++ [⟨x, n, p⟩]) := apd_some (by simp only [List.length_cons, List.length_nil]; omega)
      simp only [Bool.not_false, cond_true, wrep1, bi_some]
      rw [cat_ok (by rw [l2]; decide), bi_some, e1]
      simp only [bi_some, e2, happ]
      refine ⟨_, rfl, b + 1 + 1 + 1, rfl, by omega, by push_cast; omega, by simp only [List.length_append, List.length_cons, List.length_nil]; omega, fun z hz => ?_⟩
      rcases List.mem_append.1 hz with h | h
      · exact q4 z h
      · obtain rfl := List.mem_singleton.1 h
        exact ⟨wkeys_in x hx, wnames_len n hn⟩)
  obtain ⟨s, y⟩ := r
  obtain ⟨b, e, q1, q2, q3, q4⟩ := hI
  simp only at e q3 q4
  subst e
  have hk : wkeys.length = 5 := rfl
  rw [hk] at q2 q3
  unfold wkeys at hr
  rw [hr]
  simp only [bi_some]
  generalize hX : (bif decide ((y.length : Int) > 0) then _ else _ : Option (T_lanemake_Stream × Bool)) = X
  obtain ⟨b2, t, rfl, u1, u2, u3⟩ : ∃ b2 t, X = some (⟨l, b2⟩, t) ∧ b ≤ b2 ∧ b2 ≤ b + 1 ∧ (t = true → 0 < y.length) := by
    subst hX
    cases hd : decide ((y.length : Int) > 0) with
    | false => exact ⟨b, false, rfl, by omega, by omega, fun e => by cases e⟩
    | true =>
      have := of_decide_eq_true hd
      obtain ⟨c, hc⟩ := flip_ok l b 20 hl (by omega) (by omega) (by decide) (by decide)
      rw [hc]
      exact ⟨b + 1, c, rfl, by omega, by omega, fun _ => by omega⟩
  simp only [bi_some]
  cases t with
  | false => exact ⟨y, b2, q4, by omega, by omega, by omega, rfl⟩
  | true =>
    have hy := u3 rfl
    obtain ⟨i, i0, i1, hi⟩ := next_ok l b2 (y.length : Int) hl (by omega) (by omega) (by omega) (by omega)
    obtain ⟨x, hx, ex⟩ := getZ_in y i0 i1
    obtain ⟨nd, hnd, e1⟩ := some_ok l (b2 + 1) [[], [110, 97], x.Node] hl (by omega) (by omega) (by simp) (by simp)
    have l2 : (Lib.repeatL [97] 201).length = 201 := by rw [Lib.repeatL_length]; rfl
    obtain ⟨nm, hnm, e2⟩ := some_ok l (b2 + 1 + 1) [Lib.repeatL [97] 201, [120]] hl (by omega) (by omega) (by simp) (by simp)
    obtain ⟨p, _, e3⟩ := pick_ok l (b2 + 1 + 1 + 1) [-1, 0, 345686400] hl (by omega) (by omega) (by decide) (by decide)
    simp only [cond_true, hi, bi_some, ex, e1, wrep2, e2, e3]
    have hnd' : nd ∈ nodesT := by
      simp only [List.mem_cons, List.not_mem_nil, or_false] at hnd
      rcases hnd with rfl | rfl | rfl
      · decide
      · decide
      · exact (q4 x hx).1
    have hnm' : nm.length ≤ 300 := by
      simp only [List.mem_cons, List.not_mem_nil, or_false] at hnm
      rcases hnm with rfl | rfl
      · omega
      · decide
    refine ⟨_, b2 + 1 + 1 + 1 + 1, ?_, ?_, ?_, ?_, rfl⟩
    · exact set_mem (set_mem (set_mem q4 (show okWish ⟨nd, x.Name, x.Joined⟩ from ⟨hnd', (q4 x hx).2⟩)) (show okWish ⟨nd, nm, x.Joined⟩ from ⟨hnd', hnm'⟩)) (show okWish ⟨nd, nm, p⟩ from ⟨hnd', hnm'⟩)
    · simp; omega
    · omega
    · omega

/-! ### A string, changed -/
theorem rune_len (n : Int) : (runeS n).length ≤ 4 := by
  unfold runeS Utf8.encode
  simp only
  repeat' split
  all_goals simp
theorem changedD (l : List Int) (a : Int) (t w : Str) (hl : l.length ≤ 9223372036854775807) (h0 : 0 ≤ a) (h1 : a < 4611686018427300000) (ht : t.length ≤ 300) (hw : 1 ≤ w.length ∧ w.length ≤ 100) :
    ∃ r a', r.length ≤ 1000 ∧ a ≤ a' ∧ a' ≤ a + 3 ∧ m_lanemake_Stream_Changed ⟨l, a⟩ t w = some (r, ⟨l, a'⟩) := by
  unfold m_lanemake_Stream_Changed
  cases he : ((t == []) || (w == [])) with
  | true => exact ⟨w, a, by omega, by omega, by omega, rfl⟩
  | false =>
    rw [Bool.or_eq_false_iff] at he
    have htn : t ≠ [] := by simpa using he.1
    have htl := List.length_pos_iff.2 htn
    obtain ⟨i, i0, i1, hi⟩ := next_ok l a (t.length : Int) hl h0 (by omega) (by omega) (by omega)
    obtain ⟨j, j0, j1, hj⟩ := next_ok l (a + 1) (w.length : Int) hl (by omega) (by omega) (by omega) (by omega)
    obtain ⟨c, _, hc⟩ := getZ_in w j0 j1
    obtain ⟨k, k0, k1, hk⟩ := next_ok l (a + 1 + 1) 3 hl (by omega) (by omega) (by decide) (by decide)
    have hsub : ∀ lo hi : Int, 0 ≤ lo → lo ≤ hi → hi ≤ (t.length : Int) → ∃ z : Str, subZ t lo hi = some z ∧ z.length ≤ 300 := fun lo hi h1 h2 h3 => by
      unfold subZ
      rw [decide_eq_true h1, decide_eq_true h2, decide_eq_true h3]
      refine ⟨_, rfl, ?_⟩
      simp; omega
    have hw1 : wi (i + 1) = i + 1 := wi_id (by omega) (by omega)
    obtain ⟨z1, s1, n1⟩ := hsub 0 i (by omega) i0 (by omega)
    obtain ⟨z2, s2, n2⟩ := hsub (i + 1) (t.length : Int) (by omega) (by omega) (by omega)
    obtain ⟨z3, s3, n3⟩ := hsub i (t.length : Int) (by omega) (by omega) (by omega)
    simp only [cond_false, hi, hj, hc, hk, bi_some, hw1, s1, s2, s3]
    have hr := rune_len (IntKind.i32.wrap (c.toNat : Int))
    generalize runeS (IntKind.i32.wrap (c.toNat : Int)) = q at hr
    cases (k == 0) with
    | true =>
      rw [cond_true, cat_ok (by omega), bi_some, cat_ok (by rw [List.length_append]; omega), bi_some]
      exact ⟨_, a + 1 + 1 + 1, by simp only [List.length_append]; omega, by omega, by omega, rfl⟩
    | false =>
      cases (k == 1) with
      | true =>
        rw [cond_false, cond_true, cat_ok (by omega), bi_some, cat_ok (by rw [List.length_append]; omega), bi_some]
        exact ⟨_, a + 1 + 1 + 1, by simp only [List.length_append]; omega, by omega, by omega, rfl⟩
      | false =>
        rw [cond_false, cond_false, cat_ok (by omega), bi_some]
        exact ⟨_, a + 1 + 1 + 1, by simp only [List.length_append]; omega, by omega, by omega, rfl⟩

/-! ### The calls -/
theorem rangeF_congr {α σ : Type} {f g : Nat → α → σ → Option σ} : ∀ (l : List α) (i : Nat) (s : σ), (∀ j x s, x ∈ l → f j x s = g j x s) → rangeF f i l s = rangeF g i l s
  | [], i, s, _ => rfl
  | x :: l, i, s, h => by
    simp only [rangeF, h i x s List.mem_cons_self]
    congr 1
    funext s'
    exact rangeF_congr l (i + 1) s' fun j y s hy => h j y s (List.mem_cons_of_mem _ hy)
theorem cloneW (l : List T_api_Wish) (h : l.length ≤ 1000) : m_slices_Clone_api_Wish_api_Wish l = some l := by
  unfold m_slices_Clone_api_Wish_api_Wish
  rw [apd_some (by simpa using (show l.length ≤ 4294967296 by omega))]
  rfl
theorem call_ok (l : List T_api_Wish) (h : ∀ w ∈ l, okWish w) (hl : l.length ≤ 5) : ∃ r, m_laneref1_CalledOf 400 l = some r ∧ ∀ e, m_name_wishesFault 400 l = some e → m_name_Call 400 l = some (if e = 0 then (r, 0) else ([], e)) := by
  obtain ⟨s, s1, s2, s3⟩ := sortW l (by omega) h
  unfold m_laneref1_CalledOf m_name_Call
  simp only [cloneW l (by omega), bi_some, sortW_eq, s1, s2, decide_true, gd_true, sortC_eq]
  rw [decide_eq_true (show ((l.length : Nat) : Int) ≤ 9223372036854775807 by omega), gd_true, ← s2]
  generalize hf : (fun (i7 : Nat) (s8 : List (Str × Bool) × List T_api_Called) => bi (getZ s (i7 : Int)) fun x19 => bi (m_laneref1_LabelOf x19.Name) _) = f
  generalize hg : (fun (i11 : Nat) (s12 : List (Str × Bool) × List T_api_Called) => bi (getZ s (i11 : Int)) fun x23 => bi (m_name_Label x23.Name) _) = g
  obtain ⟨a, b, e1, e2, rfl, hb2⟩ := rangeG_rel (f := f) (g := g) (fun i a b => a = b ∧ b.1.length ≤ i ∧ b.2.length ≤ i) s.length (by
    rintro i a ⟨m, out⟩ hi ⟨rfl, h1, h2⟩
    simp only at h1 h2
    have hx := s3 _ (List.getElem_mem hi)
    subst hf; subst hg
    simp only
    rw [getZ_cast, List.getElem?_eq_getElem hi]
    generalize s[i] = x at hx
    obtain ⟨lb, l1, l2, l3⟩ := label_ok x.Name (by have := hx.2; omega)
    obtain ⟨t, ht⟩ := tries_ok m lb l3 (by omega)
    simp only [bi_some, l1, l2]
    rw [ht]
    have happ : apd out [(⟨x.Node, t⟩ : T_api_Called)] = some (out ++ [⟨x.Node, t⟩]) := apd_some (by simp only [List.length_cons, List.length_nil]; omega)
    simp only [bi_some, happ]
    have := mSet_len m t true
    exact ⟨_, _, rfl, rfl, rfl, by simp only; omega, by simp only [List.length_append, List.length_cons, List.length_nil]; omega⟩)
    ([], []) ([], []) ⟨rfl, by simp, by simp⟩
  rw [e1, e2]
  simp only [bi_some]
  obtain ⟨c, c1, c2⟩ := sortC a.2 (by omega)
  rw [c1]
  simp only [bi_some, c2, decide_true, gd_true]
  refine ⟨c, rfl, fun e he => ?_⟩
  rw [he]
  simp only [bi_some]
  by_cases h0 : e = 0
  · subst h0
    simp only [c1, bi_some, c2, decide_true, gd_true]
    rfl
  · have : (e != 0) = true := by simpa using h0
    rw [this, if_neg h0]; rfl
theorem rangeM_go {α σ ρ : Type} {f : Nat → α → σ → Option (LS σ ρ)} (I : Nat → σ → Prop) : ∀ (l : List α) (i : Nat) (s : σ), I i s → (∀ j x s, j < i + l.length → I j s → x ∈ l → ∃ s', f j x s = some (.go s') ∧ I (j + 1) s') → ∃ s', rangeM f i l s = some (.go s') ∧ I (i + l.length) s'
  | [], i, s, h, _ => ⟨s, rfl, h⟩
  | x :: l, i, s, h, st => by
    obtain ⟨s', h1, h2⟩ := st i x s (by simp) h List.mem_cons_self
    obtain ⟨r, h3, h4⟩ := rangeM_go I l (i + 1) s' h2 fun j y s hj hI hy => st j y s (by simp only [List.length_cons]; omega) hI (List.mem_cons_of_mem _ hy)
    refine ⟨r, by simp only [rangeM, h1, h3], ?_⟩
    rw [List.length_cons, show i + (l.length + 1) = i + 1 + l.length by omega]
    exact h4
theorem named_ok : m_lanelaw1_named 400 = some true := by rfl
theorem equalC (l : List T_api_Called) : m_slices_Equal_api_Called_api_Called l l = some true := by
  unfold m_slices_Equal_api_Called_api_Called
  have : ((l.length : Int) != (l.length : Int)) = false := by simp
  rw [this]
  simp only [cond_false]
  rw [rangeM_all (fun _ => true) false l 0 (fun j x hx => by
    rw [Nat.zero_add, getZ_cast, hx]
    simp only [bi_some, beq_self_eq_true, Bool.and_true, Bool.not_true, cond_false, if_true])]
  simp [goI]
theorem NodesCalled_true (l : List Int) (hl : l.length ≤ 9223372036854775807) : m_lanelaw1_NodesCalled 400 l = some true := by
  obtain ⟨w, a, hw, hw5, ha, ha', e1⟩ := wishesD l 0 hl (by decide) (by decide)
  obtain ⟨e, f1, f2⟩ := wfault_ok w hw hw5
  obtain ⟨r, c1, c2⟩ := call_ok w hw hw5
  unfold m_lanelaw1_NodesCalled
  simp only [e1, bi_some, c2 e f1, f2]
  generalize hf : (fun (i5 : Nat) (x7 : T_api_Wish) (s6 : T_lanemake_Stream) => _) = f
  obtain ⟨s', g1, _⟩ := rangeM_go (f := f) (fun i s => ∃ b, s = ⟨l, b⟩ ∧ 0 ≤ b ∧ b ≤ 1000 + 10 * i) w 0 ⟨l, a⟩ ⟨a, rfl, by omega, by omega⟩ (by
    rintro j x s hj ⟨b, rfl, b1, b2⟩ hx
    have hxn := (hw x hx).2
    obtain ⟨c, hc⟩ := flip_ok l b 3 hl (by omega) (by omega) (by decide) (by decide)
    subst hf
    simp only [hc, bi_some]
    cases c with
    | false =>
      obtain ⟨lb, l1, l2, _⟩ := label_ok x.Name (by omega)
      simp only [cond_false, bi_some, l1, l2]
      refine ⟨⟨l, b + 1⟩, ?_, b + 1, rfl, by omega, by push_cast; omega⟩
      simp
    | true =>
      obtain ⟨t, b', h1, h2, h3, h4⟩ := changedD l (b + 1) x.Name [97, 65, 48, 45, 46, 95, 32, 255] hl (by omega) (by omega) hxn (by decide)
      obtain ⟨lb, l1, l2, _⟩ := label_ok t (by omega)
      simp only [cond_true, h4, bi_some, l1, l2]
      refine ⟨⟨l, b'⟩, ?_, b', rfl, by omega, by push_cast; omega⟩
      simp)
  rw [g1]
  simp only [bi_some, goI]
  by_cases h0 : e = 0
  · subst h0
    simp [c1, equalC, named_ok]
  · have : (e != 0) = true := by simpa using h0
    simp [this, h0, named_ok]
end Go.Gk
