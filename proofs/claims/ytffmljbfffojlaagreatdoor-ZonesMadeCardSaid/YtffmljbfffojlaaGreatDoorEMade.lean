/-
  Zones that are made, two ways: the faults of what is asked; the records, one node after the other.
-/
import Derived.Test.YtffmljbfffojlaaGreatDoorENodes
set_option linter.unusedVariables false
set_option linter.unusedSimpArgs false
set_option linter.unusedSectionVars false
set_option maxRecDepth 100000
namespace Go.Gk
/-! ### Faults -/
theorem ord_get {α : Type} (l : List α) (key : α → Str) (x : α) (j : Nat) (hj : j < l.length) (hl : l.length ≤ 1000) :
    ∃ o, (bif decide ((j : Int) > 0) then (bi (getZ l (wi ((j : Int) - 1))) fun x23 => some (Op.bytesLess (key x) (key x23) || (key x : Str) == key x23)) else (some false)) = some o ∧ (o = false → ∀ p, j ≠ 0 → l[j - 1]? = some p → Op.bytesLess (key p) (key x) = true) := by
  by_cases h : j = 0
  · subst h; exact ⟨false, rfl, fun _ p h => absurd rfl h⟩
  · rw [decide_eq_true (show (j : Int) > 0 by omega)]
    obtain ⟨p, hp⟩ : ∃ p, l[j - 1]? = some p := ⟨l[j - 1]'(by omega), List.getElem?_eq_getElem (by omega)⟩
    rw [getZ_wi (j := j - 1) (by rw [wi_id (by omega) (by omega)]; omega) hp]
    refine ⟨_, rfl, fun ho q _ hq => ?_⟩
    rw [hp] at hq
    cases hq
    rw [Bool.or_eq_false_iff] at ho
    cases hb : Op.bytesLess (key p) (key x) with
    | true => rfl
    | false =>
      have := bl_tri _ _ ho.1 hb
      rw [this] at ho; simp at ho
theorem rise_pair {α : Type} (key : α → Str) : ∀ (l : List α), (∀ j a b, l[j]? = some a → l[j + 1]? = some b → Op.bytesLess (key a) (key b) = true) → l.Pairwise fun a b => Op.bytesLess (key a) (key b) = true
  | [], _ => List.Pairwise.nil
  | [x], _ => List.pairwise_singleton _ _
  | x :: y :: l, h => by
    have ih := rise_pair key (y :: l) fun j a b ha hb => h (j + 1) a b (by simpa using ha) (by simpa using hb)
    have hxy := h 0 x y rfl rfl
    refine List.pairwise_cons.2 ⟨fun z hz => ?_, ih⟩
    rcases List.mem_cons.1 hz with rfl | hz
    · exact hxy
    · exact bl_tr _ _ _ hxy ((List.pairwise_cons.1 ih).1 z hz)
theorem pair_ne {α : Type} (key : α → Str) {l : List α} (h : l.Pairwise fun a b => Op.bytesLess (key a) (key b) = true) : l.Pairwise fun a b => key a ≠ key b :=
  h.imp fun {a b} hab e => by rw [e, bl_irr] at hab; cases hab
def Up {α : Type} (key : α → Str) (l : List α) (i : Nat) : Prop := ∀ j a b, j + 1 < i → l[j]? = some a → l[j + 1]? = some b → Op.bytesLess (key a) (key b) = true
theorem Up.next {α : Type} {key : α → Str} {l : List α} {i : Nat} {x : α} (h : Up key l i) (hx : l[i]? = some x) (hp : ∀ p, i ≠ 0 → l[i - 1]? = some p → Op.bytesLess (key p) (key x) = true) : Up key l (i + 1) := fun j a b hj ha hb => by
  by_cases e : j + 1 = i
  · subst e
    rw [hx] at hb
    cases hb
    exact hp a (by omega) (by simpa using ha)
  · exact h j a b (by omega) ha hb
theorem Up.ne {α : Type} {key : α → Str} {l : List α} (h : Up key l l.length) : l.Pairwise fun a b => key a ≠ key b :=
  pair_ne key (rise_pair key l fun j a b ha hb => h j a b (List.getElem?_eq_some_iff.1 hb).1 ha hb)
theorem calledF_ok (l : List T_api_Called) (h : okC l) : Two
    (rangeM (σ := Unit) (ρ := Int) (fun i3 x5 s4 => bi (m_kit_IsKey 400 x5.Node) fun y14 => bi (bif !y14 then (some true) else (bi (m_name_isLabel 400 x5.Label) fun y20 => some (!y20))) fun q16 => bif q16 then (bi (some 5) fun v => some (.out v)) else (bi (bif decide (((i3 : Int) : Int) > 0) then (bi (getZ l (wi ((i3 : Int) - 1))) fun x29 => some (Op.bytesLess x5.Node x29.Node || (x5.Node : Str) == x29.Node)) else (some false)) fun q26 => bif q26 then (bi (some 7) fun v => some (.out v)) else (some (.go ())))) 0 l ())
    (rangeM (σ := Unit) (ρ := Int) (fun i11 x13 s12 => bi (m_laneref2_Key x13.Node) fun y22 => bi (bif !y22 then (some true) else (bi (m_laneref1_LabelForm x13.Label) fun y28 => some (!y28))) fun q24 => bif q24 then (bi (some 5) fun v => some (.out v)) else (bi (bif decide (((i11 : Int) : Int) > 0) then (bi (getZ l (wi ((i11 : Int) - 1))) fun x37 => some (Op.bytesLess x13.Node x37.Node || (x13.Node : Str) == x37.Node)) else (some false)) fun q34 => bif q34 then (bi (some 7) fun v => some (.out v)) else (some (.go ())))) 0 l ())
    (LSR (fun _ _ => l.Pairwise fun a b => a.Node ≠ b.Node) fun r q => r = q ∧ r ≠ 0) := by
  refine two_mono (two_rangeM (fun i s t => Up T_api_Called.Node l i) (fun r q => r = q ∧ r ≠ 0) (fun j a b hj => by omega) ?_) fun r q hrq => ?_
  · intro i x s t hx hup
    have hi := (List.getElem?_eq_some_iff.1 hx).1
    obtain ⟨h1, h2⟩ := h.2 x (List.mem_of_getElem? hx)
    obtain ⟨b, b1, b2⟩ := key_tab _ h1
    have hlen := labT_len _ h2
    obtain ⟨o, o1, o2⟩ := ord_get l T_api_Called.Node x i hi (by have := h.1; omega)
    simp only [b1, b2, bi_some, isLabel_ok 398 x.Label (by omega), labelForm_ok x.Label (by omega)]
    rw [o1]
    cases b with
    | false => exact ⟨_, _, rfl, rfl, rfl, by decide⟩
    | true =>
      cases isLabB x.Label with
      | false => exact ⟨_, _, rfl, rfl, rfl, by decide⟩
      | true =>
        cases o with
        | true => exact ⟨_, _, rfl, rfl, rfl, by decide⟩
        | false => exact ⟨_, _, rfl, rfl, hup.next hx (o2 rfl)⟩
  · cases r <;> cases q <;> first | exact hrq.elim | exact Up.ne hrq | exact hrq
theorem nodesF_ok (l : List T_api_Node) (h : okNs l) : Two
    (rangeM (σ := Unit) (ρ := Int) (fun i3 x5 s4 => bi (m_kit_IsKey 400 x5.Key) fun y14 => bif !y14 then (bi (some 5) fun v => some (.out v)) else (bi (bif decide (((i3 : Int) : Int) > 0) then (bi (getZ l (wi ((i3 : Int) - 1))) fun x23 => some (Op.bytesLess x5.Key x23.Key || (x5.Key : Str) == x23.Key)) else (some false)) fun q20 => bif q20 then (bi (some 7) fun v => some (.out v)) else (bif decide (((x5.Addrs.length : Int) : Int) > 4) then (bi (some 2) fun v => some (.out v)) else (bi (rangeM (σ := Unit) (ρ := LS Unit Int) (fun i34 x36 s35 => bi (m_addr_CheckAddr x36) fun y45 => bif (y45 : Int) != 0 then (bi (bi (some y45) fun v => some (.out v)) fun v => some (.out v)) else (some (.go ()))) 0 x5.Addrs ()) fun q => goI q fun a39 => some (.go ()))))) 0 l ())
    (rangeM (σ := Unit) (ρ := Int) (fun i46 x48 s47 => bi (m_laneref2_Key x48.Key) fun y57 => bif !y57 then (bi (some 5) fun v => some (.out v)) else (bi (bif decide (((i46 : Int) : Int) > 0) then (bi (getZ l (wi ((i46 : Int) - 1))) fun x66 => some (Op.bytesLess x48.Key x66.Key || (x48.Key : Str) == x66.Key)) else (some false)) fun q63 => bif q63 then (bi (some 7) fun v => some (.out v)) else (bif decide (((x48.Addrs.length : Int) : Int) > 4) then (bi (some 2) fun v => some (.out v)) else (bi (rangeM (σ := Unit) (ρ := LS Unit Int) (fun i77 x79 s78 => bi (m_laneref2_AddrFault x79) fun y88 => bif (y88 : Int) != 0 then (bi (bi (some y88) fun v => some (.out v)) fun v => some (.out v)) else (some (.go ()))) 0 x48.Addrs ()) fun q => goI q fun a82 => some (.go ()))))) 0 l ())
    (LSR (fun _ _ => True) fun r q => r = q ∧ r ≠ 0) := by
  refine two_mono (two_rangeM (fun i s t => True) (fun r q => r = q ∧ r ≠ 0) trivial ?_) fun r q hrq => hrq
  intro i x s t hx _
  have hi := (List.getElem?_eq_some_iff.1 hx).1
  obtain ⟨⟨h1, h2⟩, h3, _⟩ := h.2.2 x (List.mem_of_getElem? hx)
  obtain ⟨b, b1, b2⟩ := key_tab _ h1
  obtain ⟨o, o1, _⟩ := ord_get l T_api_Node.Key x i hi (by have := h.1; omega)
  simp only [b1, b2, bi_some]
  rw [o1, decide_eq_false (show ¬ (x.Addrs.length : Int) > 4 by omega)]
  cases b with
  | false => exact ⟨_, _, rfl, rfl, rfl, by decide⟩
  | true =>
    cases o with
    | true => exact ⟨_, _, rfl, rfl, rfl, by decide⟩
    | false =>
      simp only [Bool.not_true, cond_false, bi_some]
      refine two_bi (two_rangeM (fun i s t => True) (fun (r q : LS Unit Int) => r = q ∧ ∃ v, r = .out v ∧ v ≠ 0) trivial ?_) ?_
      · intro j a s t ha _
        obtain ⟨e, e1, e2⟩ := addr_ok a (h2 a (List.mem_of_getElem? ha)).h0
        simp only [e1, e2, bi_some]
        cases he : (e != 0) with
        | false => exact ⟨_, _, rfl, rfl, trivial⟩
        | true => exact ⟨_, _, rfl, rfl, rfl, e, rfl, by simpa using he⟩
      · rintro r q hrq
        cases r <;> cases q
        · exact ⟨_, _, rfl, rfl, trivial⟩
        · exact hrq.elim
        · exact hrq.elim
        · obtain ⟨rfl, v, rfl, hv⟩ := hrq
          exact ⟨_, _, rfl, rfl, rfl, hv⟩
/-! ### Records -/
def Inv (life : Int) (n : Nat) (s : List T_api_Record) : Prop := s.length ≤ n ∧ ∀ r ∈ s, OneLife life r ∧ okRec r
theorem Inv.add {life : Int} {n m : Nat} {s : List T_api_Record} (h : Inv life n s) {r : T_api_Record} (h1 : OneLife life r) (h2 : okRec r) (hm : n + 1 ≤ m) : Inv life m (s ++ [r]) :=
  ⟨by simp; have := h.1; omega, fun x hx => by
    rcases List.mem_append.1 hx with hx | hx
    · exact h.2 x hx
    · simp only [List.mem_singleton] at hx; subst hx; exact ⟨h1, h2⟩⟩
theorem Inv.up {life : Int} {n m : Nat} {s : List T_api_Record} (h : Inv life n s) (hm : n ≤ m) : Inv life m s := ⟨Nat.le_trans h.1 hm, h.2⟩
theorem addrs_two (life : Int) (root nm : Str) (hr : root.length ≤ 30) (hn : nm.length ≤ 100) (A : List T_api_Addr) (hA : ∀ a ∈ A, AOk a) (s : List T_api_Record) (n : Nat) (hs : Inv life n s) (hb : n + 2 * A.length ≤ 1000) : Two
    (rangeF (σ := List T_api_Record) (fun i45 x47 s46 => bi (bif x47.Six then (some 28) else (some 1)) fun q56 => bi (apd s46 [(⟨nm, q56, x47, [], [], life⟩ : T_api_Record)]) fun y60 => bi (m_name_back 400 x47) fun y62 => bi (m_name_under y62 root) fun y64 => bif y64 then (bi (apd y60 [(⟨y62, 12, (⟨false, 0, 0⟩ : T_api_Addr), nm, [], life⟩ : T_api_Record)]) fun y67 => some y67) else (some y60)) 0 A s)
    (rangeF (σ := List T_api_Record) (fun i29 x31 s30 => bi (bif x31.Six then (some 28) else (some 1)) fun q40 => bi (apd s30 [(⟨nm, q40, x31, [], [], life⟩ : T_api_Record)]) fun y44 => bi (m_laneref1_BackName 400 x31) fun y46 => bi (m_laneref1_IsUnder y46 root) fun y48 => bif y48 then (bi (apd y44 [(⟨y46, 12, (⟨false, 0, 0⟩ : T_api_Addr), nm, [], life⟩ : T_api_Record)]) fun y51 => some y51) else (some y44)) 0 A s)
    (fun r q => r = q ∧ Inv life (n + 2 * A.length) r) := by
  refine two_rangeF (fun i r q => r = q ∧ Inv life (n + 2 * i) r) ⟨rfl, hs⟩ ?_
  rintro i a r _ ha ⟨rfl, hi⟩
  have hlt := (List.getElem?_eq_some_iff.1 ha).1
  have hok := hA a (List.mem_of_getElem? ha)
  obtain ⟨bk, k1, k2, k3⟩ := back_ok hok
  obtain ⟨u, u1, _⟩ := under_ok bk root (by omega) (by omega)
  have hw : ([] : Str) ∈ wordsT := by decide
  obtain ⟨kd, hkd, hone⟩ : ∃ kd : Int, (bif a.Six then (some 28) else (some 1) : Option Int) = some kd ∧ OneLife life (⟨nm, kd, a, [], [], life⟩ : T_api_Record) := by
    cases hx : a.Six with
    | true => exact ⟨28, rfl, rfl, .inl ⟨rfl, hx⟩⟩
    | false => exact ⟨1, rfl, rfl, .inr (.inl ⟨rfl, hx⟩)⟩
  have h1 : Inv life (n + 2 * i + 1) (r ++ [(⟨nm, kd, a, [], [], life⟩ : T_api_Record)]) := hi.add hone ⟨by simp only; omega, by simp, hw, hok.h0⟩ (Nat.le_refl _)
  have hl1 := hi.1
  have hl2 := h1.1
  simp only [hkd, bi_some]
  rw [apd_some (by simp; omega)]
  simp only [bi_some, k1, k2, under_eq, u1]
  cases u with
  | false => exact ⟨_, _, rfl, rfl, rfl, h1.up (by omega)⟩
  | true =>
    simp only [cond_true]
    rw [apd_some (by rw [List.length_singleton]; omega)]
    exact ⟨_, _, rfl, rfl, rfl, h1.add ⟨rfl, .inr (.inr ⟨rfl, rfl⟩)⟩ ⟨by simp only; omega, by simp only; omega, hw, by simp⟩ (by omega)⟩
/-- A loop that does something for the one that it seeks alone. -/
theorem rangeF_one {α σ : Type} (p : α → Bool) (G : α → σ → Option σ) : ∀ (l : List α) (i : Nat) (s : σ), (l.Pairwise fun a b => ¬ (p a = true ∧ p b = true)) →
    rangeF (fun (_ : Nat) (x : α) (s : σ) => bif !(p x) then (some s) else G x s) i l s = (match l.find? p with | none => some s | some c => G c s)
  | [], i, s, _ => rfl
  | x :: l, i, s, h => by
    obtain ⟨h1, h2⟩ := List.pairwise_cons.1 h
    simp only [rangeF, List.find?_cons]
    cases hp : p x with
    | false => simp only [Bool.not_false, cond_true, bi_some]; exact rangeF_one p G l (i + 1) s h2
    | true =>
      simp only [Bool.not_true, cond_false]
      cases hG : G x s with
      | none => rfl
      | some s' =>
        simp only [bi_some]
        rw [rangeF_one p G l (i + 1) s' h2]
        have : l.find? p = none := List.find?_eq_none.2 fun y hy hpy => h1 y hy ⟨hp, hpy⟩
        rw [this]
theorem labels_map : ∀ (l : List T_api_Called) (i : Nat) (m : List (Str × Str)), (l.Pairwise fun a b => a.Node ≠ b.Node) →
    ∃ m', rangeF (σ := List (Str × Str)) (fun i17 x19 s18 => some (mSet s18 x19.Node x19.Label)) i l m = some m' ∧ ∀ K, mGet m' K = (match l.find? (fun c => (c.Node : Str) == K) with | some c => some c.Label | none => mGet m K)
  | [], i, m, _ => ⟨m, rfl, fun K => rfl⟩
  | x :: l, i, m, h => by
    obtain ⟨h1, h2⟩ := List.pairwise_cons.1 h
    obtain ⟨m', e1, e2⟩ := labels_map l (i + 1) (mSet m x.Node x.Label) h2
    refine ⟨m', by simp only [rangeF, bi_some]; exact e1, fun K => ?_⟩
    rw [e2, List.find?_cons]
    cases hp : ((x.Node : Str) == K) with
    | true =>
      have hK : x.Node = K := by simpa using hp
      have : l.find? (fun c => (c.Node : Str) == K) = none := List.find?_eq_none.2 fun y hy hpy => by
        have : y.Node = K := by simpa using hpy
        exact h1 y hy (by rw [hK, this])
      rw [this]
      simp only
      rw [mGet_set, ← hK]
      simp
    | false =>
      simp only
      cases l.find? (fun c => (c.Node : Str) == K) with
      | some c => rfl
      | none =>
        simp only
        rw [mGet_set]
        have : (K == x.Node) = false := by
          cases h : (K == x.Node) with
          | false => rfl
          | true => have : K = x.Node := by simpa using h
                    rw [this] at hp; simp at hp
        rw [this]
        rfl
end Go.Gk
