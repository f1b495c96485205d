/-
  The plain laws of routers: who leads, which way, and the exits, told by the program and by the reference.
-/
import Derived.Test.YtnjnmkpgedkffaaGreatDoorWGroup
set_option linter.unusedVariables false
set_option linter.unusedSimpArgs false
set_option linter.unusedSectionVars false
set_option maxRecDepth 100000
namespace Go.Gk
theorem rangeG_L {α σ : Type} {f : Nat → σ → Option σ} {g : Nat → α → σ → Option σ} (l : List α) (h : ∀ (j : Nat) x s, l[j]? = some x → f j s = g j x s) (s : σ) : rangeG f (l.length : Int) s = rangeF g 0 l s := by
  have key : ∀ (m : List α) (i : Nat) (s : σ), (∀ (j : Nat) x s, m[j]? = some x → f (i + j) s = g (i + j) x s) → rangeF (fun i (_ : Unit) s => f i s) i (List.replicate m.length ()) s = rangeF g i m s := by
    intro m
    induction m with
    | nil => intro i s _; rfl
    | cons x m ih =>
      intro i s h
      have h0 := h 0 x s (by simp)
      rw [Nat.add_zero] at h0
      simp only [List.length_cons, List.replicate_succ, rangeF, h0]
      cases g i x s with
      | none => rfl
      | some y => exact ih (i + 1) y fun j y s hy => by rw [show i + 1 + j = i + (j + 1) by omega]; exact h (j + 1) y s (by simpa using hy)
  unfold rangeG
  rw [Int.toNat_natCast]
  exact key l 0 s fun j x s hx => by rw [Nat.zero_add]; exact h j x s hx
theorem whoAt_ex (Q : List T_api_Turn) (t : Int) : ∃ s, m_route_whoAt Q t = some s ∧ m_laneref1_turnAt Q t = some s := by
  have : m_laneref1_turnAt Q t = m_route_whoAt Q t := rfl
  rw [this]
  unfold m_route_whoAt
  obtain ⟨r, hr⟩ := rangeM_ex (f := fun (i1 : Nat) (x3 : T_api_Turn) (s2 : Unit) => bif ((decide ((x3.From : Int) ≤ t)) && (decide ((t : Int) < x3.To))) then (bi (some x3.Who) fun v => some (LS.out (σ := Unit) v)) else (some (.go ()))) Q 0 (fun j x _ _ => by
    cases ((decide ((x.From : Int) ≤ t)) && (decide ((t : Int) < x.To))) <;> exact ⟨_, rfl⟩)
  have h2 : ∀ o, o = some r → ∃ s, (bi o fun q => goI q fun a6 => some ([] : Str)) = some s ∧ (bi o fun q => goI q fun a6 => some ([] : Str)) = some s := by
    intro o ho
    subst ho
    cases r with
    | out s => exact ⟨s, rfl, rfl⟩
    | go u => exact ⟨[], rfl, rfl⟩
  exact h2 _ hr
section
variable {all : List Rt} {l : List T_api_Health} (hr : ValR all) (hla : all.length ≤ 19) (hv : ValH l) (hl : l.length ≤ 40)
/-- Who leads a prefix at a moment; empty: nobody. -/
def fstAt (all : List Rt) (l : List T_api_Health) (t : Int) (p : T_api_Prefix) : Str := (m_laneref1_FirstAt 400 all l p t).getD []
include hr hla hv hl
theorem fstAt_ok (t : Int) (p : T_api_Prefix) : ∃ Q, m_route_turns 400 (all.filter fun x => decide (x.Prefix = p)) l = some Q ∧ m_laneref1_FirstTurns 400 all l p = some Q ∧ m_route_whoAt Q t = some (fstAt all l t p) ∧ m_laneref1_FirstAt 400 all l p t = some (fstAt all l t p) := by
  obtain ⟨Q, h1, h2⟩ := turns_two hr hla hv hl p
  obtain ⟨s, h3, h4⟩ := whoAt_ex Q t
  have e : m_laneref1_FirstAt 400 all l p t = some s := by unfold m_laneref1_FirstAt; rw [h2]; simp only [bi_some, h4]
  have e2 : fstAt all l t p = s := by unfold fstAt; rw [e]; rfl
  rw [e2]
  exact ⟨Q, h1, h2, h3, e⟩
def ldF (F : T_api_Prefix → Str) (ps : List T_api_Prefix) : List T_api_Lead := (ps.filter fun p => decide (F p ≠ [])).map fun p => ⟨p, F p⟩
omit hr hla hv hl in
theorem ldF_snoc (F : T_api_Prefix → Str) (ps : List T_api_Prefix) (p : T_api_Prefix) : ldF F (ps ++ [p]) = if F p = [] then ldF F ps else ldF F ps ++ [⟨p, F p⟩] := by
  unfold ldF
  rw [List.filter_append]
  by_cases h : F p = []
  · rw [if_pos h, List.filter_cons_of_neg (by simpa using h)]; simp
  · rw [if_neg h, List.filter_cons_of_pos (by simpa using h)]; simp
omit hr hla hv hl in
theorem ldF_len (F : T_api_Prefix → Str) (ps : List T_api_Prefix) : (ldF F ps).length ≤ ps.length := by
  unfold ldF
  rw [List.length_map]
  exact List.length_filter_le _ _
omit hr hla hv hl in
theorem hd_len : ∀ (A : List Rt), (hd A).length ≤ A.length := by
  have key : ∀ (B : List Rt) (ps : List T_api_Prefix), (B.foldl hdS ps).length ≤ ps.length + B.length := by
    intro B
    induction B with
    | nil => intro ps; simp
    | cons x B ih =>
      intro ps
      rw [List.foldl_cons]
      refine Nat.le_trans (ih _) ?_
      unfold hdS
      split
      · simp
        try omega
      · simp
        try omega
  intro A
  have := key A []
  unfold hd
  simpa using this
theorem firsts_ok (t : Int) (al : List Bool) : ∃ al', m_route_firsts 400 all l t al = some (ldF (fstAt all l t) (hd all), al') := by
  unfold m_route_firsts
  obtain ⟨G, al', hG, hm⟩ := groups_ok all hr (by omega) al
  rw [hG]
  simp only [bi_some]
  refine ⟨al', ?_⟩
  have key : ∀ (ps : List T_api_Prefix) (G : List T_route_group) (i : Nat) (s : List T_api_Lead), G.map (fun g => (g.v_prefix, g.list.2)) = ps.map (fun p => (p, all.filter fun x => decide (x.Prefix = p))) → s.length + ps.length ≤ 1000 →
      rangeF (σ := List T_api_Lead) (fun i3 (x5 : T_route_group) s4 => bi (m_route_turns 400 x5.list.2 l) fun y14 => bi (m_route_whoAt y14 t) fun y16 => bif !((y16 : Str) == []) then (bi (apd s4 [(⟨x5.v_prefix, y16⟩ : T_api_Lead)]) fun y19 => some y19) else (some s4)) i G s = some (s ++ ldF (fstAt all l t) ps) := by
    intro ps
    induction ps with
    | nil =>
      intro G i s hG _
      have : G = [] := by simpa using hG
      subst this
      simp [rangeF, ldF]
    | cons p ps ih =>
      intro G i s hG hs
      cases G with
      | nil => cases hG
      | cons g G =>
        simp only [List.map_cons] at hG
        have h1 := List.cons.inj hG
        have h2 := Prod.mk.inj h1.1
        obtain ⟨Q, q1, _, q3, _⟩ := fstAt_ok hr hla hv hl t p
        simp only [List.length_cons] at hs
        simp only [rangeF]
        rw [h2.2, q1]
        simp only [bi_some]
        rw [q3]
        simp only [bi_some]
        by_cases hF : fstAt all l t p = []
        · rw [hF]
          simp only [beq_self_eq_true, Bool.not_true, cond_false, bi_some]
          rw [ih G (i + 1) s h1.2 (by omega)]
          unfold ldF
          rw [List.filter_cons_of_neg (by simpa using hF)]
        · rw [beq_eq_false_iff_ne.2 hF]
          simp only [Bool.not_false, cond_true]
          rw [apd_some (by simp; omega)]
          simp only [bi_some]
          rw [ih G (i + 1) _ h1.2 (by simp; omega), h2.1]
          unfold ldF
          rw [List.filter_cons_of_pos (by simpa using hF)]
          simp
  rw [key (hd all) G 0 [] hm (by have := hd_len all; simp; omega)]
  simp
theorem leadsAt_ok (t : Int) : m_laneref1_LeadsAt 400 all l t = some (ldF (fstAt all l t) (hd all)) := by
  unfold m_laneref1_LeadsAt
  refine bi_rangeF (fun i s => s = ldF (fstAt all l t) (hd (all.take i))) rfl ?_ (fun r h => by rw [h, List.take_length])
  intro i x s hx hs
  subst hs
  have hil := (List.getElem?_eq_some_iff.1 hx).1
  have htk : all.take (i + 1) = all.take i ++ [x] := by rw [List.take_add_one, hx]; rfl
  obtain ⟨Q, _, _, _, q4⟩ := fstAt_ok hr hla hv hl t x.Prefix
  have hq : (bif decide (((i : Int) : Int) > 0) then (bi (getZ all (wi ((i : Int) - 1))) fun x15 => some ((((x15.Prefix.Addr.Six : Bool) == x.Prefix.Addr.Six) && (((x15.Prefix.Addr.Hi : Int) == x.Prefix.Addr.Hi) && (((x15.Prefix.Addr.Lo : Int) == x.Prefix.Addr.Lo) && true))) && (((x15.Prefix.Bits : Int) == x.Prefix.Bits) && true))) else (some false)) = some (decide ((hd (all.take i)).getLast? = some x.Prefix)) := by
    rw [hd_last]
    cases i with
    | zero => rfl
    | succ i =>
      have hi : all[i]? = some (all[i]'(by omega)) := List.getElem?_eq_getElem _
      have hw : wi (((i + 1 : Nat) : Int) - 1) = (i : Int) := by rw [wi_id (by omega) (by omega)]; omega
      rw [decide_eq_true (show ((i + 1 : Nat) : Int) > 0 by omega), hw]
      simp only [cond_true, getZ_cast, hi, bi_some, prefix_eq]
      have h5 : (all.take (i + 1)).getLast? = some (all[i]'(by omega)) := by
        have h6 : all.take (i + 1) = all.take i ++ [all[i]'(by omega)] := by rw [List.take_add_one, hi]; rfl
        rw [h6, List.getLast?_concat]
      rw [h5]
      simp
  refine ⟨_, ?_, rfl⟩
  rw [hq]
  simp only [bi_some]
  rw [htk, hd_snoc]
  unfold hdS
  by_cases h : (hd (all.take i)).getLast? = some x.Prefix
  · rw [decide_eq_true h, if_pos h]; rfl
  · rw [decide_eq_false h, if_neg h]
    simp only [cond_false]
    rw [q4]
    simp only [bi_some]
    rw [ldF_snoc]
    by_cases hF : fstAt all l t x.Prefix = []
    · rw [if_pos hF, hF]; rfl
    · rw [if_neg hF, beq_eq_false_iff_ne.2 hF]
      simp only [Bool.not_false, cond_true]
      rw [apd_some (by have h1 := ldF_len (fstAt all l t) (hd (all.take i)); have h2 := hd_len (all.take i); simp only [List.length_take, List.length_singleton] at h2 ⊢; omega)]
      rfl
omit hla hv hl in
/-- The way: the longest. -/
theorem way_ok (F : T_api_Prefix → Str) {a : T_api_Addr} (ha : AOk a) : ∃ w f,
    rangeF (σ := T_api_Lead × Bool) (fun i15 (x17 : T_api_Lead) s16 => bi (m_span_Contains x17.Prefix a) fun y26 => bif (y26 && ((!s16.2) || (decide ((x17.Prefix.Bits : Int) > s16.1.Prefix.Bits)))) then (some (x17, true)) else (some (s16.1, s16.2))) 0 (ldF F (hd all)) ((⟨(⟨(⟨false, 0, 0⟩ : T_api_Addr), 0⟩ : T_api_Prefix), []⟩ : T_api_Lead), false) = some (w, f) ∧
    (bi (rangeF (σ := T_api_Lead) (fun i3 (x5 : T_api_Lead) s4 => bi (m_laneref2_Holds 400 x5.Prefix a) fun y14 => bif (y14 && (decide ((x5.Prefix.Bits : Int) > s4.Prefix.Bits))) then (some x5) else (some s4)) 0 (ldF F (hd all)) (⟨(⟨(⟨false, 0, 0⟩ : T_api_Addr), -1⟩ : T_api_Prefix), []⟩ : T_api_Lead)) fun q6 => bif (q6.Node : Str) == [] then (some ((⟨(⟨(⟨false, 0, 0⟩ : T_api_Addr), 0⟩ : T_api_Prefix), []⟩ : T_api_Lead), false)) else (some (q6, true))) = some (w, f) := by
  have hmem : ∀ x ∈ ldF F (hd all), VP x.Prefix ∧ x.Node ≠ [] := by
    intro x hx
    unfold ldF at hx
    obtain ⟨p, hp, rfl⟩ := List.mem_map.1 hx
    obtain ⟨h1, h2⟩ := List.mem_filter.1 hp
    obtain ⟨y, hy, e⟩ := (hd_mem all p).1 h1
    exact ⟨e ▸ (hr.1 y hy).1, by simpa using h2⟩
  generalize ldF F (hd all) = m at hmem
  have key := rangeF_two m (fun (_ : Nat) (s : T_api_Lead × Bool) (t : T_api_Lead) => (s = ((⟨(⟨(⟨false, 0, 0⟩ : T_api_Addr), 0⟩ : T_api_Prefix), []⟩ : T_api_Lead), false) ∧ t = (⟨(⟨(⟨false, 0, 0⟩ : T_api_Addr), -1⟩ : T_api_Prefix), []⟩ : T_api_Lead)) ∨ (s = (t, true) ∧ t.Node ≠ []))
    (f := fun i15 (x17 : T_api_Lead) s16 => bi (m_span_Contains x17.Prefix a) fun y26 => bif (y26 && ((!s16.2) || (decide ((x17.Prefix.Bits : Int) > s16.1.Prefix.Bits)))) then (some (x17, true)) else (some (s16.1, s16.2)))
    (g := fun i3 (x5 : T_api_Lead) s4 => bi (m_laneref2_Holds 400 x5.Prefix a) fun y14 => bif (y14 && (decide ((x5.Prefix.Bits : Int) > s4.Prefix.Bits))) then (some x5) else (some s4))
    (by
      intro i x s t hx hI
      obtain ⟨h1, h2⟩ := hmem x (List.mem_of_getElem? hx)
      have hb := h1.bits
      rw [contains_ok h1 ha, holds_ok h1 ha 400 (by decide)]
      simp only [bi_some]
      rcases hI with ⟨rfl, rfl⟩ | ⟨rfl, h3⟩
      · rw [decide_eq_true (show x.Prefix.Bits > -1 by omega)]
        cases hold x.Prefix a with
        | true => exact ⟨_, _, rfl, rfl, .inr ⟨rfl, h2⟩⟩
        | false => exact ⟨_, _, rfl, rfl, .inl ⟨rfl, rfl⟩⟩
      · simp only [Bool.not_true, Bool.false_or]
        cases (hold x.Prefix a && decide (x.Prefix.Bits > t.Prefix.Bits)) with
        | true => exact ⟨_, _, rfl, rfl, .inr ⟨rfl, h2⟩⟩
        | false => exact ⟨_, _, rfl, rfl, .inr ⟨rfl, h3⟩⟩) m 0 _ _ rfl (.inl ⟨rfl, rfl⟩)
  obtain ⟨s, t, e1, e2, hI⟩ := key
  rw [e1, e2]
  rcases hI with ⟨rfl, rfl⟩ | ⟨rfl, h3⟩
  · exact ⟨_, _, rfl, rfl⟩
  · refine ⟨_, _, rfl, ?_⟩
    simp only [bi_some]
    rw [beq_eq_false_iff_ne.2 h3]
    rfl
end
/-! ### Exits -/
theorem sorted_eq : ∀ (a b : List Rt), a.Pairwise (fun x y => y.Weight ≤ x.Weight) → b.Pairwise (fun x y => y.Weight ≤ x.Weight) → (∀ w : Int, a.filter (fun r => decide (r.Weight = w)) = b.filter fun r => decide (r.Weight = w)) → a = b
  | [], [], _, _, _ => rfl
  | [], y :: b, _, _, h => by have := h y.Weight; rw [List.filter_cons_of_pos (by simp)] at this; cases this
  | x :: a, [], _, _, h => by have := h x.Weight; rw [List.filter_cons_of_pos (by simp)] at this; cases this
  | x :: a, y :: b, ha, hb, h => by
    have hx : x ∈ y :: b := (List.mem_filter.1 (h x.Weight ▸ List.mem_filter.2 ⟨List.mem_cons_self, by simp⟩ : x ∈ (y :: b).filter fun r => decide (r.Weight = x.Weight))).1
    have hy : y ∈ x :: a := (List.mem_filter.1 ((h y.Weight).symm ▸ List.mem_filter.2 ⟨List.mem_cons_self, by simp⟩ : y ∈ (x :: a).filter fun r => decide (r.Weight = y.Weight))).1
    rw [List.pairwise_cons] at ha hb
    have hw : x.Weight = y.Weight := by
      have h1 : x.Weight ≤ y.Weight := by
        rcases List.mem_cons.1 hx with e | e
        · rw [e]; exact Int.le_refl _
        · exact hb.1 x e
      have h2 : y.Weight ≤ x.Weight := by
        rcases List.mem_cons.1 hy with e | e
        · rw [e]; exact Int.le_refl _
        · exact ha.1 y e
      omega
    have h0 := h x.Weight
    rw [List.filter_cons_of_pos (by simp), List.filter_cons_of_pos (by simpa using hw.symm)] at h0
    have hxy := (List.cons.inj h0).1
    subst hxy
    congr 1
    refine sorted_eq a b ha.2 hb.2 fun w => ?_
    have hw := h w
    by_cases e : x.Weight = w
    · rw [List.filter_cons_of_pos (by simpa using e), List.filter_cons_of_pos (by simpa using e)] at hw
      exact (List.cons.inj hw).2
    · rw [List.filter_cons_of_neg (by simpa using e), List.filter_cons_of_neg (by simpa using e)] at hw
      exact hw
theorem nodes_ok (y : List Rt) (hy : y.length ≤ 40) : rangeG (σ := List Str) (fun i17 s18 => bi (getZ y (i17 : Int)) fun x29 => bi (apd s18 [x29.Node]) fun y32 => some y32) (y.length : Int) ([] : List Str) = some (y.map (·.Node)) := by
  rw [rangeG_L (g := fun i (x : Rt) s => bi (apd s [x.Node]) fun y32 => some y32) y (fun j x s hx => by simp only [getZ_cast, hx, bi_some])]
  have key : ∀ (m : List Rt) (i : Nat) (s : List Str), s.length + m.length ≤ 1000 → rangeF (fun i (x : Rt) s => bi (apd s [x.Node]) fun y32 => some y32) i m s = some (s ++ m.map (·.Node)) := by
    intro m
    induction m with
    | nil => intro i s _; simp [rangeF]
    | cons x m ih =>
      intro i s hs
      simp only [List.length_cons] at hs
      simp only [rangeF]
      rw [apd_some (by simp; omega)]
      simp only [bi_some]
      rw [ih (i + 1) _ (by simp; omega)]
      simp
  rw [key y 0 [] (by simp; omega)]
  rfl
theorem nodesUp_ok (l : List T_api_Health) (t : Int) (y : List Rt) (hy : y.length ≤ 40) : rangeG (σ := List Str) (fun i7 s8 => bi (getZ y (i7 : Int)) fun x19 => bi (m_laneref1_UpAt l x19.Node t) fun y22 => bif y22 then (bi (apd s8 [x19.Node]) fun y25 => some y25) else (some s8)) (y.length : Int) ([] : List Str) = some ((y.filter fun x => upAt l x.Node t).map (·.Node)) := by
  rw [rangeG_L (g := fun i (x : Rt) s => bif upAt l x.Node t then (bi (apd s [x.Node]) fun y25 => some y25) else (some s)) y (fun j x s hx => by simp only [getZ_cast, hx, bi_some, upAt_ok])]
  have key : ∀ (m : List Rt) (i : Nat) (s : List Str), s.length + m.length ≤ 1000 → rangeF (fun i (x : Rt) s => bif upAt l x.Node t then (bi (apd s [x.Node]) fun y25 => some y25) else (some s)) i m s = some (s ++ (m.filter fun x => upAt l x.Node t).map (·.Node)) := by
    intro m
    induction m with
    | nil => intro i s _; simp [rangeF]
    | cons x m ih =>
      intro i s hs
      simp only [List.length_cons] at hs
      simp only [rangeF]
      cases hu : upAt l x.Node t with
      | true =>
        rw [cond_true, apd_some (by simp; omega)]
        simp only [bi_some]
        rw [ih (i + 1) _ (by simp; omega), List.filter_cons_of_pos (p := fun x : Rt => upAt l x.Node t) hu]
        simp
      | false =>
        simp only [cond_false, bi_some]
        rw [ih (i + 1) s (by omega), List.filter_cons_of_neg (p := fun x : Rt => upAt l x.Node t) (by simpa using hu)]
  rw [key y 0 [] (by simp; omega)]
  rfl
theorem ex1_ok {l : List T_api_Health} (hv : ValH l) (x : Rt) (six : Bool) (t : Int) : m_route_Exits_1 x six l t = some (!(decide (x.Prefix = ⟨⟨six, 0, 0⟩, 0⟩) && upAt l x.Node t)) := by
  unfold m_route_Exits_1
  have := prefix_eq x.Prefix ⟨⟨six, 0, 0⟩, 0⟩
  simp only at this
  rw [this, isUp_ok hv.2]
  cases decide (x.Prefix = ⟨⟨six, 0, 0⟩, 0⟩) <;> rfl
theorem del1_ok {l : List T_api_Health} (hv : ValH l) (all : List Rt) (hla : all.length ≤ 40) (six : Bool) (t : Int) : m_slices_DeleteFunc_api_Router_api_Router 400 all six l t = some (all.filter fun x => decide (x.Prefix = ⟨⟨six, 0, 0⟩, 0⟩) && upAt l x.Node t) := by
  have hix : m_slices_IndexFunc_api_Router_api_Router all six l t = some (ixZ (fun x => !(decide (x.Prefix = ⟨⟨six, 0, 0⟩, 0⟩) && upAt l x.Node t)) all) := by
    unfold m_slices_IndexFunc_api_Router_api_Router
    rw [small_gd (by omega), gd_true, bi_rangeI_ix (fun x : T_api_Router => !(decide (x.Prefix = ⟨⟨six, 0, 0⟩, 0⟩) && upAt l x.Node t)) all]
    intro j x hx
    simp only [getZ_cast, hx, bi_some, ex1_ok hv]
    cases (decide (x.Prefix = ⟨⟨six, 0, 0⟩, 0⟩) && upAt l x.Node t) <;> rfl
  unfold m_slices_DeleteFunc_api_Router_api_Router
  rw [hix]
  simp only [bi_some]
  rw [del_ok (fun x : T_api_Router => !(decide (x.Prefix = ⟨⟨six, 0, 0⟩, 0⟩) && upAt l x.Node t)) (fun x => m_route_Exits_1 x six l t) all 400 (fun x _ => ex1_ok hv x six t) (by omega) (by omega)]
  simp
/-- The exits, two ways. -/
theorem exits_two {all : List Rt} {l : List T_api_Health} (hla : all.length ≤ 19) (hv : ValH l) (six : Bool) (t : Int) : ∃ E,
    (bi (m_slices_Clone_api_Router_api_Router all) fun y9 => bi (m_slices_DeleteFunc_api_Router_api_Router 400 y9 six l t) fun y11 => bi (m_slices_SortStableFunc_api_Router_api_Router 400 y11) fun y13 => gd (decide (y13.length = y11.length)) (bi (gd (decide ((y13.length : Int) ≤ 9223372036854775807)) (rangeG (σ := List Str) (fun i17 s18 => bi (getZ y13 (i17 : Int)) fun x29 => bi (apd s18 [x29.Node]) fun y32 => some y32) (y13.length : Int) ([] : List Str))) fun q20 => some (q20, (0 : Int)))) = some (E, 0) ∧
    m_laneref1_ExitsAt 400 all l six t = some E := by
  obtain ⟨m1, a1, a2, a3, a4⟩ := sort1_ok (all.filter fun x => decide (x.Prefix = ⟨⟨six, 0, 0⟩, 0⟩) && upAt l x.Node t) (Nat.le_trans (List.length_filter_le _ _) hla)
  obtain ⟨m3, b1, b2, b3, b4⟩ := sort3_ok (all.filter fun x => decide (x.Prefix = ⟨⟨six, 0, 0⟩, 0⟩)) (Nat.le_trans (List.length_filter_le _ _) hla)
  have l1 : m1.length ≤ 19 := by rw [a3]; exact Nat.le_trans (List.length_filter_le _ _) hla
  have l3 : m3.length ≤ 19 := by rw [b3]; exact Nat.le_trans (List.length_filter_le _ _) hla
  have e : m1 = m3.filter fun x => upAt l x.Node t := by
    refine sorted_eq _ _ a2 (b2.filter _) fun w => ?_
    rw [a4.flt, List.filter_filter, List.filter_filter]
    have hb := congrArg (fun q => List.filter (fun x : Rt => upAt l x.Node t) q) (b4.flt w)
    simp only [List.filter_filter] at hb
    have h1 : (m3.filter fun a => decide (a.Weight = w) && upAt l a.Node t) = m3.filter fun a => upAt l a.Node t && decide (a.Weight = w) := List.filter_congr fun x _ => Bool.and_comm _ _
    rw [h1, hb]
    refine List.filter_congr fun x _ => ?_
    cases upAt l x.Node t <;> cases decide (x.Weight = w) <;> simp
  refine ⟨m1.map (·.Node), ?_, ?_⟩
  · unfold m_slices_Clone_api_Router_api_Router
    rw [apd_some (by simp; omega)]
    simp only [bi_some, List.nil_append]
    rw [del1_ok hv all (by omega)]
    simp only [bi_some]
    rw [a1]
    simp only [bi_some]
    rw [decide_eq_true a3, gd_true, small_gd (by omega), gd_true, nodes_ok m1 (by omega)]
    rfl
  · unfold m_laneref1_ExitsAt
    rw [routersOf_ok all (by omega)]
    simp only [bi_some]
    rw [b1]
    simp only [bi_some]
    rw [decide_eq_true b3, gd_true, small_gd (by omega), gd_true, nodesUp_ok l t m3 (by omega), e]
    rfl
end Go.Gk
