/-
  The plain law, part 5: names that are tried; ServersSplit.
-/
import Derived.Test.YtjhoahdlehkfaaaDoorPServers
set_option linter.unusedVariables false
set_option linter.unusedSimpArgs false
set_option maxRecDepth 100000
namespace Go.Gk

theorem rangeF_apd {α β : Type} (g : α → β) (f : Nat → α → List β → Option (List β)) : ∀ (l : List α) (i : Nat) (s : List β), (∀ i x s, x ∈ l → f i x s = bi (apd s [g x]) fun y => some y) → s.length + l.length ≤ 4294967296 → rangeF f i l s = some (s ++ l.map g)
  | [], i, s, _, _ => by simp [rangeF]
  | x :: l, i, s, h, hb => by
    simp only [List.length_cons] at hb
    simp only [rangeF, h i x s List.mem_cons_self]
    rw [apd_some (by simp only [List.length_cons, List.length_nil]; omega)]
    simp only [bi_some]
    rw [rangeF_apd g f l (i + 1) _ (fun i y s hy => h i y s (List.mem_cons_of_mem _ hy)) (by simp only [List.length_append, List.length_cons, List.length_nil]; omega)]
    simp
theorem rangeG_F {α σ : Type} {f : Nat → σ → Option σ} {g : Nat → α → σ → Option σ} (l0 : List α) (s : σ) (h : ∀ i x s, l0[i]? = some x → f i s = g i x s) : rangeG f (l0.length : Int) s = rangeF g 0 l0 s := by
  have key : ∀ (l : List α) (i : Nat) (s : σ), (∀ j, l[j]? = l0[i + j]?) → rangeF (fun i (_ : Unit) s => f i s) i (List.replicate l.length ()) s = rangeF g i l s := by
    intro l
    induction l with
    | nil => intro i s _; rfl
    | cons x l ih =>
      intro i s hl
      simp only [List.length_cons, List.replicate_succ, rangeF]
      rw [h i x s (by have := hl 0; simpa using this.symm)]
      congr 1
      funext s'
      exact ih (i + 1) s' fun j => by have := hl (j + 1); rw [List.getElem?_cons_succ] at this; rw [this]; congr 1; omega
  unfold rangeG
  rw [Int.toNat_natCast]
  exact key l0 0 s fun j => by rw [Nat.zero_add]

theorem contains_ok (s : List Str) (v : Str) : ∃ b, m_slices_Contains_string_string s v = some b := by
  unfold m_slices_Contains_string_string m_slices_Index_string_string
  generalize hf : (fun (i1 : Nat) (x3 : Str) (s2 : Unit) => _) = f
  obtain ⟨r, h⟩ := rangeM_ex (f := f) s 0 (by
    intro j x _ _
    subst hf
    simp only
    cases (v == x) <;> exact ⟨_, rfl⟩)
  rw [h]
  cases r <;> exact ⟨_, rfl⟩

theorem equal_self (l : List Str) : m_slices_Equal_string_string l l = some true := by
  unfold m_slices_Equal_string_string
  have : ((l.length : Int) != (l.length : Int)) = false := by simp
  rw [this]
  simp only [cond_false]
  rw [rangeM_all (fun _ => true) false l 0 (fun j x hx => by
    rw [Nat.zero_add, getZ_cast, hx]
    simp only [bi_some, beq_self_eq_true, Bool.not_true, cond_false, if_true])]
  simp [goI]

theorem names_ok (search : List Str) (dots : Int) (name : Str) (h : ∀ d ∈ search, d.length ≤ 1000000) (hl : search.length ≤ 1000) (hn : name.length ≤ 1000000) :
    ∃ r, m_name_names search dots name = some r ∧ m_laneref1_NamesTried search dots name = some r := by
  unfold m_name_names m_laneref1_NamesTried
  have hstep : ∀ (x : Str) (s : List Str), x ∈ search → (bi (catZ name [46]) fun y12 => bi (catZ y12 x) fun y14 => bi (apd s [y14]) fun y16 => some y16) = bi (apd s [(name ++ [46]) ++ x]) fun y => some y := fun x s hx => by
    have := h x hx
    rw [cat_ok (by simp only [List.length_cons, List.length_nil]; omega), bi_some, cat_ok (by simp only [List.length_append, List.length_cons, List.length_nil]; omega), bi_some]
  rw [rangeF_apd (fun x => (name ++ [46]) ++ x) _ search 0 [] (fun i x s hx => hstep x s hx) (by simp; omega), rangeF_apd (fun x => (name ++ [46]) ++ x) _ search 0 [name] (fun i x s hx => hstep x s hx) (by simp; omega)]
  simp only [List.nil_append, bi_some]
  generalize hq : search.map (fun x => (name ++ [46]) ++ x) = q
  have hql : q.length ≤ 1000 := by rw [← hq]; simpa using hl
  have hc : m_strings_Count name [46] = some ((Lib.countByte name 46 : Nat) : Int) := rfl
  rw [hc, bi_some, bi_some]
  -- what is tried
  obtain ⟨t, ht, e1, e2⟩ : ∃ t : List Str, t.length ≤ 1001 ∧ (bif decide (((Lib.countByte name 46 : Nat) : Int) < dots) then (bi (apd q [name]) fun y23 => some y23) else (bi (apd [name] q) fun y26 => some y26)) = some t ∧
      (bif decide (((Lib.countByte name 46 : Nat) : Int) < dots) then (bi (subZ ([name] ++ q) 1 ((([name] ++ q).length : Nat) : Int)) fun z23 => bi (apd z23 [name]) fun y25 => some y25) else (some ([name] ++ q))) = some t := by
    cases decide (((Lib.countByte name 46 : Nat) : Int) < dots) with
    | true =>
      refine ⟨q ++ [name], by simp; omega, ?_, ?_⟩
      · simp only [cond_true]; rw [apd_some (by simp; omega)]; rfl
      · have : subZ ([name] ++ q) 1 ((([name] ++ q).length : Nat) : Int) = some q := by
          unfold subZ
          rw [decide_eq_true (show (0 : Int) ≤ 1 by decide), decide_eq_true (show (1 : Int) ≤ (([name] ++ q).length : Nat) by simp; omega), decide_eq_true (Int.le_refl _)]
          simp
        simp only [cond_true, this, bi_some]
        rw [apd_some (by simp; omega)]; rfl
    | false =>
      refine ⟨[name] ++ q, by simp; omega, ?_, rfl⟩
      simp only [cond_false]; rw [apd_some (by simp; omega)]; rfl
  rw [e1, e2]
  rw [bi_some, bi_some]
  rw [decide_eq_true (show (t.length : Int) ≤ 9223372036854775807 by omega), gd_true]
  generalize hg : (fun (i28 : Nat) (x30 : Str) (s29 : List Str) => _) = g
  rw [rangeG_F (g := g) t [] (fun i x s hx => by
    subst hg
    simp only
    rw [getZ_cast, hx]
    rfl)]
  obtain ⟨r, h1, _⟩ := rangeF_inv (f := g) t.length (fun i s => s.length ≤ i) t 0 [] (by omega) (by simp) (by
    intro j x s hj hI hx
    subst hg
    simp only
    obtain ⟨b, hb⟩ := contains_ok s x
    rw [hb]
    cases decide ((x.length : Int) ≤ 253) with
    | false => exact ⟨s, rfl, by omega⟩
    | true =>
      cases b with
      | true => exact ⟨s, rfl, by omega⟩
      | false =>
        refine ⟨s ++ [x], ?_, by simp; omega⟩
        simp only [cond_true, bi_some, Bool.not_false]
        rw [apd_some (by simp; omega)]
        rfl)
  rw [h1]
  exact ⟨r, rfl, rfl⟩

theorem named_ok : m_lanelaw1_named 400 = some true := by rfl

theorem or2 (a b : Int) : m_cmp_Or_api_Errno [a, b] = some (if a = 0 then b else a) := by
  unfold m_cmp_Or_api_Errno
  by_cases h : a = 0
  · subst h
    by_cases h2 : b = 0
    · subst h2; rfl
    · have : (b != 0) = true := by simpa using h2
      simp [rangeM, this, goI]
  · have : (a != 0) = true := by simpa using h
    simp [rangeM, this, goI, h]

theorem serversSplit_true (l : List Int) (hl : l.length ≤ 9223372036854775807) : m_lanelaw1_ServersSplit 400 l = some true := by
  obtain ⟨x, a1, hx, hx5, ha1, ha1', e1⟩ := splits_ok l 0 hl (by decide) (by decide)
  obtain ⟨n, hn, e2⟩ := domain_ok l a1 hl (by omega) (by omega)
  obtain ⟨s, a2, hs, hs3, ha2, ha2', e3⟩ := search_ok l (a1 + 2) hl (by omega) (by omega)
  obtain ⟨d, _, e4⟩ := pick_ok l a2 [0, 1, 2, 15, -1, 16] hl (by omega) (by omega) (by decide) (by decide)
  have hlen : ∀ p ∈ x, p.Suffix.length ≤ 1000000 ∧ p.Servers.length ≤ 1000 := fun p hp => by
    obtain ⟨h1, h2⟩ := hx p hp
    have : ∀ S ∈ srvs, S.length ≤ 1000 := by decide
    exact ⟨by omega, this _ h2⟩
  obtain ⟨sf, f1, f2⟩ := splitsFault_ok x hx hx5
  obtain ⟨cf, g1, g2⟩ := searchFault_ok s d hs (by omega)
  obtain ⟨sv, v1, v2⟩ := servers_ok x n 400 (by omega) (by omega) hlen
  obtain ⟨nm, n1, n2⟩ := names_ok s d n (fun z hz => by have := hs z hz; omega) (by omega) (by omega)
  have hcd := check_ok 398 n (by omega)
  have hdf := fault_ok n (by omega)
  unfold m_lanelaw1_ServersSplit
  simp only [e1, bi_some, e2, e3, e4, f1, f2, hdf, or2, g2, v2, n2, named_ok]
  have hsv : m_name_Servers 400 x n = some (if sf = 0 then (if domF n = 0 then (sv.1, sv.2, 0) else ([], false, domF n)) else ([], false, sf)) := by
    unfold m_name_Servers
    rw [f1, hcd, v1]
    by_cases h1 : sf = 0
    · subst h1
      by_cases h2 : domF n = 0
      · rw [h2]; rfl
      · have : (domF n != 0) = true := by simpa using h2
        simp [this, h2]
    · have : (sf != 0) = true := by simpa using h1
      simp [this, h1]
  have hnm : m_name_Names 400 s d n = some (if cf = 0 then (if domF n = 0 then (nm, 0) else ([], domF n)) else ([], cf)) := by
    unfold m_name_Names
    rw [g1, hcd, n1]
    by_cases h1 : cf = 0
    · subst h1
      by_cases h2 : domF n = 0
      · rw [h2]; rfl
      · have : (domF n != 0) = true := by simpa using h2
        simp [this, h2]
    · have : (cf != 0) = true := by simpa using h1
      simp [this, h1]
  rw [hsv, hnm]
  simp only [bi_some]
  have bt : ∀ z : Int, ¬ z = 0 → (z != 0) = true := fun z h => by simpa using h
  have bf : ∀ z : Int, ¬ z = 0 → (z == 0) = false := fun z h => by simpa using h
  by_cases h1 : sf = 0 <;> by_cases h2 : domF n = 0 <;> by_cases h3 : cf = 0 <;> first | (simp [h1, h2, h3, equal_self, orI]; done) | (simp [h1, h2, h3, equal_self, orI, bt cf h3]; done) | (simp [h1, h2, h3, equal_self, orI, bt _ h2, bf _ h2]; done) | (simp [h1, h2, h3, equal_self, orI, bt _ h2, bf _ h2, bt cf h3]; done) | (simp [h1, h2, h3, equal_self, orI, bt sf h1, bf sf h1]; done) | (simp [h1, h2, h3, equal_self, orI, bt sf h1, bf sf h1, bt cf h3]; done) | (simp [h1, h2, h3, equal_self, orI, bt sf h1, bf sf h1, bt _ h2, bf _ h2]; done) | (simp [h1, h2, h3, equal_self, orI, bt sf h1, bf sf h1, bt _ h2, bf _ h2, bt cf h3]; done)
end Go.Gk
