/-
  The plain law, part 4: the servers of a name.
-/
import Derived.Test.YtjhoahdlehkfaaaDoorPSplits
set_option linter.unusedVariables false
set_option linter.unusedSimpArgs false
set_option maxRecDepth 100000
namespace Go.Gk

/-- z is name, or above it. -/
def UP (name z : Str) : Prop := z = [] ∨ name = z ∨ ∃ u, name = u ++ 46 :: z
theorem UP.suf {name z : Str} (h : UP name z) : z <:+ name := by
  rcases h with rfl | rfl | ⟨u, rfl⟩
  · exact List.nil_suffix
  · exact List.suffix_refl _
  · exact ⟨u ++ [46], by simp⟩
theorem UP.eq {name a b : Str} (ha : UP name a) (hb : UP name b) (h : a.length = b.length) : a = b :=
  (List.suffix_of_suffix_length_le ha.suf hb.suf (Nat.le_of_eq h)).eq_of_length h
def after (s : Str) : Str := (cut1 s 46).2.1
theorem after_spec : ∀ s : Str, (∃ w, s = w ++ 46 :: after s ∧ 46 ∉ w) ∨ (46 ∉ s ∧ after s = []) := by
  have key : ∀ s : Str, (∃ w : Str, Lib.indexByte s 46 = (w.length : Int) ∧ s = w ++ 46 :: s.drop (w.length + 1) ∧ (46 : UInt8) ∉ w) ∨ (Lib.indexByte s 46 = -1 ∧ (46 : UInt8) ∉ s) := by
    intro s
    induction s with
    | nil => exact .inr ⟨rfl, by simp⟩
    | cons b s ih =>
      by_cases hb : b = 46
      · subst hb
        exact .inl ⟨[], by simp [Lib.indexByte], by simp, by simp⟩
      · have hb' : (b == 46) = false := by simpa using hb
        have hb2 : (46 : UInt8) ≠ b := fun e => hb e.symm
        unfold Lib.indexByte
        rw [hb']
        rcases ih with ⟨w, h1, h2, h3⟩ | ⟨h1, h2⟩
        · left
          refine ⟨b :: w, ?_, ?_, ?_⟩
          · rw [h1]
            have : ((w.length : Int) == -1) = false := by
              rw [beq_eq_false_iff_ne]; omega
            simp [this]
          · simpa using h2
          · simp [hb2, h3]
        · right
          rw [h1]
          exact ⟨by simp, by simp [hb2, h2]⟩
  intro s
  unfold after cut1
  rcases key s with ⟨w, h1, h2, h3⟩ | ⟨h1, h2⟩
  · left
    rw [h1, if_pos (by omega)]
    exact ⟨w, by simpa using h2, h3⟩
  · right
    rw [h1, if_neg (by omega)]
    exact ⟨h2, rfl⟩
theorem UP.after {name s : Str} (h : UP name s) (hs : s ≠ []) : UP name (after s) := by
  rcases after_spec s with ⟨w, e, hw⟩ | ⟨_, e⟩
  · rcases h with rfl | rfl | ⟨u, rfl⟩
    · exact absurd rfl hs
    · exact .inr (.inr ⟨w, e⟩)
    · exact .inr (.inr ⟨u ++ 46 :: w, by rw [List.append_assoc, List.cons_append, ← e]⟩)
  · rw [e]; exact .inl rfl
theorem UP.next {name s z : Str} (h : UP name s) (hz : UP name z) (hl : z.length < s.length) : z.length ≤ (Gk.after s).length := by
  rcases hz with rfl | rfl | ⟨u, e⟩
  · exact Nat.zero_le _
  · have := h.suf.length_le; omega
  · have h1 : 46 :: z <:+ s := List.suffix_of_suffix_length_le ⟨u, e.symm⟩ h.suf (by simp; omega)
    obtain ⟨v, hv⟩ := h1
    rcases after_spec s with ⟨w, e2, hw⟩ | ⟨hn, _⟩
    · have hle : w.length ≤ v.length := by
        rcases Nat.lt_or_ge v.length w.length with hlt | hge
        · exfalso
          apply hw
          have g1 : s[v.length]? = some 46 := by rw [← hv, List.getElem?_append_right (Nat.le_refl _)]; simp
          rw [e2, List.getElem?_append_left hlt] at g1
          exact List.mem_of_getElem? g1
        · exact hge
      have l1 := congrArg List.length hv
      have l2 := congrArg List.length e2
      simp only [List.length_append, List.length_cons] at l1 l2
      omega
    · exact absurd (by rw [← hv]; simp) hn
theorem after_lt {s : Str} (hs : s ≠ []) : (after s).length < s.length := by
  rcases after_spec s with ⟨w, e, _⟩ | ⟨_, e⟩
  · have := congrArg List.length e
    simp only [List.length_append, List.length_cons] at this
    omega
  · rw [e]; exact List.length_pos_iff.2 hs

theorem under_ok (name z : Str) (h1 : name.length ≤ 1000000) (h2 : z.length ≤ 1000000) : ∃ b, m_name_under name z = some b ∧ (z = [] ∨ b = true ↔ UP name z) := by
  unfold m_name_under m_strings_HasSuffix
  rw [cat_ok (by simp; omega)]
  simp only [bi_some, Nat.ble_eq_true_of_le (show name.length ≤ 1099511627776 by omega), gd_true]
  cases he : (name == z) with
  | true =>
    have : name = z := by simpa using he
    exact ⟨true, rfl, fun _ => .inr (.inl this), fun _ => .inr rfl⟩
  | false =>
    have hne : name ≠ z := by simpa using he
    refine ⟨_, rfl, ?_⟩
    simp only [Lib.hasSuffix, List.isSuffixOf_iff_suffix]
    constructor
    · rintro (rfl | ⟨u, e⟩)
      · exact .inl rfl
      · exact .inr (.inr ⟨u, by simpa using e.symm⟩)
    · rintro (rfl | e | ⟨u, e⟩)
      · exact .inl rfl
      · exact absurd e hne
      · exact .inr ⟨u, by simpa using e.symm⟩

theorem rangeF_at {α σ : Type} {f : Nat → α → σ → Option σ} (I : Nat → σ → Prop) (l0 : List α) (s : σ) (h0 : I 0 s) (st : ∀ j x s, l0[j]? = some x → I j s → ∃ s', f j x s = some s' ∧ I (j + 1) s') : ∃ r, rangeF f 0 l0 s = some r ∧ I l0.length r := by
  have key : ∀ (l : List α) (i : Nat) (s : σ), (∀ j, l[j]? = l0[i + j]?) → I i s → ∃ r, rangeF f i l s = some r ∧ I (i + l.length) r := by
    intro l
    induction l with
    | nil => intro i s _ h; exact ⟨s, rfl, h⟩
    | cons x l ih =>
      intro i s hl h
      obtain ⟨s', h1, h2⟩ := st i x s (by have := hl 0; simpa using this.symm) h
      obtain ⟨r, h3, h4⟩ := ih (i + 1) s' (fun j => by have := hl (j + 1); rw [List.getElem?_cons_succ] at this; rw [this]; congr 1; omega) h2
      refine ⟨r, by simp only [rangeF, h1, bi_some, h3], ?_⟩
      rw [List.length_cons, show i + (l.length + 1) = i + 1 + l.length by omega]
      exact h4
  obtain ⟨r, h1, h2⟩ := key l0 0 s (fun j => by rw [Nat.zero_add]) h0
  exact ⟨r, h1, by rwa [Nat.zero_add] at h2⟩

/-- The best so far. -/
def Best (l : List T_api_Split) (name : Str) (i : Nat) (s : Int) : Prop :=
  (s = -1 ∧ ∀ j p, j < i → l[j]? = some p → ¬ UP name p.Suffix) ∨
  ∃ (j : Nat) (p : T_api_Split), s = (j : Int) ∧ j < i ∧ l[j]? = some p ∧ UP name p.Suffix ∧ ∀ j' p', j' < i → l[j']? = some p' → UP name p'.Suffix → p'.Suffix.length ≤ p.Suffix.length ∧ (j' < j → p'.Suffix.length < p.Suffix.length)

theorem best_ok (l : List T_api_Split) (name : Str) (hn : name.length ≤ 1000000) (hl : ∀ p ∈ l, p.Suffix.length ≤ 1000000) : ∃ s, Best l name l.length s ∧
    m_name_servers l name = bif decide (s < 0) then some ([], false) else bi (getZ l s) fun x32 => bi (m_slices_Clone_string_string x32.Servers) fun y34 => some (y34, true) := by
  unfold m_name_servers
  generalize hf : (fun (i1 : Nat) (x3 : T_api_Split) (s2 : Int) => _) = f
  obtain ⟨r, h1, h2⟩ := rangeF_at (f := f) (Best l name) l (-1) (.inl ⟨rfl, fun j p h => by omega⟩) (by
    intro j x s hx hB
    subst hf
    simp only
    obtain ⟨b, hb, hU⟩ := under_ok name x.Suffix hn (hl x (List.mem_of_getElem? hx))
    rw [hb]
    simp only [bi_some]
    -- the test against the best so far
    obtain ⟨c, hc, hcc⟩ : ∃ c, (bif decide (s < 0) then (some true) else (bi (getZ l s) fun x17 => some (decide ((x.Suffix.length : Int) > (x17.Suffix.length : Int))))) = some c ∧ (UP name x.Suffix → Best l name (j + 1) (if c then (j : Int) else s)) := by
      rcases hB with ⟨rfl, hno⟩ | ⟨j0, p, rfl, hj0, hp, hpU, hbest⟩
      · refine ⟨true, rfl, fun hUx => .inr ⟨j, x, rfl, by omega, hx, hUx, fun j' p' hj' hp' hU' => ?_⟩⟩
        rcases Nat.lt_or_ge j' j with h | h
        · exact absurd hU' (hno j' p' h hp')
        · obtain rfl : j' = j := by omega
          rw [hx] at hp'; cases hp'
          exact ⟨Nat.le_refl _, fun h => by omega⟩
      · rw [decide_eq_false (show ¬ ((j0 : Int) < 0) by omega), getZ_cast, hp]
        simp only [cond_false, bi_some]
        by_cases hgt : x.Suffix.length > p.Suffix.length
        · refine ⟨true, by rw [decide_eq_true (show (x.Suffix.length : Int) > (p.Suffix.length : Int) by omega)], fun hUx => .inr ⟨j, x, rfl, by omega, hx, hUx, fun j' p' hj' hp' hU' => ?_⟩⟩
          rcases Nat.lt_or_ge j' j with h | h
          · have := (hbest j' p' h hp' hU').1
            exact ⟨by omega, fun _ => by omega⟩
          · obtain rfl : j' = j := by omega
            rw [hx] at hp'; cases hp'
            exact ⟨Nat.le_refl _, fun h => by omega⟩
        · refine ⟨false, by rw [decide_eq_false (show ¬ (x.Suffix.length : Int) > (p.Suffix.length : Int) by omega)], fun hUx => .inr ⟨j0, p, rfl, by omega, hp, hpU, fun j' p' hj' hp' hU' => ?_⟩⟩
          rcases Nat.lt_or_ge j' j with h | h
          · exact hbest j' p' h hp' hU'
          · obtain rfl : j' = j := by omega
            rw [hx] at hp'; cases hp'
            exact ⟨by omega, fun h => by omega⟩
    have hskip : ¬ UP name x.Suffix → Best l name (j + 1) s := fun hnU => by
      rcases hB with ⟨rfl, hno⟩ | ⟨j0, p, rfl, hj0, hp, hpU, hbest⟩
      · refine .inl ⟨rfl, fun j' p' hj' hp' => ?_⟩
        rcases Nat.lt_or_ge j' j with h | h
        · exact hno j' p' h hp'
        · obtain rfl : j' = j := by omega
          rw [hx] at hp'; cases hp'
          exact hnU
      · refine .inr ⟨j0, p, rfl, by omega, hp, hpU, fun j' p' hj' hp' hU' => ?_⟩
        rcases Nat.lt_or_ge j' j with h | h
        · exact hbest j' p' h hp' hU'
        · obtain rfl : j' = j := by omega
          rw [hx] at hp'; cases hp'
          exact absurd hU' hnU
    rw [hc]
    cases he : (x.Suffix == []) with
    | true =>
      have he' : x.Suffix = [] := by simpa using he
      have hUx := hU.1 (.inl he')
      have := hcc hUx
      cases c with
      | true => exact ⟨_, rfl, this⟩
      | false => exact ⟨_, rfl, this⟩
    | false =>
      have he' : x.Suffix ≠ [] := by simpa using he
      cases b with
      | true =>
        have := hcc (hU.1 (.inr rfl))
        cases c with
        | true => exact ⟨_, rfl, this⟩
        | false => exact ⟨_, rfl, this⟩
      | false =>
        have hnU : ¬ UP name x.Suffix := fun h => by
          rcases hU.2 h with h | h
          · exact he' h
          · cases h
        exact ⟨_, rfl, hskip hnU⟩)
  rw [h1]
  exact ⟨r, h2, rfl⟩

theorem clone_ok (l : List Str) (h : l.length ≤ 4294967296) : m_slices_Clone_string_string l = some l := by
  unfold m_slices_Clone_string_string
  rw [apd_some (by simpa using h)]
  rfl
theorem inner_ok {ρ : Type} (z : Str) (mk : List Str → ρ) (f : Nat → T_api_Split → Unit → Option (LS Unit ρ)) : ∀ (l : List T_api_Split) (i : Nat), (∀ i p, p ∈ l → f i p () = some (if p.Suffix = z then .out (mk p.Servers) else .go ())) →
    rangeM f i l () = some (match l.find? (fun p => p.Suffix == z) with | some p => .out (mk p.Servers) | none => .go ())
  | [], i, _ => rfl
  | p :: l, i, h => by
    have ih := inner_ok z mk f l (i + 1) fun i q hq => h i q (List.mem_cons_of_mem _ hq)
    simp only [rangeM, List.find?_cons, h i p List.mem_cons_self]
    by_cases hp : p.Suffix = z
    · have : (p.Suffix == z) = true := by simpa using hp
      simp only [hp, if_true, beq_self_eq_true]
    · have : (p.Suffix == z) = false := by simpa using hp
      simp only [hp, if_false, this]; exact ih

theorem servers_loop (l : List T_api_Split) (name : Str) (hn : name.length ≤ 1000000) (hl : ∀ p ∈ l, p.Servers.length ≤ 1000) {b : Int} (hB : Best l name l.length b) (f : Str → Option (LS Str (List Str × Bool)))
    (hf : ∀ s : Str, s.length ≤ 1000000 → f s = match l.find? (fun p => p.Suffix == s) with | some p => some (.out (p.Servers, true)) | none => if s = [] then some (.out ([], false)) else some (.go (after s))) :
    ∀ (k : Nat) (s : Str), s.length < k → s.length ≤ 1000000 → UP name s → (∀ p ∈ l, UP name p.Suffix → p.Suffix.length ≤ s.length) → loopM f k s = if b < 0 then some ([], false) else (getZ l b).map fun p => (p.Servers, true)
  | 0, s, h, _, _, _ => by omega
  | k + 1, s, h, hs, hU, hm => by
    simp only [loopM, hf s hs]
    cases hfind : l.find? (fun p => p.Suffix == s) with
    | some p =>
      simp only
      have hps : p.Suffix = s := by have := List.find?_some hfind; simpa using this
      obtain ⟨i, hi⟩ := List.getElem?_of_mem (List.mem_of_find?_eq_some hfind)
      rcases hB with ⟨rfl, hno⟩ | ⟨j, q, rfl, hj, hq, hqU, hbest⟩
      · exact absurd (hps ▸ hU) (hno i p (List.getElem?_eq_some_iff.1 hi).1 hi)
      · have h1 := (hbest i p (List.getElem?_eq_some_iff.1 hi).1 hi (hps ▸ hU)).1
        have h2 := hm q (List.mem_of_getElem? hq) hqU
        have hqs : q.Suffix = s := UP.eq hqU hU (by rw [hps] at h1; omega)
        rw [if_neg (by omega), getZ_cast, hq]
        -- the first one that is s is q
        have : p = q := by
          obtain ⟨as, bs, e, hne⟩ := List.find?_eq_some_iff_append.1 hfind |>.2
          have hi' : l[as.length]? = some p := by rw [e]; simp
          rcases Nat.lt_trichotomy j as.length with hlt | heq | hgt
          · have hjq : as[j]? = some q := by rw [e, List.getElem?_append_left hlt] at hq; exact hq
            have := hne q (List.mem_of_getElem? hjq)
            simp [hqs] at this
          · rw [heq] at hq; rw [hq] at hi'; cases hi'; rfl
          · have := (hbest as.length p (List.getElem?_eq_some_iff.1 hi').1 hi' (hps ▸ hU)).2 hgt
            rw [hps, hqs] at this
            omega
        rw [this]
        rfl
    | none =>
      have hnone : ∀ p ∈ l, p.Suffix ≠ s := fun p hp e => by
        have := List.find?_eq_none.1 hfind p hp
        simp [e] at this
      by_cases he : s = []
      · subst he
        simp only [if_true]
        rcases hB with ⟨rfl, hno⟩ | ⟨j, q, rfl, hj, hq, hqU, hbest⟩
        · rfl
        · have h2 := hm q (List.mem_of_getElem? hq) hqU
          exact absurd (List.eq_nil_of_length_eq_zero (by simpa using h2)) (hnone q (List.mem_of_getElem? hq))
      · simp only [if_neg he]
        have hlt := after_lt he
        refine servers_loop l name hn hl hB f hf k (after s) (by omega) (by omega) (hU.after he) fun p hp hpU => ?_
        refine UP.next hU hpU ?_
        have h1 := hm p hp hpU
        rcases Nat.lt_or_ge p.Suffix.length s.length with h | h
        · exact h
        · exact absurd (UP.eq hpU hU (by omega)) (hnone p hp)

theorem servers_ok (l : List T_api_Split) (name : Str) (k : Nat) (hn : name.length ≤ 1000000) (hk : name.length < k) (hl : ∀ p ∈ l, p.Suffix.length ≤ 1000000 ∧ p.Servers.length ≤ 1000) : ∃ r, m_name_servers l name = some r ∧ m_laneref1_ServersOf k l name = some r := by
  obtain ⟨b, hB, e1⟩ := best_ok l name hn fun p hp => (hl p hp).1
  have e2 : m_laneref1_ServersOf k l name = if b < 0 then some ([], false) else (getZ l b).map fun p => (p.Servers, true) := by
    unfold m_laneref1_ServersOf
    rw [servers_loop l name hn (fun p hp => (hl p hp).2) hB _ (fun s hs => ?_) k name hk hn (.inr (.inl rfl)) (fun p hp hpU => hpU.suf.length_le)]
    · cases (if b < 0 then some ([], false) else (getZ l b).map fun p => (p.Servers, true)) <;> rfl
    · rw [inner_ok s (fun S => (LS.out (S, true) : LS Str (List Str × Bool))) _ l 0 (fun i p hp => by
        rw [clone_ok _ (show p.Servers.length ≤ 4294967296 by have := (hl p hp).2; omega)]
        by_cases he : p.Suffix = s
        · have : (p.Suffix == s) = true := by simpa using he
          rw [this, if_pos he]; rfl
        · have : (p.Suffix == s) = false := by simpa using he
          rw [this, if_neg he]; rfl)]
      simp only [bi_some]
      cases l.find? (fun p => p.Suffix == s) with
      | some p => rfl
      | none =>
        simp only [goI]
        by_cases he : s = []
        · subst he; rfl
        · have hb : (s == []) = false := by simpa using he
          rw [hb, if_neg he]
          simp only [cond_false, m_strings_Cut, Nat.ble_eq_true_of_le (show s.length ≤ 1099511627776 by omega), gd_true, bi_some]
          rfl
  rw [e1, e2]
  by_cases hb : b < 0
  · rw [if_pos hb, decide_eq_true hb]
    exact ⟨_, rfl, rfl⟩
  · rw [if_neg hb, decide_eq_false hb]
    rcases hB with ⟨rfl, _⟩ | ⟨j, q, rfl, hj, hq, _, _⟩
    · exact absurd (by decide) hb
    · rw [getZ_cast, hq]
      simp only [cond_false, bi_some]
      rw [clone_ok _ (by have := (hl q (List.mem_of_getElem? hq)).2; omega)]
      exact ⟨_, rfl, rfl⟩
end Go.Gk
