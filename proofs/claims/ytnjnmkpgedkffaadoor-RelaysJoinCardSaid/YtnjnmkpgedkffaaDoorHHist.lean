/-
  The plain law: moments, what answered at each, and the two histories of what is chosen.
-/
import Derived.Test.YtnjnmkpgedkffaaDoorHProbe
set_option linter.unusedVariables false
set_option linter.unusedSimpArgs false
set_option linter.unusedSectionVars false
set_option maxRecDepth 100000
namespace Go.Gk
/-! ### Histories -/
def tt (T : List Int) (i : Nat) : Int := (T[i]?).getD End
theorem tt_get {T : List Int} {i : Nat} (hi : i < T.length) : T[i]? = some (tt T i) := by unfold tt; rw [List.getElem?_eq_getElem hi]; rfl
theorem tt_end (T : List Int) : tt T T.length = End := by unfold tt; rw [List.getElem?_eq_none (Nat.le_refl _)]; rfl
theorem tt_up {T : List Int} (hs : T.Pairwise (· < ·)) (hE : ∀ t ∈ T, t < End) {i : Nat} (hi : i < T.length) : tt T i < tt T (i + 1) ∧ tt T (i + 1) ≤ End := by
  have h1 := tt_get hi
  by_cases h2 : i + 1 < T.length
  · have h3 := tt_get h2
    refine ⟨pw_ne hs (Nat.lt_succ_self i) h1 h3, ?_⟩
    have := hE _ (List.mem_of_getElem? h3); omega
  · have h3 : i + 1 = T.length := by omega
    rw [h3, tt_end]
    exact ⟨hE _ (List.mem_of_getElem? h1), Int.le_refl _⟩
noncomputable def PRh (T : List Int) (nw : Nat → Str) : Nat → List T_api_Turn × List T_api_Turn
  | 0 => ([], [])
  | i + 1 => ((m_route_begins (PRh T nw i).1 (tt T i) (nw (i + 1))).getD [], (m_laneref1_addTurn (PRh T nw i).2 (nw (i + 1)) (tt T i) (tt T (i + 1))).getD [])
theorem hist_ok (T : List Int) (hs : T.Pairwise (· < ·)) (hE : ∀ t ∈ T, t < End) (hl : T.length ≤ 100000) (nw : Nat → Str) (h0 : nw 0 = []) : ∀ i, i ≤ T.length → RelT (tt T i) i (nw i) (PRh T nw i).1 (PRh T nw i).2 ∧
    (∀ j, j < i → m_route_begins (PRh T nw j).1 (tt T j) (nw (j + 1)) = some (PRh T nw (j + 1)).1 ∧ m_laneref1_addTurn (PRh T nw j).2 (nw (j + 1)) (tt T j) (tt T (j + 1)) = some (PRh T nw (j + 1)).2) := by
  intro i
  induction i with
  | zero => exact fun _ => ⟨⟨⟨Nat.le_refl _, Nat.le_refl _⟩, fun _ => ⟨rfl, fun x hx => by cases hx⟩, fun h => absurd h0 h⟩, fun j hj => absurd hj (Nat.not_lt_zero _)⟩
  | succ i ih =>
    intro hi
    obtain ⟨r1, r2⟩ := ih (by omega)
    obtain ⟨t1, t2⟩ := tt_up hs hE (i := i) (by omega)
    obtain ⟨P', R', e1, e2, e3⟩ := turn_step r1 (by omega) t1 t2 (nw (i + 1))
    have hp : PRh T nw (i + 1) = (P', R') := by rw [PRh, e1, e2]; rfl
    rw [hp]
    refine ⟨e3, fun j hj => ?_⟩
    by_cases e : j = i
    · subst e; rw [e1, e2, hp]; exact ⟨rfl, rfl⟩
    · exact r2 j (by omega)
theorem hist_end (T : List Int) (hs : T.Pairwise (· < ·)) (hE : ∀ t ∈ T, t < End) (hl : T.length ≤ 100000) (nw : Nat → Str) (h0 : nw 0 = []) : (PRh T nw T.length).1 = (PRh T nw T.length).2 := by
  obtain ⟨⟨_, hoff, hon⟩, _⟩ := hist_ok T hs hE hl nw h0 T.length (Nat.le_refl _)
  by_cases hn : nw T.length = []
  · exact (hoff hn).1
  · obtain ⟨a, f, h1, h2, _⟩ := hon hn
    rw [h1, h2, tt_end]
/-- Who is used already begins nothing. -/
theorem begins_same {t : Int} {i : Nat} {now : Str} {P R : List T_api_Turn} (h : RelT t i now P R) (hi : i ≤ 100000) (ht : t ≤ End) : m_route_begins P t now = some P := by
  obtain ⟨⟨hlP, hlR⟩, hoff, hon⟩ := h
  have wl : ∀ (a : List T_api_Turn) (x : T_api_Turn), a.length ≤ 100000 → wi (((a ++ [x]).length : Int) - 1) = (a.length : Int) := fun a x ha => by
    rw [wi_id (by simp <;> omega) (by simp <;> omega)]; simp
  have hlast : ∀ (a : List T_api_Turn) (x : T_api_Turn), a.length ≤ 100000 → getZ (a ++ [x]) (wi (((a ++ [x]).length : Int) - 1)) = some x := fun a x ha => by
    rw [wl a x ha, getZ_cast, get_snoc]
  have hpos : ∀ (a : List T_api_Turn) (x : T_api_Turn), a.length ≤ 100000 → decide (wi (((a ++ [x]).length : Int) - 1) ≥ 0) = true := fun a x ha => by
    rw [wl a x ha]; exact decide_eq_true (by omega)
  unfold m_route_begins
  by_cases hn : now = []
  · obtain ⟨_, hl⟩ := hoff hn
    have hl' : ∀ x, P.getLast? = some x → x.To < t := by rw [(hoff hn).1]; exact hl
    subst hn
    have hb2 : (bif decide ((wi ((P.length : Int) - 1) : Int) ≥ 0) then (bi (getZ P (wi ((P.length : Int) - 1))) fun x4 => some ((x4.To : Int) == 345686400)) else (some false)) = some false := by
      by_cases hP : P = []
      · subst hP; rfl
      · obtain ⟨a, x, rfl⟩ := last_of hP
        have ha : a.length ≤ 100000 := by simp at hlP; omega
        rw [hpos a x ha, hlast a x ha]
        simp only [cond_true, bi_some]
        have := hl' x (by simp)
        have e : ((x.To : Int) == 345686400) = false := by simp only [beq_eq_false_iff_ne, ne_eq, End] at ht ⊢; omega
        rw [e]
    rw [hb2]
    rfl
  · obtain ⟨a, f, rfl, rfl, hf⟩ := hon hn
    have ha : a.length ≤ 100000 := by simp at hlP; omega
    have eE : (((⟨now, f, End⟩ : T_api_Turn).To : Int) == 345686400) = true := rfl
    rw [hpos a _ ha, hlast a ⟨now, f, End⟩ ha]
    simp only [cond_true, bi_some, eE, hlast a ⟨now, f, End⟩ ha, beq_self_eq_true, orI]
/-! ### Moments -/
def mos (p : List T_api_Probe) : List Int := p.foldl (fun d x => bif d.contains x.At then d else d ++ [x.At]) []
theorem mos_snoc (p : List T_api_Probe) (x : T_api_Probe) : mos (p ++ [x]) = bif (mos p).contains x.At then mos p else mos p ++ [x.At] := by unfold mos; rw [List.foldl_append]; rfl
theorem mos_mem : ∀ (n : Nat) (p : List T_api_Probe), p.length = n → ∀ t, t ∈ mos p ↔ ∃ x ∈ p, x.At = t
  | 0, p, hp, t => by
    obtain rfl := List.eq_nil_of_length_eq_zero hp
    simp [mos]
  | n + 1, p, hp, t => by
    obtain ⟨q, x, rfl⟩ := last_of (l := p) (fun e => by subst e; cases hp)
    have ih := mos_mem n q (by simpa using hp) 
    rw [mos_snoc]
    cases hc : (mos q).contains x.At with
    | true =>
      have hx : x.At ∈ mos q := by simpa using hc
      simp only [cond_true, ih, List.mem_append, List.mem_singleton]
      constructor
      · rintro ⟨y, hy, e⟩; exact ⟨y, .inl hy, e⟩
      · rintro ⟨y, hy | rfl, e⟩
        · exact ⟨y, hy, e⟩
        · subst e; exact (ih _).1 hx
    | false =>
      simp only [cond_false, List.mem_append, List.mem_singleton, ih]
      constructor
      · rintro (⟨y, hy, e⟩ | rfl)
        · exact ⟨y, .inl hy, e⟩
        · exact ⟨x, .inr rfl, rfl⟩
      · rintro ⟨y, hy | rfl, e⟩
        · exact .inl ⟨y, hy, e⟩
        · exact .inr e.symm
theorem mos_in (p : List T_api_Probe) (t : Int) : t ∈ mos p ↔ ∃ x ∈ p, x.At = t := mos_mem _ p rfl t
theorem mos_len (p : List T_api_Probe) : (mos p).length ≤ p.length := by
  have key : ∀ (q : List T_api_Probe) (d : List Int), (q.foldl (fun d x => bif d.contains x.At then d else d ++ [x.At]) d).length ≤ d.length + q.length := by
    intro q
    induction q with
    | nil => intro d; simp
    | cons x q ih =>
      intro d
      have h1 := ih (bif d.contains x.At then d else d ++ [x.At])
      have h2 : (bif d.contains x.At then d else d ++ [x.At]).length ≤ d.length + 1 := by
        generalize d.contains x.At = b
        cases b <;> simp
      simp only [List.foldl_cons, List.length_cons]
      omega
  simpa [mos] using key p []
theorem mos_up : ∀ (n : Nat) (p : List T_api_Probe), p.length = n → p.Pairwise (fun x y => x.At ≤ y.At) → (mos p).Pairwise (· < ·)
  | 0, p, hp, _ => by
    obtain rfl := List.eq_nil_of_length_eq_zero hp
    exact List.Pairwise.nil
  | n + 1, p, hp, h => by
    obtain ⟨q, x, rfl⟩ := last_of (l := p) (fun e => by subst e; cases hp)
    obtain ⟨h1, _, h2⟩ := List.pairwise_append.1 h
    have ih := mos_up n q (by simpa using hp) h1
    rw [mos_snoc]
    cases hc : (mos q).contains x.At with
    | true => exact ih
    | false =>
      have hx : x.At ∉ mos q := by simpa using hc
      refine List.pairwise_append.2 ⟨ih, List.pairwise_singleton _ _, fun a ha b hb => ?_⟩
      simp only [List.mem_singleton] at hb
      subst hb
      obtain ⟨y, hy, rfl⟩ := (mos_in q a).1 ha
      have h3 := h2 y hy x (by simp)
      have : y.At ≠ x.At := fun e => hx (by rw [← e]; exact ha)
      omega
/-! ### What answered -/
def addA (m : List (Str × Int)) (x : T_api_Probe) : List (Str × Int) := bif decide (x.Millis ≥ 0) then mSet m x.Relay x.Millis else m
def ans (p : List T_api_Probe) : List (Str × Int) := p.foldl addA []
theorem ans_snoc (p : List T_api_Probe) (x : T_api_Probe) : ans (p ++ [x]) = addA (ans p) x := by unfold ans; rw [List.foldl_append]; rfl
theorem ans_ok (p : List T_api_Probe) (h : ∀ x ∈ p, x.Relay ≠ []) : SM (ans p) ∧ ∀ e ∈ ans p, e.1 ≠ [] := by
  have key : ∀ (q : List T_api_Probe) (m : List (Str × Int)), (∀ x ∈ q, x.Relay ≠ []) → SM m → (∀ e ∈ m, e.1 ≠ []) → SM (q.foldl addA m) ∧ ∀ e ∈ q.foldl addA m, e.1 ≠ [] := by
    intro q
    induction q with
    | nil => intro m _ h1 h2; exact ⟨h1, h2⟩
    | cons x q ih =>
      intro m hq h1 h2
      refine ih _ (fun y hy => hq y (List.mem_cons_of_mem _ hy)) ?_ ?_
      · unfold addA; cases decide (x.Millis ≥ 0) with
        | true => exact h1.set _ _
        | false => exact h1
      · unfold addA; cases decide (x.Millis ≥ 0) with
        | false => exact h2
        | true =>
          exact foldl_keys (fun y : T_api_Probe => y.Relay) (fun y => y.Millis) (fun e => e.1 ≠ []) [x] m (fun y hy => by simp at hy; subst hy; exact hq y (List.mem_cons_self ..)) h2
  exact key p [] h SM.nil (fun e he => by cases he)
/-- What is used next. -/
noncomputable def nxt (G : List (Str × Int)) (gain : Int) (now : Str) : Str := if G = [] then now else (m_route_choose G now gain).getD []
theorem nxt_ok (G : List (Str × Int)) (hs : SM G) (hk : ∀ e ∈ G, e.1 ≠ []) (now : Str) (gain : Int) : (G ≠ [] → m_route_choose G now gain = some (nxt G gain now)) ∧
    ∃ b, rangeP (σ := Str) (fun x8 s7 => bif ((((s7 : Str) == []) || (decide ((x8.2 : Int) < ((mGet G s7).getD 0)))) || (((x8.2 : Int) == ((mGet G s7).getD 0)) && (Op.bytesLess x8.1 s7))) then (some x8.1) else (some s7)) G [] = some b ∧
      (bi (bif !((b : Str) == []) then (bi (bif (mGet G now).isSome then (some (decide ((wi (((mGet G now).getD 0) - ((mGet G b).getD 0)) : Int) < gain))) else (some false)) fun q61 => some (!q61)) else (some false)) fun q58 => (bif q58 then (some b) else (some now))) = some (nxt G gain now) := by
  obtain ⟨b, c, h1, h2, h3⟩ := choose_ok G hs hk now gain
  obtain ⟨b', k1, k2, k3⟩ := best_ok G hs hk
  rw [h1] at k1
  cases k1
  by_cases hG : G = []
  · refine ⟨fun h => absurd hG h, b, h1, ?_⟩
    have hb : b = [] := by
      rcases k2 with h | ⟨n, h⟩
      · exact h
      · subst hG; cases h
    subst hb
    simp [nxt, hG]
  · have hn : nxt G gain now = c := by unfold nxt; rw [if_neg hG, h2]; rfl
    rw [hn]
    refine ⟨fun _ => h2, b, h1, ?_⟩
    have hb : ((b : Str) == []) = false := by
      simp only [beq_eq_false_iff_ne, ne_eq]
      exact fun e => hG (k3 e)
    rw [hb, ← h3]
    cases (mGet G now).isSome with
    | false => rfl
    | true =>
      simp only [Bool.not_false, cond_true, bi_some, Bool.true_and]
end Go.Gk
