/-
  The plain law: walks over links; trails by milliseconds, length, names; how the reference finds the least ones.
-/
import Derived.Test.YtnjnmkpgedkffaaDoorHDist
set_option linter.unusedVariables false
set_option linter.unusedSimpArgs false
set_option linter.unusedSectionVars false
set_option maxRecDepth 100000
namespace Go.Gk
/-! ### Walks -/
inductive Wk (E : Str → Str → Int → Prop) : Str → Str → List Str → Int → Prop
  | one (a : Str) : Wk E a a [a] 0
  | cons {u v b : Str} {p : List Str} {m w : Int} (h : E u v w) (k : Wk E v b p m) : Wk E u b (u :: p) (w + m)
theorem Wk.snoc {E : Str → Str → Int → Prop} {a u v : Str} {q : List Str} {m w : Int} (h : Wk E a u q m) (k : E u v w) : Wk E a v (q ++ [v]) (m + w) := by
  induction h with
  | one a =>
    have := Wk.cons k (.one v)
    rw [Int.add_comm] at this
    simpa using this
  | @cons u' v' b p m' w' h' _ ih =>
    have := Wk.cons h' (ih k)
    rw [← Int.add_assoc] at this
    exact this
theorem Wk.inv {E : Str → Str → Int → Prop} {a v : Str} {p : List Str} {m : Int} (h : Wk E a v p m) : (v = a ∧ p = [a] ∧ m = 0) ∨ ∃ u q m' w, Wk E a u q m' ∧ E u v w ∧ p = q ++ [v] ∧ m = m' + w := by
  induction h with
  | one a => exact .inl ⟨rfl, rfl, rfl⟩
  | @cons u v b p m w h k ih =>
    rcases ih with ⟨rfl, rfl, rfl⟩ | ⟨u', q, m', w', h1, h2, rfl, rfl⟩
    · exact .inr ⟨u, [u], 0, w, .one u, h, rfl, by omega⟩
    · exact .inr ⟨u', u :: q, w + m', w', .cons h h1, h2, rfl, by omega⟩
theorem Wk.head {E : Str → Str → Int → Prop} {a v : Str} {p : List Str} {m : Int} (h : Wk E a v p m) : ∃ q, p = a :: q := by
  cases h with
  | one => exact ⟨[], rfl⟩
  | cons _ _ => exact ⟨_, rfl⟩
theorem Wk.bnd {E : Str → Str → Int → Prop} {N : List Str} (hE : ∀ u v w, E u v w → 0 ≤ w ∧ w ≤ 1000000 ∧ v ∈ N) {a v : Str} {p : List Str} {m : Int} (h : Wk E a v p m) : 0 ≤ m ∧ m ≤ 1000000 * p.length ∧ 1 ≤ p.length ∧ ∀ x ∈ p, x = a ∨ x ∈ N := by
  induction h with
  | one a => exact ⟨Int.le_refl _, by simp, by simp, fun x hx => .inl (by simpa using hx)⟩
  | @cons u v b p m w h k ih =>
    obtain ⟨h1, h2, h3, h4⟩ := ih
    have := hE _ _ _ h
    refine ⟨by omega, by simp only [List.length_cons]; omega, by simp, fun x hx => ?_⟩
    rcases List.mem_cons.1 hx with rfl | hx
    · exact .inl rfl
    · rcases h4 x hx with rfl | h5
      · exact .inr this.2.2
      · exact .inr h5
/-! ### Trails, in order -/
def lexL : List Str → List Str → Bool
  | _, [] => false
  | [], _ :: _ => true
  | x :: a, y :: b => Op.bytesLess x y || (x == y && lexL a b)
theorem lexL_irr : ∀ a : List Str, lexL a a = false
  | [] => rfl
  | x :: a => by simp [lexL, bl_irr, lexL_irr a]
theorem lexL_tr : ∀ a b c : List Str, lexL a b = true → lexL b c = true → lexL a c = true
  | _, [], _, h, _ => by cases ‹List Str› <;> simp [lexL] at h
  | _, _ :: _, [], _, h => by simp [lexL] at h
  | [], _ :: _, _ :: _, _, _ => rfl
  | x :: a, y :: b, z :: c, h, k => by
    simp only [lexL, Bool.or_eq_true, Bool.and_eq_true, beq_iff_eq] at h k ⊢
    rcases h with h | ⟨rfl, h⟩
    · rcases k with k | ⟨rfl, k⟩
      · exact .inl (bl_tr _ _ _ h k)
      · exact .inl h
    · rcases k with k | ⟨rfl, k⟩
      · exact .inl k
      · exact .inr ⟨rfl, lexL_tr a b c h k⟩
theorem lexL_tri : ∀ a b : List Str, lexL a b = false → lexL b a = true ∨ a = b
  | [], [], _ => .inr rfl
  | [], _ :: _, h => by simp [lexL] at h
  | _ :: _, [], _ => .inl rfl
  | x :: a, y :: b, h => by
    simp only [lexL, Bool.or_eq_false_iff, Bool.and_eq_false_iff, beq_eq_false_iff_ne, ne_eq] at h
    simp only [lexL, Bool.or_eq_true, Bool.and_eq_true, beq_iff_eq]
    cases hy : Op.bytesLess y x with
    | true => exact .inl (.inl rfl)
    | false =>
      obtain rfl := bl_tri _ _ h.1 hy
      rcases lexL_tri a b (by simpa using h.2) with h2 | rfl
      · exact .inl (.inr ⟨rfl, h2⟩)
      · exact .inr rfl
theorem lexL_snoc : ∀ (a b : List Str) (v : Str), a.length = b.length → lexL (a ++ [v]) (b ++ [v]) = lexL a b
  | [], [], v, _ => by simp [lexL, bl_irr]
  | x :: a, y :: b, v, h => by simp only [List.cons_append, lexL, lexL_snoc a b v (by simpa using h)]
  | [], _ :: _, _, h => by simp at h
  | _ :: _, [], _, h => by simp at h
abbrev Trail := T_laneref1_trail
def T_laneref1_trail.less (a b : Trail) : Prop := a.millis < b.millis ∨ (a.millis = b.millis ∧ (a.relays.length < b.relays.length ∨ (a.relays.length = b.relays.length ∧ lexL a.relays b.relays = true)))
def T_laneref1_trail.le (a b : Trail) : Prop := a.less b ∨ a = b
def T_laneref1_trail.snoc (a : Trail) (v : Str) (w : Int) : Trail := ⟨a.relays ++ [v], a.millis + w⟩
theorem T_laneref1_trail.less_irr (a : Trail) : ¬ a.less a := fun h => by
  unfold T_laneref1_trail.less at h
  rw [lexL_irr] at h
  rcases h with h | ⟨_, h | ⟨_, h⟩⟩
  · omega
  · omega
  · cases h
theorem T_laneref1_trail.less_tr {a b c : Trail} (h : a.less b) (k : b.less c) : a.less c := by
  unfold T_laneref1_trail.less at *
  rcases h with h | ⟨h1, h | ⟨h2, h3⟩⟩ <;> rcases k with k | ⟨k1, k | ⟨k2, k3⟩⟩
  · exact .inl (by omega)
  · exact .inl (by omega)
  · exact .inl (by omega)
  · exact .inl (by omega)
  · exact .inr ⟨by omega, .inl (by omega)⟩
  · exact .inr ⟨by omega, .inl (by omega)⟩
  · exact .inl (by omega)
  · exact .inr ⟨by omega, .inl (by omega)⟩
  · exact .inr ⟨by omega, .inr ⟨by omega, lexL_tr _ _ _ h3 k3⟩⟩
theorem T_laneref1_trail.le_refl (a : Trail) : a.le a := .inr rfl
theorem T_laneref1_trail.le_tr {a b c : Trail} (h : a.le b) (k : b.le c) : a.le c := by
  rcases h with h | rfl
  · rcases k with k | rfl
    · exact .inl (less_tr h k)
    · exact .inl h
  · exact k
theorem T_laneref1_trail.le_less {a b c : Trail} (h : a.le b) (k : b.less c) : a.less c := by
  rcases h with h | rfl
  · exact less_tr h k
  · exact k
theorem T_laneref1_trail.anti {a b : Trail} (h : a.le b) (k : b.le a) : a = b := by
  rcases h with h | h
  · rcases k with k | k
    · exact absurd (less_tr h k) (less_irr a)
    · exact k.symm
  · exact h
theorem T_laneref1_trail.snoc_less {a b : Trail} (h : a.less b) (v : Str) (w : Int) : (a.snoc v w).less (b.snoc v w) := by
  unfold T_laneref1_trail.less T_laneref1_trail.snoc at *
  simp only [List.length_append, List.length_cons, List.length_nil]
  rcases h with h | ⟨h1, h | ⟨h2, h3⟩⟩
  · exact .inl (by omega)
  · exact .inr ⟨by omega, .inl (by omega)⟩
  · exact .inr ⟨by omega, .inr ⟨by omega, by rw [lexL_snoc _ _ _ h2]; exact h3⟩⟩
theorem T_laneref1_trail.snoc_le {a b : Trail} (h : a.le b) (v : Str) (w : Int) : (a.snoc v w).le (b.snoc v w) := by
  rcases h with h | rfl
  · exact .inl (snoc_less h v w)
  · exact .inr rfl
theorem T_laneref1_trail.less_snoc (a : Trail) (v : Str) {w : Int} (hw : 0 ≤ w) : a.less (a.snoc v w) := by
  unfold T_laneref1_trail.less T_laneref1_trail.snoc
  simp only [List.length_append, List.length_cons, List.length_nil]
  omega
theorem T_laneref1_trail.tot {a b : Trail} (h : ¬ a.less b) : b.le a := by
  obtain ⟨p, m⟩ := a
  obtain ⟨q, n⟩ := b
  unfold T_laneref1_trail.le T_laneref1_trail.less at *
  simp only at h ⊢
  by_cases h1 : m = n
  · subst h1
    by_cases h2 : p.length = q.length
    · have h3 : lexL p q = false := by
        cases hx : lexL p q with
        | false => rfl
        | true => exact absurd (.inr ⟨rfl, .inr ⟨h2, hx⟩⟩) h
      rcases lexL_tri p q h3 with h4 | rfl
      · exact .inl (.inr ⟨rfl, .inr ⟨h2.symm, h4⟩⟩)
      · exact .inr rfl
    · exact .inl (.inr ⟨rfl, .inl (by have := fun h3 => h (.inr ⟨rfl, .inl h3⟩); omega)⟩)
  · exact .inl (.inl (by have := fun h3 => h (.inl h3); omega))
/-! ### Lists of names, compared -/
def cmpS (x y : Str) : Int := if Op.bytesLess x y then -1 else if x = y then 0 else 1
theorem cmpS_ok (x y : Str) : m_cmp_Compare_string x y = some (cmpS x y) := by
  unfold m_cmp_Compare_string m_cmp_isNaN_string cmpS
  simp only [beq_self_eq_true, Bool.not_true, bi_some, cond_false]
  cases h : Op.bytesLess x y with
  | true => simp
  | false =>
    by_cases e : x = y
    · simp [e]
    · have e' : (x == y) = false := by simpa using e
      simp [e, e']
def cmpL : List Str → List Str → Int
  | [], [] => 0
  | [], _ :: _ => -1
  | _ :: _, [] => 1
  | x :: a, y :: b => if cmpS x y = 0 then cmpL a b else cmpS x y
theorem cmpL_ok (s1 s2 : List Str) (hl : s2.length ≤ 1000) (hl1 : s1.length ≤ 1000) : m_slices_Compare_string_string s1 s2 = some (cmpL s1 s2) := by
  unfold m_slices_Compare_string_string
  have key : ∀ (f : Nat → Str → Unit → Option (LS Unit Int)), (∀ i x, s2.length ≤ i → f i x () = some (.out 1)) → (∀ i x (h : i < s2.length), f i x () = some (if cmpS x s2[i] = 0 then .go () else .out (cmpS x s2[i]))) →
      ∀ (a : List Str) (i : Nat), i ≤ s2.length → ∃ q, rangeM f i a () = some q ∧ (goI q fun _ => bif decide (((i + a.length : Nat) : Int) < (s2.length : Int)) then (some (-1)) else (some 0)) = some (cmpL a (s2.drop i)) := by
    intro f hf1 hf2 a
    induction a with
    | nil =>
      intro i hi
      refine ⟨.go (), rfl, ?_⟩
      simp only [goI, List.length_nil, Nat.add_zero]
      by_cases h : i < s2.length
      · rw [decide_eq_true (show (i : Int) < (s2.length : Int) by omega), List.drop_eq_getElem_cons h]
        rfl
      · rw [decide_eq_false (show ¬ (i : Int) < (s2.length : Int) by omega), List.drop_eq_nil_of_le (by omega)]
        rfl
    | cons x a ih =>
      intro i hi
      simp only [rangeM]
      by_cases h : i < s2.length
      · rw [hf2 i x h, List.drop_eq_getElem_cons h]
        simp only [cmpL]
        by_cases hc : cmpS x s2[i] = 0
        · rw [if_pos hc, if_pos hc]
          obtain ⟨q, h1, h2⟩ := ih (i + 1) (by omega)
          refine ⟨q, h1, ?_⟩
          rw [← h2, List.length_cons, show i + (a.length + 1) = i + 1 + a.length by omega]
        · rw [if_neg hc, if_neg hc]
          exact ⟨_, rfl, rfl⟩
      · rw [hf1 i x (by omega), List.drop_eq_nil_of_le (by omega)]
        exact ⟨_, rfl, rfl⟩
  obtain ⟨q, h1, h2⟩ := key (fun i1 x4 s3 => bif decide (((i1 : Int) : Int) ≥ (s2.length : Int)) then (bi (some 1) fun v => some (.out v)) else (bi (getZ s2 (i1 : Int)) fun x17 => bi (m_cmp_Compare_string x4 x17) fun y19 => bif (y19 : Int) != 0 then (bi (some y19) fun v => some (.out v)) else (some (.go ())))) (fun i x h => by
    rw [decide_eq_true (show (i : Int) ≥ (s2.length : Int) by omega)]; rfl) (fun i x h => by
    rw [decide_eq_false (show ¬ (i : Int) ≥ (s2.length : Int) by omega)]
    simp only [cond_false, getZ_cast, List.getElem?_eq_getElem h, bi_some, cmpS_ok]
    by_cases hc : cmpS x s2[i] = 0
    · rw [if_pos hc, hc]; rfl
    · rw [if_neg hc, show (cmpS x s2[i] != 0) = true by simpa using hc]; rfl) s1 0 (Nat.zero_le _)
  rw [h1]
  simp only [bi_some]
  rw [Nat.zero_add, List.drop_zero] at h2
  exact h2
theorem cmpL_lt : ∀ a b : List Str, cmpL a b < 0 ↔ lexL a b = true
  | [], [] => by simp [cmpL, lexL]
  | [], _ :: _ => by simp [cmpL, lexL]
  | _ :: _, [] => by simp [cmpL, lexL]
  | x :: a, y :: b => by
    simp only [cmpL, lexL, Bool.or_eq_true, Bool.and_eq_true, beq_iff_eq]
    unfold cmpS
    by_cases h : Op.bytesLess x y = true
    · simp [h]
    · by_cases e : x = y
      · simp [h, e, bl_irr, cmpL_lt a b]
      · simp [h, e]
theorem ltrail_ok (a b : Trail) (ha : a.relays.length ≤ 1000) (hb : b.relays.length ≤ 1000) : ∃ r, m_laneref1_lessTrail a b = some r ∧ (r = true ↔ a.less b) := by
  unfold m_laneref1_lessTrail
  have hor : ∀ l : List Int, m_cmp_Or_int l = some ((l.find? fun x => x != 0).getD 0) := or_ok
  rw [cmpInt_ok, cmpInt_ok, cmpL_ok _ _ hb ha]
  simp only [bi_some, hor]
  refine ⟨_, rfl, ?_⟩
  rw [decide_eq_true_eq]
  unfold T_laneref1_trail.less
  have hc : ∀ x y : Int, (x < y ∧ cmpI x y = -1) ∨ (x = y ∧ cmpI x y = 0) ∨ (y < x ∧ cmpI x y = 1) := fun x y => by
    unfold cmpI
    by_cases h : x < y
    · exact .inl ⟨h, by rw [if_pos h]⟩
    · by_cases h2 : x > y
      · exact .inr (.inr ⟨h2, by rw [if_neg h, if_pos h2]⟩)
      · exact .inr (.inl ⟨by omega, by rw [if_neg h, if_neg h2]⟩)
  rcases hc a.millis b.millis with ⟨h1, e1⟩ | ⟨h1, e1⟩ | ⟨h1, e1⟩
  · simp [e1, List.find?_cons, h1]
  · rcases hc (a.relays.length : Int) (b.relays.length : Int) with ⟨h2, e2⟩ | ⟨h2, e2⟩ | ⟨h2, e2⟩
    · simp only [e1, e2, List.find?_cons]
      simp [h1]; omega
    · have h3 : (([cmpL a.relays b.relays] : List Int).find? fun x => x != 0).getD 0 = cmpL a.relays b.relays := by
        by_cases h : cmpL a.relays b.relays = 0
        · simp [List.find?_cons, h]
        · have : (cmpL a.relays b.relays != 0) = true := by simpa using h
          simp [List.find?_cons, this]
      have h4 : (([cmpI a.millis b.millis, cmpI (a.relays.length : Int) (b.relays.length : Int), cmpL a.relays b.relays] : List Int).find? fun x => x != 0) = ([cmpL a.relays b.relays] : List Int).find? fun x => x != 0 := by simp [List.find?_cons, e1, e2]
      rw [h4, h3, cmpL_lt]
      constructor
      · intro h; exact .inr ⟨h1, .inr ⟨by omega, h⟩⟩
      · rintro (h | ⟨_, h | ⟨_, h⟩⟩)
        · omega
        · omega
        · exact h
    · simp only [e1, e2, List.find?_cons]
      simp [h1]; omega
  · simp only [e1, List.find?_cons]
    simp; omega
theorem has_ok (l : List Str) (v : Str) : m_slices_Contains_string_string l v = some (decide (v ∈ l)) := by
  unfold m_slices_Contains_string_string m_slices_Index_string_string
  rw [bi_rangeM_ix (fun x => v == x) l (fun j x hx => by cases h : (v == x) <;> simp [h])]
  simp only [bi_some, ixZ_ge]
  congr 1
  rw [Bool.eq_iff_iff, List.any_eq_true, decide_eq_true_eq]
  constructor
  · rintro ⟨x, hx, e⟩
    have : v = x := by simpa using e
    rw [this]; exact hx
  · intro h; exact ⟨v, h, by simp⟩
/-! ### Ways are made better -/
abbrev TMap := List (Str × Trail)
/-- A trail whose steps were the best ones when they were made. -/
inductive Gd (E : Str → Str → Int → Prop) (a : Str) (B : TMap) : Str → Trail → Prop
  | base : Gd E a B a ⟨[a], 0⟩
  | step {u v : Str} {t t' : Trail} {w : Int} (h : Gd E a B u t) (hE : E u v w) (hv : v ∉ t.relays) (hu : mGet B u = some t') (hle : t'.le t) : Gd E a B v (t.snoc v w)
def Imp (B B' : TMap) : Prop := ∀ v t, mGet B v = some t → ∃ t', mGet B' v = some t' ∧ t'.le t
theorem Imp.refl (B : TMap) : Imp B B := fun v t h => ⟨t, h, .inr rfl⟩
theorem Imp.trans {B B' B2 : TMap} (h : Imp B B') (k : Imp B' B2) : Imp B B2 := fun v t ht => by
  obtain ⟨t', h1, h2⟩ := h v t ht
  obtain ⟨t2, h3, h4⟩ := k v t' h1
  exact ⟨t2, h3, T_laneref1_trail.le_tr h4 h2⟩
theorem Gd.imp {E : Str → Str → Int → Prop} {a : Str} {B B' : TMap} (hi : Imp B B') {v : Str} {t : Trail} (h : Gd E a B v t) : Gd E a B' v t := by
  induction h with
  | base => exact .base
  | step _ hE hv hu hle ih =>
    obtain ⟨t2, h1, h2⟩ := hi _ _ hu
    exact .step ih hE hv h1 (T_laneref1_trail.le_tr h2 hle)
theorem Gd.wk {E : Str → Str → Int → Prop} {a : Str} {B : TMap} {v : Str} {t : Trail} (h : Gd E a B v t) : Wk E a v t.relays t.millis ∧ t.relays.Nodup := by
  induction h with
  | base => exact ⟨.one a, by simp⟩
  | step _ hE hv _ _ ih =>
    refine ⟨ih.1.snoc hE, ?_⟩
    simp only [T_laneref1_trail.snoc, List.nodup_append]
    exact ⟨ih.2, by simp, fun x hx y hy e => by simp at hy; subst hy; subst e; exact hv hx⟩
theorem Gd.on {E : Str → Str → Int → Prop} (hE : ∀ u v w, E u v w → 0 ≤ w) {a : Str} {B : TMap} {v : Str} {t : Trail} (h : Gd E a B v t) : ∀ x ∈ t.relays, x = v ∨ ∃ t', mGet B x = some t' ∧ t'.less t := by
  induction h with
  | base => exact fun x hx => .inl (by simpa using hx)
  | @step u v t t' w _ hE' hv hu hle ih =>
    intro x hx
    have hs := T_laneref1_trail.less_snoc t v (hE _ _ _ hE')
    simp only [T_laneref1_trail.snoc, List.mem_append, List.mem_singleton] at hx
    rcases hx with hx | hx
    · rcases ih x hx with rfl | ⟨t2, h1, h2⟩
      · exact .inr ⟨t', hu, T_laneref1_trail.le_less hle hs⟩
      · exact .inr ⟨t2, h1, T_laneref1_trail.less_tr h2 hs⟩
    · exact .inl hx
structure TrI (E : Str → Str → Int → Prop) (a : Str) (B : TMap) : Prop where
  t0 : mGet B a = some ⟨[a], 0⟩
  gd : ∀ v t, mGet B v = some t → Gd E a B v t
/-- All walks of so many relays are bettered. -/
def All (E : Str → Str → Int → Prop) (a : Str) (i : Nat) (B : TMap) : Prop := ∀ v p m, Wk E a v p m → p.length ≤ i + 1 → ∃ t, mGet B v = some t ∧ t.le ⟨p, m⟩
/-- One link in one direction. -/
theorem edge_ok {E : Str → Str → Int → Prop} {N : List Str} (hE : ∀ u v w, E u v w → 0 ≤ w ∧ w ≤ 1000000 ∧ v ∈ N) (hN : N.length ≤ 300) {a : Str} {B : TMap} (hI : TrI E a B) (ch : Bool) {u v : Str} {w : Int} (huv : E u v w) :
    Ok (bi (bif !((mGet B u).isSome) then (some true) else (bi (m_slices_Contains_string_string (((mGet B u).getD (⟨[], 0⟩ : T_laneref1_trail)).relays) v) fun y38 => some y38)) fun q34 => bif q34 then (some (B, ch)) else (bi (m_slices_Clone_string_string (((mGet B u).getD (⟨[], 0⟩ : T_laneref1_trail)).relays)) fun y42 => bi (apd y42 [v]) fun y44 => bi (bif !((mGet B v).isSome) then (some true) else (bi (m_laneref1_lessTrail (⟨y44, wi ((((mGet B u).getD (⟨[], 0⟩ : T_laneref1_trail)).millis) + w)⟩ : T_laneref1_trail) ((mGet B v).getD (⟨[], 0⟩ : T_laneref1_trail))) fun y50 => some y50)) fun q46 => bif q46 then (some ((mSet B v (⟨y44, wi ((((mGet B u).getD (⟨[], 0⟩ : T_laneref1_trail)).millis) + w)⟩ : T_laneref1_trail)), true)) else (some (B, ch))))
      fun r => TrI E a r.1 ∧ Imp B r.1 ∧ (∀ t, mGet B u = some t → ∃ t', mGet r.1 v = some t' ∧ t'.le (t.snoc v w)) ∧ (r.2 = false → r.1 = B ∧ ch = false) ∧ ((∀ v p m, Wk E a v p m → p.Nodup → ∃ t, mGet B v = some t ∧ t.le ⟨p, m⟩) → r = (B, ch)) := by
  have hE0 : ∀ u v w, E u v w → 0 ≤ w := fun u v w h => (hE u v w h).1
  have hw := hE u v w huv
  have hlen : ∀ x t, mGet B x = some t → t.relays.length ≤ 301 ∧ 0 ≤ t.millis ∧ t.millis ≤ 301000000 := fun x t hx => by
    obtain ⟨h1, h2⟩ := (hI.gd x t hx).wk
    obtain ⟨b1, b2, b3, b4⟩ := h1.bnd hE
    have : t.relays.length ≤ (a :: N).length := nodup_le h2 fun y hy => by
      rcases b4 y hy with rfl | h
      · exact List.mem_cons_self ..
      · exact List.mem_cons_of_mem _ h
    simp only [List.length_cons] at this
    omega
  cases hu : mGet B u with
  | none =>
    simp only [Option.isSome_none, Bool.not_false, cond_true, bi_some]
    exact ok_some ⟨hI, Imp.refl B, fun t ht => (by cases ht), fun h => ⟨rfl, h⟩, fun _ => rfl⟩
  | some t =>
    have hb := hlen u t hu
    simp only [Option.isSome_some, Bool.not_true, cond_false, Option.getD_some, has_ok, bi_some]
    by_cases hv : v ∈ t.relays
    · rw [decide_eq_true hv]
      simp only [cond_true]
      refine ok_some ⟨hI, Imp.refl B, fun t1 ht1 => ?_, fun h => ⟨rfl, h⟩, fun _ => rfl⟩
      cases ht1
      have hs := T_laneref1_trail.less_snoc t v hw.1
      rcases (hI.gd u t hu).on hE0 v hv with rfl | ⟨t', h1, h2⟩
      · exact ⟨t, hu, .inl hs⟩
      · exact ⟨t', h1, .inl (T_laneref1_trail.less_tr h2 hs)⟩
    · rw [decide_eq_false hv]
      have hcl : m_slices_Clone_string_string t.relays = some t.relays := by unfold m_slices_Clone_string_string; rw [apd_some (by simp; omega)]; rfl
      have hwi : wi (t.millis + w) = t.millis + w := wi_id (by omega) (by omega)
      have hsn : (⟨t.relays ++ [v], t.millis + w⟩ : Trail) = t.snoc v w := rfl
      simp only [cond_false, hcl, bi_some]
      refine ok_app (by simp; omega) ?_
      rw [hwi, hsn]
      have hput : (∀ t1, mGet B v = some t1 → (t.snoc v w).less t1) → TrI E a (mSet B v (t.snoc v w)) ∧ Imp B (mSet B v (t.snoc v w)) ∧ (∀ t1, some t = some t1 → ∃ t', mGet (mSet B v (t.snoc v w)) v = some t' ∧ t'.le (t1.snoc v w)) := fun hlt => by
        have himp : Imp B (mSet B v (t.snoc v w)) := fun x tx hx => by
          rw [mGet_set]
          by_cases e : x = v
          · subst e; exact ⟨t.snoc x w, by simp, .inl (hlt tx hx)⟩
          · have : (x == v) = false := by simpa using e
            exact ⟨tx, by simp [this, hx], .inr rfl⟩
        have hva : v ≠ a := fun e => by
          subst e
          obtain ⟨q, hq⟩ := (hI.gd u t hu).wk.1.head
          rw [hq] at hv
          exact hv (List.mem_cons_self ..)
        refine ⟨⟨?_, fun x tx hx => ?_⟩, himp, fun t1 ht1 => ?_⟩
        · rw [mGet_set]
          have : (a == v) = false := by simpa using Ne.symm hva
          simp [this, hI.t0]
        · rw [mGet_set] at hx
          by_cases e : x = v
          · subst e
            simp at hx
            subst hx
            exact Gd.imp himp (.step (hI.gd u t hu) huv hv hu (.inr rfl))
          · have : (x == v) = false := by simpa using e
            rw [this] at hx
            exact Gd.imp himp (hI.gd x tx (by simpa using hx))
        · cases ht1
          exact ⟨t.snoc v w, by simp [mGet_set], .inr rfl⟩
      have hwk : Wk E a v (t.snoc v w).relays (t.snoc v w).millis ∧ (t.snoc v w).relays.Nodup := Gd.wk (.step (hI.gd u t hu) huv hv hu (.inr rfl))
      cases hg : mGet B v with
      | none =>
        simp only [Option.isSome_none, Bool.not_false, cond_true, bi_some]
        obtain ⟨p1, p2, p3⟩ := hput fun t1 h => by rw [hg] at h; cases h
        refine ok_some ⟨p1, p2, p3, fun h => by simp at h, fun h => ?_⟩
        obtain ⟨t', e, _⟩ := h v _ _ hwk.1 hwk.2
        rw [hg] at e; cases e
      | some t1 =>
        have hb1 := hlen v t1 hg
        simp only [Option.isSome_some, Bool.not_true, cond_false, Option.getD_some]
        obtain ⟨r, e, hr⟩ := ltrail_ok (t.snoc v w) t1 (by simp [T_laneref1_trail.snoc]; omega) (by omega)
        rw [e]
        simp only [bi_some]
        cases r with
        | true =>
          have hl := hr.1 rfl
          simp only [cond_true]
          obtain ⟨p1, p2, p3⟩ := hput fun t2 h => by rw [hg] at h; cases h; exact hl
          refine ok_some ⟨p1, p2, p3, fun h => by simp at h, fun h => ?_⟩
          obtain ⟨t', e1, e2⟩ := h v _ _ hwk.1 hwk.2
          rw [hg] at e1; cases e1
          exact absurd (T_laneref1_trail.le_less e2 hl) (T_laneref1_trail.less_irr _)
        | false =>
          have hl : ¬ (t.snoc v w).less t1 := fun h => by have := hr.2 h; cases this
          simp only [cond_false]
          refine ok_some ⟨hI, Imp.refl B, fun t2 ht2 => ?_, fun h => ⟨rfl, h⟩, fun _ => rfl⟩
          cases ht2
          exact ⟨t1, hg, T_laneref1_trail.tot hl⟩
end Go.Gk
