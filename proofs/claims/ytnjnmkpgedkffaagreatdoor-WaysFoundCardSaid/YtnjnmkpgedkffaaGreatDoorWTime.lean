/-
  The plain laws of routers: moments; how long a node is up.
-/
import Derived.Test.YtnjnmkpgedkffaaGreatDoorWCompact
set_option linter.unusedVariables false
set_option linter.unusedSimpArgs false
set_option linter.unusedSectionVars false
set_option maxRecDepth 100000
namespace Go.Gk
/-- The moments at which something is told, with 0 and the end. -/
structure Mom (l : List T_api_Health) (T : List Int) : Prop where
  srt : T.Pairwise (· < ·)
  mem : ∀ x, x ∈ T ↔ (x = 0 ∨ x = End ∨ ∃ h ∈ l, h.At = x)
  len : T.length ≤ l.length + 2
theorem told_ok (l : List T_api_Health) (hl : l.length ≤ 40) : ∃ T, m_laneref1_told 400 l = some T ∧ Mom l T := by
  unfold m_laneref1_told
  have key : ∀ (m : List T_api_Health) (i : Nat) (s : List Int), s.length + m.length ≤ 100 → rangeF (σ := List Int) (fun i1 (x3 : T_api_Health) s2 => bi (apd s2 [x3.At]) fun y12 => some y12) i m s = some (s ++ m.map (·.At)) := by
    intro m
    induction m with
    | nil => intro i s _; simp [rangeF]
    | cons x m ih =>
      intro i s hs
      simp only [List.length_cons] at hs
      simp only [rangeF]
      rw [apd_some (by simp; omega)]
      simp only [bi_some]
      rw [ih (i + 1) (s ++ [x.At]) (by simp; omega)]
      simp
  rw [key l 0 [0, 345686400] (by simp; omega)]
  simp only [bi_some]
  obtain ⟨r1, r2⟩ := rise_ok 400 ([0, 345686400] ++ l.map (·.At)) (by simp; omega) (by simp; omega)
  rw [r1]
  simp only [bi_some, List.length_mergeSort, decide_true, gd_true]
  rw [r2]
  refine ⟨_, rfl, rise_sorted _, fun x => ?_, ?_⟩
  · rw [rise_mem]
    simp [End]
  · have := dd_le (([0, 345686400] ++ l.map (fun h : T_api_Health => h.At)).mergeSort fun x y => decide (x ≤ y)) ([0, 345686400] ++ l.map (fun h : T_api_Health => h.At)).length
    unfold rise
    simp at this ⊢
    omega
section
variable {l : List T_api_Health} {T : List Int}
theorem Mom.lt (h : Mom l T) {i j : Nat} {a b : Int} (hij : i < j) (ha : T[i]? = some a) (hb : T[j]? = some b) : a < b := by
  obtain ⟨h1, rfl⟩ := List.getElem?_eq_some_iff.1 ha
  obtain ⟨h2, rfl⟩ := List.getElem?_eq_some_iff.1 hb
  exact List.pairwise_iff_getElem.1 h.srt i j h1 h2 hij
theorem Mom.rng (h : Mom l T) (hv : ValH l) {x : Int} (hx : x ∈ T) : 0 ≤ x ∧ x ≤ End := by
  rcases (h.mem x).1 hx with rfl | rfl | ⟨y, hy, rfl⟩
  · exact ⟨by decide, by decide⟩
  · exact ⟨by decide, by decide⟩
  · have := hv.1 y hy; omega
theorem Mom.first (h : Mom l T) (hv : ValH l) : T[0]? = some 0 := by
  obtain ⟨i, hi⟩ := List.getElem?_of_mem ((h.mem 0).2 (.inl rfl))
  have hl := (List.getElem?_eq_some_iff.1 hi).1
  have h0 : T[0]? = some T[0] := List.getElem?_eq_getElem (by omega)
  by_cases e : i = 0
  · subst e; exact hi
  · have h1 := h.lt (show 0 < i by omega) h0 hi
    have h2 := (h.rng hv (List.mem_of_getElem? h0)).1
    omega
theorem Mom.last (h : Mom l T) (hv : ValH l) : 2 ≤ T.length ∧ T[T.length - 1]? = some End := by
  obtain ⟨i, hi⟩ := List.getElem?_of_mem ((h.mem End).2 (.inr (.inl rfl)))
  have hl := (List.getElem?_eq_some_iff.1 hi).1
  have h0 := h.first hv
  have hl0 := (List.getElem?_eq_some_iff.1 h0).1
  have hi0 : i ≠ 0 := fun e => by subst e; rw [h0] at hi; exact absurd (Option.some.inj hi) (by decide)
  have hL : T[T.length - 1]? = some T[T.length - 1] := List.getElem?_eq_getElem (by omega)
  refine ⟨by omega, ?_⟩
  by_cases e : i = T.length - 1
  · subst e; exact hi
  · have h1 := h.lt (show i < T.length - 1 by omega) hi hL
    have h2 := (h.rng hv (List.mem_of_getElem? hL)).2
    omega
/-- Between two moments nothing is told. -/
theorem Mom.gap (h : Mom l T) (hv : ValH l) {i : Nat} {a b : Int} (ha : T[i]? = some a) (hb : T[i + 1]? = some b) {y : T_api_Health} (hy : y ∈ l) : y.At ≤ a ∨ b ≤ y.At := by
  obtain ⟨j, hj⟩ := List.getElem?_of_mem ((h.mem y.At).2 (.inr (.inr ⟨y, hy, rfl⟩)))
  rcases Nat.lt_trichotomy j i with h1 | h1 | h1
  · have := h.lt h1 hj ha; omega
  · subst h1; rw [ha] at hj; cases hj; omega
  · by_cases e : j = i + 1
    · subst e; rw [hb] at hj; cases hj; omega
    · have := h.lt (show i + 1 < j by omega) hb hj; omega
end
/-! ### How many moments of a window -/
def win (w : T_api_Window) (a b : Int) : Int := if ((if w.To < b then w.To else b) - (if w.From > a then w.From else a)) > 0 then ((if w.To < b then w.To else b) - (if w.From > a then w.From else a)) else 0
theorem win_add (w : T_api_Window) {a b c : Int} (h1 : a ≤ b) (h2 : b ≤ c) : win w a c = win w a b + win w b c := by
  unfold win
  repeat' split
  all_goals omega
theorem win_same (w : T_api_Window) (a : Int) : 0 ≤ win w a a ∧ win w a a = 0 := by
  unfold win
  constructor <;> (repeat' split) <;> omega
theorem win_le (w : T_api_Window) {a b : Int} (h : a ≤ b) : 0 ≤ win w a b ∧ win w a b ≤ b - a := by
  unfold win
  constructor <;> (repeat' split) <;> omega
theorem wi_win (w : T_api_Window) (hw : okW w) {a b : Int} (ha : 0 ≤ a ∧ a ≤ End) (hb : 0 ≤ b ∧ b ≤ End) : wi ((if w.To < b then w.To else b) - (if w.From > a then w.From else a)) = (if w.To < b then w.To else b) - (if w.From > a then w.From else a) := by
  have h1 := hw.1; have h2 := hw.2
  simp only [End] at ha hb
  refine wi_id ?_ ?_ <;> (repeat' split) <;> omega
theorem within_ok (w : T_api_Window) (hw : okW w) {a b : Int} (ha : 0 ≤ a ∧ a ≤ End) (hb : 0 ≤ b ∧ b ≤ End) : m_route_within a b w = some (win w a b) := by
  unfold m_route_within
  rw [wi_win w hw ha hb]
  rfl
/-- The program's sum. -/
def stp (w : T_api_Window) (node : Str) (s : Int × Int × Bool) (x : T_api_Health) : Int × Int × Bool := if x.Node = node then (s.1 + (if s.2.2 then win w s.2.1 x.At else 0), x.At, x.Up) else s
def vl (w : T_api_Window) (s : Int × Int × Bool) (t : Int) : Int := s.1 + (if s.2.2 then win w s.2.1 t else 0)
def stA (w : T_api_Window) (node : Str) (l : List T_api_Health) (t : Int) : Int × Int × Bool := (l.filter fun x => decide (x.At ≤ t)).foldl (stp w node) (0, 0, false)
theorem vl_same (w : T_api_Window) (node : Str) : ∀ (m : List T_api_Health) (s : Int × Int × Bool) (t : Int), s.2.1 ≤ t → (∀ x ∈ m, x.At = t) → vl w (m.foldl (stp w node) s) t = vl w s t ∧ (m.foldl (stp w node) s).2.1 ≤ t
  | [], s, t, h, _ => ⟨rfl, h⟩
  | x :: m, s, t, h, hm => by
    have hx := hm x List.mem_cons_self
    have hstep : vl w (stp w node s x) t = vl w s t ∧ (stp w node s x).2.1 ≤ t := by
      unfold stp
      by_cases hn : x.Node = node
      · rw [if_pos hn]
        unfold vl
        simp only [hx]
        refine ⟨?_, Int.le_refl _⟩
        have := (win_same w t).2
        cases x.Up <;> simp [this]
      · rw [if_neg hn]; exact ⟨rfl, h⟩
    obtain ⟨h1, h2⟩ := vl_same w node m (stp w node s x) t hstep.2 fun y hy => hm y (List.mem_cons_of_mem _ hy)
    rw [List.foldl_cons, h1, hstep.1]
    exact ⟨rfl, h2⟩
theorem stA_since (w : T_api_Window) (node : Str) (l : List T_api_Health) (t : Int) (ht : 0 ≤ t) : (stA w node l t).2.1 ≤ t := by
  unfold stA
  have key : ∀ (m : List T_api_Health) (s : Int × Int × Bool), s.2.1 ≤ t → (∀ x ∈ m, x.At ≤ t) → (m.foldl (stp w node) s).2.1 ≤ t := by
    intro m
    induction m with
    | nil => intro s h _; exact h
    | cons x m ih =>
      intro s h hm
      rw [List.foldl_cons]
      refine ih _ ?_ fun y hy => hm y (List.mem_cons_of_mem _ hy)
      unfold stp
      split
      · exact hm x List.mem_cons_self
      · exact h
  exact key _ _ ht fun x hx => by simpa using (List.mem_filter.1 hx).2
theorem stA_up (w : T_api_Window) (node : Str) (l : List T_api_Health) (t : Int) : (stA w node l t).2.2 = upAt l node t := by
  unfold stA upAt
  have key : ∀ (m : List T_api_Health) (s : Int × Int × Bool), ((m.filter fun x => decide (x.At ≤ t)).foldl (stp w node) s).2.2 = m.foldl (fun s x => if x.Node = node ∧ x.At ≤ t then x.Up else s) s.2.2 := by
    intro m
    induction m with
    | nil => intro s; rfl
    | cons x m ih =>
      intro s
      by_cases h1 : x.At ≤ t
      · rw [List.filter_cons_of_pos (by simpa using h1), List.foldl_cons, List.foldl_cons, ih]
        unfold stp
        by_cases hn : x.Node = node
        · have e : x.Node = node ∧ x.At ≤ t := ⟨hn, h1⟩
          rw [if_pos hn, if_pos e]
        · have e : ¬ (x.Node = node ∧ x.At ≤ t) := fun h => hn h.1
          rw [if_neg hn, if_neg e]
      · rw [List.filter_cons_of_neg (by simpa using h1), List.foldl_cons, ih, if_neg fun h => h1 h.2]
  exact key l (0, 0, false)
theorem filter_split {l : List T_api_Health} (hs : ∀ (i j : Nat) (x y : T_api_Health), i < j → l[i]? = some x → l[j]? = some y → x.At ≤ y.At) {a b : Int} (hab : a < b) (hg : ∀ y ∈ l, y.At ≤ a ∨ b ≤ y.At) :
    (l.filter fun x => decide (x.At ≤ b)) = (l.filter fun x => decide (x.At ≤ a)) ++ l.filter fun x => decide (x.At = b) := by
  have hp : l.Pairwise (fun x y => x.At ≤ y.At) := List.pairwise_iff_getElem.2 fun i j h1 h2 hij => hs i j _ _ hij (List.getElem?_eq_getElem h1) (List.getElem?_eq_getElem h2)
  clear hs
  induction l with
  | nil => rfl
  | cons x l ih =>
    rw [List.pairwise_cons] at hp
    have ih' := ih (fun y hy => hg y (List.mem_cons_of_mem _ hy)) hp.2
    rcases hg x List.mem_cons_self with h1 | h1
    · rw [List.filter_cons_of_pos (by simp; omega), List.filter_cons_of_pos (by simpa using h1), List.filter_cons_of_neg (by simp; omega), ih']
      rfl
    · have hn : (l.filter fun x => decide (x.At ≤ a)) = [] := List.filter_eq_nil_iff.2 fun y hy => by
        have := hp.1 y hy
        simp; omega
      rw [hn, List.nil_append] at ih'
      rw [List.filter_cons_of_neg (p := fun x : T_api_Health => decide (x.At ≤ a)) (by simp; omega), hn, List.nil_append]
      by_cases h2 : x.At = b
      · rw [List.filter_cons_of_pos (by simp; omega), List.filter_cons_of_pos (by simpa using h2), ih']
      · rw [List.filter_cons_of_neg (by simp; omega), List.filter_cons_of_neg (by simpa using h2), ih']
theorem stA_next {l : List T_api_Health} (hv : ValH l) (w : T_api_Window) (node : Str) {a b : Int} (ha : 0 ≤ a) (hab : a < b) (hg : ∀ y ∈ l, y.At ≤ a ∨ b ≤ y.At) :
    vl w (stA w node l b) b = vl w (stA w node l a) a + (if upAt l node a then win w a b else 0) := by
  have h1 := stA_since w node l a ha
  have hsp := filter_split hv.2 hab hg
  have h2 := vl_same w node (l.filter fun x => decide (x.At = b)) (stA w node l a) b (by omega) fun x hx => by simpa using (List.mem_filter.1 hx).2
  have e : stA w node l b = (l.filter fun x => decide (x.At = b)).foldl (stp w node) (stA w node l a) := by
    unfold stA
    rw [hsp, List.foldl_append]
  rw [e, h2.1, ← stA_up w node l a]
  unfold vl
  cases (stA w node l a).2.2 with
  | false => simp
  | true =>
    simp only [if_true]
    rw [win_add w h1 (Int.le_of_lt hab)]
    omega
end Go.Gk
