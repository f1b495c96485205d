/-
  The plain laws of routers: health drawn; who is up.
-/
import Derived.Test.YtnjnmkpgedkffaaGreatDoorWFault
set_option linter.unusedVariables false
set_option linter.unusedSimpArgs false
set_option linter.unusedSectionVars false
set_option maxRecDepth 100000
namespace Go.Gk
theorem healthD (l : List Int) (hl : l.length ≤ 9223372036854775807) (a many : Int) (h0 : 0 ≤ a) (h1 : a < 4611686018427330000) (h2 : 0 ≤ many) (h3 : many ≤ 8) : Dr l a 100 (m_lanemake_Stream_HealthLog ⟨l, a⟩ many) okH := by
  unfold m_lanemake_Stream_HealthLog Dr
  rw [decide_eq_true (show many ≤ 9223372036854775807 by omega), gd_true]
  generalize hf : (fun (i1 : Nat) (s2 : T_lanemake_Stream × (List T_api_Health) × Int) => bi (m_lanemake_Stream_Pick s2.1 [0, 1, 10, 30]) fun y13 => _) = f
  obtain ⟨⟨s, out, now⟩, hr, a1, b1, b2, b3, b4, b5, b6, b7⟩ := rangeG_at (n := many) (s := ((⟨l, a⟩ : T_lanemake_Stream), ([] : List T_api_Health), (0 : Int))) (f := f)
    (fun i s => ∃ a', s.1 = (⟨l, a'⟩ : T_lanemake_Stream) ∧ a ≤ a' ∧ a' ≤ a + 3 * i ∧ (∀ x ∈ s.2.1, x.Node ∈ nodeT) ∧ s.2.1.length ≤ i ∧ 0 ≤ s.2.2 ∧ s.2.2 ≤ 31 * i) ⟨a, rfl, by omega, by omega, (fun x hx => by cases hx), by simp, by simp, by simp⟩ (by
      rintro i ⟨s, out, now⟩ hi ⟨a', e1, e2, e3, e4, e5, e6, e7⟩
      simp only at e1 e2 e3 e4 e5 e6 e7
      subst e1
      subst hf
      simp only
      have hi8 : (i : Int) < 8 := by omega
      obtain ⟨q, hq, p1⟩ := pick_ok l a' [0, 1, 10, 30] hl (by omega) (by omega) (by simp) (by simp)
      have kq : 0 ≤ q ∧ q ≤ 30 := of_decide_eq_true (inT (fun b => decide (0 ≤ b ∧ b ≤ 30)) (by decide) hq)
      obtain ⟨n, hn, p2⟩ := some_ok l (a' + 1) [[110, 97], [110, 98], [110, 99], [110, 100]] hl (by omega) (by omega) (by simp) (by simp)
      obtain ⟨fl, p3⟩ := flip_ok l (a' + 1 + 1) 3 hl (by omega) (by omega) (by decide) (by decide)
      have w1 : wi (now + q) = now + q := wi_id (by omega) (by omega)
      have w2 : wi (now + q + 1) = now + q + 1 := wi_id (by omega) (by omega)
      rw [p1]; simp only [bi_some]
      rw [p2]; simp only [bi_some]
      rw [p3]; simp only [bi_some, w1, w2]
      have hc : ∃ c, (bif decide (((out.length : Int) : Int) > 0) then (bi (getZ out (wi ((out.length : Int) - 1))) fun x22 => bif (x22.At : Int) == (now + q) then (bi (getZ out (wi ((out.length : Int) - 1))) fun x26 => some (!(Op.bytesLess x26.Node n))) else (some false)) else (some false)) = some c := by
        by_cases h0 : out.length = 0
        · rw [h0]; exact ⟨false, rfl⟩
        · rw [decide_eq_true (show (out.length : Int) > 0 by omega)]
          have wl : wi ((out.length : Int) - 1) = ((out.length - 1 : Nat) : Int) := by rw [wi_id (by omega) (by omega)]; omega
          rw [wl]
          simp only [cond_true, getZ_cast, List.getElem?_eq_getElem (show out.length - 1 < out.length by omega), bi_some]
          cases ((out[out.length - 1]).At == now + q) <;> exact ⟨_, rfl⟩
      obtain ⟨c, hc⟩ := hc
      rw [hc]
      simp only [bi_some]
      have ht : ∃ t, now + q ≤ t ∧ t ≤ now + q + 1 ∧ (bif c then (some (now + q + 1, now + q + 1)) else (some (now + q, now + q))) = some (t, t) := by
        cases c
        · exact ⟨_, Int.le_refl _, by omega, rfl⟩
        · exact ⟨_, by omega, Int.le_refl _, rfl⟩
      obtain ⟨t, t1, t2, ht⟩ := ht
      rw [ht]
      simp only [bi_some]
      rw [apd_some (by simp; omega)]
      refine ⟨_, rfl, a' + 1 + 1 + 1, rfl, by omega, by omega, fun x hx => ?_, by simp; omega, by simp only; omega, by simp only; omega⟩
      rcases List.mem_append.1 hx with hx | hx
      · exact e4 x hx
      · simp only [List.mem_singleton] at hx
        subst hx
        exact inN (by decide) hn)
  have b1' : s = (⟨l, a1⟩ : T_lanemake_Stream) := b1
  subst b1'
  have b4' : ∀ x ∈ out, x.Node ∈ nodeT := b4
  have b5' : out.length ≤ many.toNat := b5
  rw [hr]
  simp only [bi_some]
  obtain ⟨fl, p1⟩ := flip_ok l a1 20 hl (by omega) (by omega) (by decide) (by decide)
  rw [p1]
  simp only [bi_some]
  cases fl with
  | false => simp only [cond_false, bi_some]; refine ⟨_, _, ⟨b4', by omega⟩, ?_, ?_, rfl⟩; omega; omega
  | true =>
    obtain ⟨q, hq, p2⟩ := pick_ok l (a1 + 1) [-1, 345686400, 0] hl (by omega) (by omega) (by simp) (by simp)
    obtain ⟨n, hn, p3⟩ := some_ok l (a1 + 1 + 1) [[], [110, 97]] hl (by omega) (by omega) (by simp) (by simp)
    simp only [cond_true, p2, p3, bi_some]
    rw [apd_some (by simp; omega)]
    simp only [bi_some]
    refine ⟨_, _, ⟨fun x hx => ?_, by simp; omega⟩, ?_, ?_, rfl⟩
    · rcases List.mem_append.1 hx with hx | hx
      · exact b4' x hx
      · simp only [List.mem_singleton] at hx
        subst hx
        exact inN (by decide) hn
    · omega
    · omega
theorem timeD (l : List Int) (hl : l.length ≤ 9223372036854775807) (a : Int) (h0 : 0 ≤ a) (h1 : a < 4611686018427330000) : Dr l a 4 (m_lanemake_Stream_Time ⟨l, a⟩) fun _ => True := by
  unfold m_lanemake_Stream_Time Dr
  obtain ⟨x, _, _, e1⟩ := next_ok l a 300 hl (by omega) (by omega) (by decide) (by decide)
  obtain ⟨y, _, _, e2⟩ := next_ok l (a + 1) 300 hl (by omega) (by omega) (by decide) (by decide)
  obtain ⟨z, _, e3⟩ := pick_ok l (a + 1 + 1) [345686399, -1, 345686400] hl (by omega) (by omega) (by simp) (by simp)
  obtain ⟨w, _, e4⟩ := pick_ok l (a + 1 + 1 + 1) [0, 5, 20, 40, 60, 80, 120, x, y, z] hl (by omega) (by omega) (by simp) (by simp)
  rw [e1]; simp only [bi_some]
  rw [e2]; simp only [bi_some]
  rw [e3]; simp only [bi_some]
  rw [e4]; simp only [bi_some]
  refine ⟨_, _, trivial, ?_, ?_, rfl⟩; omega; omega
def okW (w : T_api_Window) : Prop := (-1 ≤ w.From ∧ w.From ≤ 345686401) ∧ (-1 ≤ w.To ∧ w.To ≤ 345686401)
theorem spanD (l : List Int) (hl : l.length ≤ 9223372036854775807) (a : Int) (h0 : 0 ≤ a) (h1 : a < 4611686018427330000) : Dr l a 5 (m_lanemake_Stream_Span ⟨l, a⟩) okW := by
  unfold m_lanemake_Stream_Span Dr
  have B : Int → Bool := fun b => decide (-1 ≤ b ∧ b ≤ 345686401)
  obtain ⟨x, hx, e1⟩ := pick_ok l a [0, 5, 30, 100] hl (by omega) (by omega) (by simp) (by simp)
  obtain ⟨y, hy, e2⟩ := pick_ok l (a + 1) [30, 100, 250, 1000, 345686400] hl (by omega) (by omega) (by simp) (by simp)
  obtain ⟨fl, e3⟩ := flip_ok l (a + 1 + 1) 20 hl (by omega) (by omega) (by decide) (by decide)
  have k1 : -1 ≤ x ∧ x ≤ 345686401 := of_decide_eq_true (inT (fun b => decide (-1 ≤ b ∧ b ≤ 345686401)) (by decide) hx)
  have k2 : -1 ≤ y ∧ y ≤ 345686401 := of_decide_eq_true (inT (fun b => decide (-1 ≤ b ∧ b ≤ 345686401)) (by decide) hy)
  rw [e1]; simp only [bi_some]
  rw [e2]; simp only [bi_some]
  rw [e3]; simp only [bi_some]
  cases fl with
  | false => simp only [cond_false, bi_some]; refine ⟨_, _, ⟨k1, k2⟩, ?_, ?_, rfl⟩; omega; omega
  | true =>
    obtain ⟨z, hz, e4⟩ := pick_ok l (a + 1 + 1 + 1) [-1, 10] hl (by omega) (by omega) (by simp) (by simp)
    obtain ⟨w, hw, e5⟩ := pick_ok l (a + 1 + 1 + 1 + 1) [9, 345686401] hl (by omega) (by omega) (by simp) (by simp)
    have k3 : -1 ≤ z ∧ z ≤ 345686401 := of_decide_eq_true (inT (fun b => decide (-1 ≤ b ∧ b ≤ 345686401)) (by decide) hz)
    have k4 : -1 ≤ w ∧ w ≤ 345686401 := of_decide_eq_true (inT (fun b => decide (-1 ≤ b ∧ b ≤ 345686401)) (by decide) hw)
    simp only [cond_true, e4, e5, bi_some]
    refine ⟨_, _, ⟨k3, k4⟩, ?_, ?_, rfl⟩; omega; omega
/-! ### Who is up -/
def upAt (l : List T_api_Health) (node : Str) (t : Int) : Bool := l.foldl (fun s x => if x.Node = node ∧ x.At ≤ t then x.Up else s) false
theorem upAt_ok (l : List T_api_Health) (node : Str) (t : Int) : m_laneref1_UpAt l node t = some (upAt l node t) := by
  unfold m_laneref1_UpAt upAt
  have key : ∀ (m : List T_api_Health) (i : Nat) (s : Bool), rangeF (σ := Bool) (fun i1 x3 s2 => bif (((x3.Node : Str) == node) && (decide ((x3.At : Int) ≤ t))) then (some x3.Up) else (some s2)) i m s = some (m.foldl (fun s x => if x.Node = node ∧ x.At ≤ t then x.Up else s) s) := by
    intro m
    induction m with
    | nil => intro i s; rfl
    | cons x m ih =>
      intro i s
      simp only [rangeF, List.foldl_cons]
      by_cases h : x.Node = node ∧ x.At ≤ t
      · rw [if_pos h, show ((x.Node == node) && decide (x.At ≤ t)) = true by simp [h.1, h.2]]
        exact ih (i + 1) x.Up
      · rw [if_neg h, show ((x.Node == node) && decide (x.At ≤ t)) = false by
          rw [Bool.eq_false_iff]; intro hc; simp at hc; exact h hc]
        exact ih (i + 1) s
  rw [key]; rfl
theorem isUp_ok {l : List T_api_Health} (h : ∀ (i j : Nat) (x y : T_api_Health), i < j → l[i]? = some x → l[j]? = some y → x.At ≤ y.At) (node : Str) (t : Int) : m_route_isUp l node t = some (upAt l node t) := by
  unfold m_route_isUp upAt
  have late : ∀ (m : List T_api_Health) (s : Bool), (∀ x ∈ m, t < x.At) → m.foldl (fun s x => if x.Node = node ∧ x.At ≤ t then x.Up else s) s = s := by
    intro m
    induction m with
    | nil => intro s _; rfl
    | cons x m ih =>
      intro s hm
      have := hm x List.mem_cons_self
      rw [List.foldl_cons, if_neg (by omega)]
      exact ih s fun y hy => hm y (List.mem_cons_of_mem _ hy)
  have key : ∀ (m : List T_api_Health) (i : Nat) (s : Bool), m.Pairwise (fun x y => x.At ≤ y.At) → (bi (rangeM (σ := Bool) (ρ := Bool) (fun i1 x3 s2 => bif decide ((x3.At : Int) > t) then (some (.out s2)) else (bif (x3.Node : Str) == node then (some (.go x3.Up)) else (some (.go s2)))) i m s) fun q => bi (lsN q fun s2 => s2) fun q8 => some q8) = some (m.foldl (fun s x => if x.Node = node ∧ x.At ≤ t then x.Up else s) s) := by
    intro m
    induction m with
    | nil => intro i s _; rfl
    | cons x m ih =>
      intro i s hp
      rw [List.pairwise_cons] at hp
      by_cases ht : x.At > t
      · rw [late (x :: m) s fun y hy => by
          rcases List.mem_cons.1 hy with rfl | hy
          · exact ht
          · have := hp.1 y hy; omega]
        simp only [rangeM, decide_eq_true ht, cond_true, bi_some, lsN_out]
      · simp only [rangeM, decide_eq_false ht, cond_false, List.foldl_cons]
        by_cases hn : x.Node = node
        · rw [if_pos ⟨hn, by omega⟩, show (x.Node == node) = true by simpa using hn]
          exact ih (i + 1) x.Up hp.2
        · rw [if_neg fun hc => hn hc.1, beq_eq_false_iff_ne.2 hn]
          exact ih (i + 1) s hp.2
  exact key l 0 false (List.pairwise_iff_getElem.2 fun i j h1 h2 hij => h i j _ _ hij (List.getElem?_eq_getElem h1) (List.getElem?_eq_getElem h2))
end Go.Gk
