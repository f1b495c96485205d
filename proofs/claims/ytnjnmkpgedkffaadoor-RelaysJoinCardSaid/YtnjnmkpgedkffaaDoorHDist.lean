/-
  The plain law: steps of links; how far all relays are from one.
-/
import Derived.Test.YtnjnmkpgedkffaaDoorHFault
set_option linter.unusedVariables false
set_option linter.unusedSimpArgs false
set_option linter.unusedSectionVars false
set_option maxRecDepth 100000
namespace Go.Gk
/-- Two relays are linked. -/
def adj (l : List T_api_Link) (u v : Str) (w : Int) : Prop := ∃ x ∈ l, x.Millis = w ∧ ((x.A = u ∧ x.v_B = v) ∨ (x.v_B = u ∧ x.A = v))
theorem adj.symm {l : List T_api_Link} {u v : Str} {w : Int} (h : adj l u v w) : adj l v u w := let ⟨x, h1, h2, h3⟩ := h; ⟨x, h1, h2, h3.symm.imp (fun h => ⟨h.2, h.1⟩) fun h => ⟨h.2, h.1⟩⟩
def stp (S : List (Str × Tl T_route_step)) (u : Str) : List T_route_step := ((mGet S u).getD (1, [])).2
theorem stp_set (m : List (Str × Tl T_route_step)) (k : Str) (s : Tl T_route_step) (u : Str) : stp (mSet m k s) u = if u = k then s.2 else stp m u := by
  unfold stp
  rw [mGet_set]
  by_cases h : u = k
  · subst h; simp
  · have : (u == k) = false := by simpa using h
    simp [this, h]
/-- The slices of a map live, each by its own tag. -/
structure TgI {α : Type} (m : List (Str × Tl α)) (al : List Bool) : Prop where
  live : ∀ k s, mGet m k = some s → ∃ j, s.1 = j + 2 ∧ al[j]? = some true
  one : ∀ k k' s s', mGet m k = some s → mGet m k' = some s' → s.1 = s'.1 → k = k'
theorem TgI.app {α : Type} {m : List (Str × Tl α)} {al : List Bool} (h : TgI m al) (k : Str) (y : α) (hl : ((mGet m k).getD (1, [])).2.length < 4294967296) :
    ∃ al', appT al ((mGet m k).getD (1, [])) [y] = some ((al.length + 2, ((mGet m k).getD (1, [])).2 ++ [y]), al') ∧ TgI (mSet m k (al.length + 2, ((mGet m k).getD (1, [])).2 ++ [y])) al' := by
  have key : ∀ al0 : List Bool, al0.length = al.length → (∀ k' s, k' ≠ k → mGet m k' = some s → ∃ j, s.1 = j + 2 ∧ al0[j]? = some true) → TgI (mSet m k (al.length + 2, ((mGet m k).getD (1, [])).2 ++ [y])) (al0 ++ [true]) := by
    intro al0 h0 h1
    refine ⟨fun k' s hs => ?_, fun k1 k2 s s' hs hs' e => ?_⟩
    · rw [mGet_set] at hs
      by_cases hk : k' = k
      · subst hk
        simp at hs
        subst hs
        exact ⟨al.length, rfl, by rw [← h0]; simp⟩
      · have : (k' == k) = false := by simpa using hk
        rw [this] at hs
        obtain ⟨j, e1, e2⟩ := h1 k' s hk (by simpa using hs)
        exact ⟨j, e1, by rw [List.getElem?_append_left (List.getElem?_eq_some_iff.1 e2).1]; exact e2⟩
    · rw [mGet_set] at hs hs'
      have lt : ∀ k' s, mGet m k' = some s → s.1 < al.length + 2 := fun k' s hs => by
        obtain ⟨j, e1, e2⟩ := h.live k' s hs
        have := (List.getElem?_eq_some_iff.1 e2).1
        omega
      by_cases hk1 : k1 = k
      · by_cases hk2 : k2 = k
        · rw [hk1, hk2]
        · have b1 : (k1 == k) = true := by simpa using hk1
          have b2 : (k2 == k) = false := by simpa using hk2
          rw [b1] at hs; rw [b2] at hs'
          simp only [if_true, Option.some.injEq, Bool.false_eq_true, if_false] at hs hs'
          have := lt k2 s' hs'
          subst hs
          simp only at e
          omega
      · have b1 : (k1 == k) = false := by simpa using hk1
        rw [b1] at hs
        simp only [Bool.false_eq_true, if_false] at hs
        by_cases hk2 : k2 = k
        · have b2 : (k2 == k) = true := by simpa using hk2
          rw [b2] at hs'
          simp only [if_true, Option.some.injEq] at hs'
          have := lt k1 s hs
          subst hs'
          simp only at e
          omega
        · have b2 : (k2 == k) = false := by simpa using hk2
          rw [b2] at hs'
          simp only [Bool.false_eq_true, if_false] at hs'
          exact h.one k1 k2 s s' hs hs' e
  have hap : apd ((mGet m k).getD (1, [])).2 [y] = some (((mGet m k).getD (1, [])).2 ++ [y]) := apd_some (by simp; omega)
  cases hm : mGet m k with
  | none =>
    rw [hm] at hap key
    refine ⟨al ++ [true], ?_, key al rfl fun k' s _ hs => h.live k' s hs⟩
    unfold appT
    rw [hap]
    rfl
  | some s =>
    obtain ⟨j, e1, e2⟩ := h.live k s hm
    rw [hm] at hap key
    obtain ⟨t, xs⟩ := s
    simp only at e1
    subst e1
    refine ⟨al.set j false ++ [true], ?_, key (al.set j false) (by simp) fun k' s hk hs => ?_⟩
    · unfold appT
      simp only [Option.getD_some] at hap ⊢
      rw [hap]
      simp only [bi_some, List.isEmpty_cons, cond_false, e2, Option.getD_some, cond_true]
    · obtain ⟨j', e3, e4⟩ := h.live k' s hs
      refine ⟨j', e3, ?_⟩
      rw [List.getElem?_set_ne fun e => ?_]
      · exact e4
      · subst e
        exact hk (h.one k' k s _ hs hm (by rw [e3]))
theorem steps_ok (l : List T_api_Link) (hl : l.length ≤ 1000) (al : BagT) : Ok (m_route_stepsOf l al) fun q => ∀ u x, x ∈ stp q.1 u ↔ adj l u x.to x.millis := by
  unfold m_route_stepsOf
  refine ok_bi (ok_rangeF (fun i s => TgI s.2 s.1.1 ∧ (∀ u, (stp s.2 u).length ≤ 2 * i) ∧ ∀ u x, x ∈ stp s.2 u ↔ adj (l.take i) u x.to x.millis) ⟨⟨fun k s h => (by cases h), fun k k' s s' h => (by cases h)⟩, fun u => by simp [stp, mGet_nil], fun u x => by simp [stp, mGet_nil, adj]⟩ ?_) ?_
  · rintro i x ⟨⟨al, ar⟩, m⟩ hx ⟨h1, h2, h3⟩
    simp only at h1 h2 h3
    have hil : i < l.length := (List.getElem?_eq_some_iff.1 hx).1
    have hA := h2 x.A
    obtain ⟨al1, e1, t1⟩ := h1.app x.A (⟨x.v_B, x.Millis⟩ : T_route_step) (by have : ((mGet m x.A).getD (1, [])).2.length ≤ 2 * i := hA; omega)
    refine ok_eq e1 ?_
    simp only
    have hs1 : ∀ u, stp (mSet m x.A (al.length + 2, ((mGet m x.A).getD (1, [])).2 ++ [(⟨x.v_B, x.Millis⟩ : T_route_step)])) u = if u = x.A then stp m x.A ++ [(⟨x.v_B, x.Millis⟩ : T_route_step)] else stp m u := fun u => stp_set _ _ _ _
    have hB : (stp (mSet m x.A (al.length + 2, ((mGet m x.A).getD (1, [])).2 ++ [(⟨x.v_B, x.Millis⟩ : T_route_step)])) x.v_B).length ≤ 2 * i + 1 := by
      rw [hs1]
      split
      · simp; exact h2 x.A
      · have := h2 x.v_B; omega
    obtain ⟨al2, e2, t2⟩ := t1.app x.v_B (⟨x.A, x.Millis⟩ : T_route_step) (by
      have := hB
      unfold stp at this
      omega)
    refine ok_eq e2 (ok_some ⟨t2, fun u => ?_, fun u y => ?_⟩)
    · simp only
      rw [stp_set]
      split
      · have := hB
        unfold stp at this
        simp only [List.length_append, List.length_cons, List.length_nil]
        omega
      · rw [hs1]
        split
        · have := h2 x.A; simp; omega
        · have := h2 u; omega
    · simp only
      have hadj : adj (l.take (i + 1)) u y.to y.millis ↔ adj (l.take i) u y.to y.millis ∨ (x.Millis = y.millis ∧ ((x.A = u ∧ x.v_B = y.to) ∨ (x.v_B = u ∧ x.A = y.to))) := by
        unfold adj
        rw [List.take_add_one, hx]
        simp only [Option.toList_some, List.mem_append, List.mem_singleton]
        constructor
        · rintro ⟨z, hz | rfl, h4⟩
          · exact .inl ⟨z, hz, h4⟩
          · exact .inr h4
        · rintro (⟨z, hz, h4⟩ | h4)
          · exact ⟨z, .inl hz, h4⟩
          · exact ⟨x, .inr rfl, h4⟩
      rw [hadj, ← h3, stp_set]
      have hfold : ((mGet (mSet m x.A (al.length + 2, ((mGet m x.A).getD (1, [])).2 ++ [(⟨x.v_B, x.Millis⟩ : T_route_step)])) x.v_B).getD (1, [])).2 = if x.v_B = x.A then stp m x.A ++ [(⟨x.v_B, x.Millis⟩ : T_route_step)] else stp m x.v_B := hs1 x.v_B
      obtain ⟨yt, ym⟩ := y
      by_cases hu : u = x.v_B
      · subst hu
        rw [if_pos rfl]
        simp only [hfold]
        by_cases hab : x.v_B = x.A
        · rw [if_pos hab]
          simp only [hab, List.mem_append, List.mem_singleton, T_route_step.mk.injEq]
          constructor
          · rintro ((h | ⟨rfl, rfl⟩) | ⟨rfl, rfl⟩)
            · exact .inl h
            · exact .inr ⟨rfl, .inl ⟨trivial, rfl⟩⟩
            · exact .inr ⟨rfl, .inl ⟨trivial, rfl⟩⟩
          · rintro (h | ⟨rfl, h | h⟩)
            · exact .inl (.inl h)
            · exact .inr ⟨h.2.symm, rfl⟩
            · exact .inr ⟨h.2.symm, rfl⟩
        · rw [if_neg hab]
          simp only [List.mem_append, List.mem_singleton, T_route_step.mk.injEq]
          constructor
          · rintro (h | ⟨rfl, rfl⟩)
            · exact .inl h
            · exact .inr ⟨rfl, .inr ⟨trivial, rfl⟩⟩
          · rintro (h | ⟨rfl, h | h⟩)
            · exact .inl h
            · exact absurd h.1.symm hab
            · exact .inr ⟨h.2.symm, rfl⟩
      · rw [if_neg hu, hs1]
        by_cases hua : u = x.A
        · subst hua
          rw [if_pos rfl]
          simp only [List.mem_append, List.mem_singleton, T_route_step.mk.injEq]
          constructor
          · rintro (h | ⟨rfl, rfl⟩)
            · exact .inl h
            · exact .inr ⟨rfl, .inl ⟨trivial, rfl⟩⟩
          · rintro (h | ⟨rfl, h | h⟩)
            · exact .inl h
            · exact .inr ⟨h.2.symm, rfl⟩
            · exact absurd h.1.symm hu
        · rw [if_neg hua]
          constructor
          · exact .inl
          · rintro (h | ⟨_, h | h⟩)
            · exact h
            · exact absurd h.1.symm hua
            · exact absurd h.1.symm hu
  · rintro ⟨b, m⟩ ⟨_, _, h3⟩
    rw [List.take_length] at h3
    exact ok_some h3
/-! ### Far and near -/
abbrev Far := T_route_far
def T_route_far.le (a b : Far) : Prop := a.millis < b.millis ∨ (a.millis = b.millis ∧ a.links ≤ b.links)
def T_route_far.lt (a b : Far) : Prop := a.millis < b.millis ∨ (a.millis = b.millis ∧ a.links < b.links)
def T_route_far.add (a : Far) (w : Int) : Far := ⟨a.millis + w, a.links + 1⟩
theorem fless_ok (a b : Far) : m_route_far_less a b = some true ∧ T_route_far.lt a b ∨ m_route_far_less a b = some false ∧ T_route_far.le b a := by
  unfold m_route_far_less T_route_far.lt T_route_far.le
  cases h : ((decide ((a.millis : Int) < b.millis)) || (((a.millis : Int) == b.millis) && (decide ((a.links : Int) < b.links)))) with
  | true =>
    refine .inl ⟨rfl, ?_⟩
    simp only [Bool.or_eq_true, decide_eq_true_eq, Bool.and_eq_true, beq_iff_eq] at h
    exact h
  | false =>
    refine .inr ⟨rfl, ?_⟩
    simp only [Bool.or_eq_false_iff, decide_eq_false_iff_not, Bool.and_eq_false_iff, beq_eq_false_iff_ne, ne_eq] at h
    omega
theorem T_route_far.le_trans {a b c : Far} (h : a.le b) (k : b.le c) : a.le c := by unfold T_route_far.le at *; omega
theorem T_route_far.le_refl (a : Far) : a.le a := .inr ⟨rfl, Int.le_refl _⟩
theorem T_route_far.lt_le {a b : Far} (h : a.lt b) : a.le b := by unfold T_route_far.le T_route_far.lt at *; omega
theorem T_route_far.not_lt {a b : Far} (h : a.le b) : ¬ b.lt a := by unfold T_route_far.le T_route_far.lt at *; omega
theorem T_route_far.anti {a b : Far} (h : a.le b) (k : b.le a) : a = b := by
  obtain ⟨m, n⟩ := a
  obtain ⟨m', n'⟩ := b
  unfold T_route_far.le at *
  simp only at h k
  have h1 : m = m' := by omega
  have h2 : n = n' := by omega
  rw [h1, h2]
theorem T_route_far.le_add {a : Far} {w : Int} (hw : 0 ≤ w) : a.lt (a.add w) := by unfold T_route_far.lt T_route_far.add; simp only; omega
theorem T_route_far.add_le {a b : Far} (h : a.le b) (w : Int) : (a.add w).le (b.add w) := by unfold T_route_far.le T_route_far.add at *; simp only; omega
/-! ### A loop over a map in whatever order -/
theorem rangeW_by {α σ : Type} {f : α → σ → Option σ} {m : List α} {s : σ} {Q : σ → Prop} (I : List α → σ → Prop) (h0 : I [] s)
    (hst : ∀ (seen : List α) (x : α) (s : σ), (∃ rest, (seen ++ x :: rest).Perm m) → I seen s → Ok (f x s) (I (seen ++ [x])))
    (hend : ∀ (seen : List α) (s : σ), seen.Perm m → I seen s → Q s) : rangeW f m s Q := by
  intro m' hm'
  have key : ∀ (l seen : List α) (s : σ), (seen ++ l).Perm m → I seen s → ∃ s', rangeL f l s = some s' ∧ I (seen ++ l) s' := by
    intro l
    induction l with
    | nil => intro seen s hp hi; exact ⟨s, rfl, by simpa using hi⟩
    | cons x l ih =>
      intro seen s hp hi
      obtain ⟨s', e1, e2⟩ := hst seen x s ⟨l, hp⟩ hi
      obtain ⟨s2, e3, e4⟩ := ih (seen ++ [x]) s' (by simpa using hp) e2
      refine ⟨s2, ?_, by simpa using e4⟩
      simp only [rangeL, e1]
      exact e3
  obtain ⟨s', e1, e2⟩ := key m' [] s (by simpa using hm') h0
  exact ⟨s', e1, hend m' s' hm' (by simpa using e2)⟩
/-! ### Distances -/
/-- How far all relays are from one. -/
structure IsDist (E : Str → Str → Int → Prop) (f : Str) (M : List (Str × Far)) : Prop where
  sm : SM M
  at0 : mGet M f = some ⟨0, 0⟩
  up : ∀ v d, mGet M v = some d → v = f ∨ ∃ u du w, mGet M u = some du ∧ E u v w ∧ d = du.add w
  best : ∀ u du v w, mGet M u = some du → E u v w → ∃ dv, mGet M v = some dv ∧ dv.le (du.add w)
  bnd : ∀ v d, mGet M v = some d → 0 ≤ d.links ∧ 0 ≤ d.millis ∧ d.links ≤ 300 ∧ d.millis ≤ 1000000 * d.links
theorem IsDist.le {E : Str → Str → Int → Prop} {f : Str} {M M' : List (Str × Far)} (h : IsDist E f M) (h' : IsDist E f M') : ∀ (n : Nat) (v : Str) (d : Far), d.links.toNat = n → mGet M v = some d → ∃ d', mGet M' v = some d' ∧ d'.le d
  | n, v, d, hn, hd => by
    rcases h.up v d hd with rfl | ⟨u, du, w, h1, h2, h3⟩
    · rw [h.at0] at hd; cases hd
      exact ⟨_, h'.at0, T_route_far.le_refl _⟩
    · have hb := h.bnd u du h1
      have hlt : du.links.toNat < n := by
        rw [← hn, h3]; simp only [T_route_far.add]; omega
      obtain ⟨du', k1, k2⟩ := IsDist.le h h' du.links.toNat u du rfl h1
      obtain ⟨dv, k3, k4⟩ := h'.best u du' v w k1 h2
      exact ⟨dv, k3, by rw [h3]; exact T_route_far.le_trans k4 (T_route_far.add_le k2 w)⟩
termination_by n => n
theorem IsDist.one {E : Str → Str → Int → Prop} {f : Str} {M M' : List (Str × Far)} (h : IsDist E f M) (h' : IsDist E f M') : M = M' := by
  refine SM.ext h.sm h'.sm fun v => ?_
  cases hv : mGet M v with
  | none =>
    cases hv' : mGet M' v with
    | none => rfl
    | some d' =>
      obtain ⟨d, e, _⟩ := IsDist.le h' h _ v d' rfl hv'
      rw [hv] at e; cases e
  | some d =>
    obtain ⟨d', e, h1⟩ := IsDist.le h h' _ v d rfl hv
    obtain ⟨d2, e2, h2⟩ := IsDist.le h' h _ v d' rfl e
    rw [hv] at e2; cases e2
    rw [e, T_route_far.anti h2 h1]
/-- What is known while distances are found. -/
structure DI (E : Str → Str → Int → Prop) (f : Str) (N : List Str) (M : List (Str × Far)) (done : List (Str × Bool)) : Prop where
  sm : SM M
  sd : SM done
  tr : ∀ e ∈ done, e.2 = true
  at0 : mGet M f = some ⟨0, 0⟩
  up : ∀ v d, mGet M v = some d → v = f ∨ ∃ u du w, (mGet done u).getD false = true ∧ mGet M u = some du ∧ E u v w ∧ d = du.add w
  best : ∀ u du v w, (mGet done u).getD false = true → mGet M u = some du → E u v w → ∃ dv, mGet M v = some dv ∧ dv.le (du.add w)
  cut : ∀ u v du dv, (mGet done u).getD false = true → (mGet done v).getD false = false → mGet M u = some du → mGet M v = some dv → du.le dv
  known : ∀ u, (mGet done u).getD false = true → ∃ d, mGet M u = some d
  bnd : ∀ v d, mGet M v = some d → 0 ≤ d.links ∧ 0 ≤ d.millis ∧ d.links ≤ done.length ∧ d.millis ≤ 1000000 * d.links
  keys : ∀ v d, mGet M v = some d → v ∈ N
theorem done_key {done : List (Str × Bool)} (h : ∀ e ∈ done, e.2 = true) (u : Str) : (mGet done u).getD false = true ↔ ∃ e ∈ done, e.1 = u := by
  constructor
  · intro hu
    cases hg : mGet done u with
    | none => rw [hg] at hu; cases hu
    | some b => exact ⟨_, mGet_mem hg, rfl⟩
  · rintro ⟨e, he, rfl⟩
    cases hg : mGet done e.1 with
    | none => exact absurd rfl (mGet_none.1 hg e he)
    | some b => exact h _ (mGet_mem hg)
theorem done_new {done : List (Str × Bool)} (h : ∀ e ∈ done, e.2 = true) {u : Str} (hu : (mGet done u).getD false = false) : (mSet done u true).length = done.length + 1 ∧ (∀ e ∈ mSet done u true, e.2 = true) ∧ ∀ v, (mGet (mSet done u true) v).getD false = true ↔ (mGet done v).getD false = true ∨ v = u := by
  have hn : ∀ e ∈ done, e.1 ≠ u := fun e he e1 => by
    have := (done_key h u).2 ⟨e, he, e1⟩
    rw [hu] at this; cases this
  rw [mSet_none hn]
  have hp := mIns_perm u true done
  refine ⟨by rw [hp.length_eq]; simp, fun e he => ?_, fun v => ?_⟩
  · rcases List.mem_append.1 (hp.mem_iff.1 he) with h1 | h1
    · exact h e h1
    · simp at h1; rw [h1]
  · rw [mGet_ins hn]
    by_cases hv : v = u
    · subst hv; simp
    · have : (v == u) = false := by simpa using hv
      simp [this, hv]
theorem DI.len {E : Str → Str → Int → Prop} {f : Str} {N : List Str} {M : List (Str × Far)} {done : List (Str × Bool)} (h : DI E f N M done) : done.length ≤ N.length := by
  have h1 : (done.map (·.1)).Nodup := List.pairwise_map.2 (h.sd.of_perm_keys (.refl _))
  have h2 : ∀ x ∈ done.map (·.1), x ∈ N := fun x hx => by
    obtain ⟨e, he, rfl⟩ := List.mem_map.1 hx
    obtain ⟨d, hd⟩ := h.known e.1 ((done_key h.tr e.1).2 ⟨e, he, rfl⟩)
    exact h.keys _ d hd
  have := nodup_le h1 h2
  simpa using this
/-- One more is done. -/
theorem DI.step {E : Str → Str → Int → Prop} {f : Str} {N : List Str} {M M' : List (Str × Far)} {done : List (Str × Bool)} (h : DI E f N M done) (hE : ∀ u v w, E u v w → 0 ≤ w ∧ w ≤ 1000000 ∧ v ∈ N) {t : Str} {da : Far} (ht : (mGet done t).getD false = false) (hda : mGet M t = some da)
    (hmin : ∀ v dv, (mGet done v).getD false = false → mGet M v = some dv → da.le dv) (hs : SM M') (r1 : ∀ v d, mGet M' v = some d → mGet M v = some d ∨ ∃ w, E t v w ∧ d = da.add w ∧ ∀ d0, mGet M v = some d0 → d.lt d0)
    (r2 : ∀ v d0, mGet M v = some d0 → ∃ d, mGet M' v = some d ∧ d.le d0) (r3 : ∀ v w, E t v w → ∃ d, mGet M' v = some d ∧ d.le (da.add w)) : DI E f N M' (mSet done t true) := by
  obtain ⟨n1, n2, n3⟩ := done_new h.tr ht
  have hb := h.bnd t da hda
  have hsame : ∀ u, ((mGet done u).getD false = true ∨ u = t) → ∀ d, mGet M u = some d → mGet M' u = some d := fun u hu d hd => by
    obtain ⟨d', e1, e2⟩ := r2 u d hd
    rcases r1 u d' e1 with h1 | ⟨w, h1, h2, h3⟩
    · rw [hd] at h1; cases h1; exact e1
    · have hlt := h3 d hd
      have hle : d.le da := by
        rcases hu with hu | rfl
        · exact h.cut u t d da hu ht hd hda
        · rw [hda] at hd; cases hd; exact T_route_far.le_refl _
      rw [h2] at hlt
      exact absurd hlt (T_route_far.not_lt (T_route_far.le_trans hle (T_route_far.lt_le (T_route_far.le_add (hE _ _ _ h1).1))))
  have hold : ∀ u, ((mGet done u).getD false = true ∨ u = t) → ∀ d, mGet M' u = some d → mGet M u = some d := fun u hu d hd => by
    have : ∃ d0, mGet M u = some d0 := by
      rcases hu with hu | rfl
      · exact h.known u hu
      · exact ⟨_, hda⟩
    obtain ⟨d0, e0⟩ := this
    have := hsame u hu d0 e0
    rw [hd] at this; cases this; exact e0
  refine ⟨hs, h.sd.set _ _, n2, ?_, fun v d hd => ?_, fun u du v w hu hdu hw => ?_, fun u v du dv hu hv hdu hdv => ?_, fun u hu => ?_, fun v d hd => ?_, fun v d hd => ?_⟩
  · obtain ⟨d, e1, e2⟩ := r2 f _ h.at0
    rcases r1 f d e1 with h1 | ⟨w, h1, h2, h3⟩
    · rw [h.at0] at h1; cases h1; exact e1
    · have := h3 _ h.at0
      have h4 := (hE _ _ _ h1).1
      rw [h2] at this
      unfold T_route_far.lt T_route_far.add at this
      simp only at this
      omega
  · rcases r1 v d hd with h1 | ⟨w, h1, h2, h3⟩
    · rcases h.up v d h1 with rfl | ⟨u, du, w, g1, g2, g3, g4⟩
      · exact .inl rfl
      · exact .inr ⟨u, du, w, (n3 u).2 (.inl g1), hsame u (.inl g1) du g2, g3, g4⟩
    · exact .inr ⟨t, da, w, (n3 t).2 (.inr rfl), hsame t (.inr rfl) da hda, h1, h2⟩
  · have hu' := (n3 u).1 hu
    have hdu' := hold u hu' du hdu
    rcases hu' with hu' | rfl
    · obtain ⟨dv, e1, e2⟩ := h.best u du v w hu' hdu' hw
      obtain ⟨dv', e3, e4⟩ := r2 v dv e1
      exact ⟨dv', e3, T_route_far.le_trans e4 e2⟩
    · rw [hda] at hdu'; cases hdu'
      exact r3 v w hw
  · have hu' := (n3 u).1 hu
    have hdu' := hold u hu' du hdu
    have hv' : (mGet done v).getD false = false := by
      cases hx : (mGet done v).getD false with
      | false => rfl
      | true => rw [(n3 v).2 (.inl hx)] at hv; cases hv
    have hle : du.le da := by
      rcases hu' with hu' | rfl
      · exact h.cut u t du da hu' ht hdu' hda
      · rw [hda] at hdu'; cases hdu'; exact T_route_far.le_refl _
    rcases r1 v dv hdv with h1 | ⟨w, h1, h2, h3⟩
    · exact T_route_far.le_trans hle (hmin v dv hv' h1)
    · rw [h2]; exact T_route_far.le_trans hle (T_route_far.lt_le (T_route_far.le_add (hE _ _ _ h1).1))
  · rcases (n3 u).1 hu with hu' | rfl
    · obtain ⟨d, hd⟩ := h.known u hu'
      exact ⟨d, hsame u (.inl hu') d hd⟩
    · exact ⟨da, hsame _ (.inr rfl) da hda⟩
  · rw [n1]
    rcases r1 v d hd with h1 | ⟨w, h1, h2, h3⟩
    · have := h.bnd v d h1; omega
    · have := hE _ _ _ h1
      rw [h2]; simp only [T_route_far.add]; omega
  · rcases r1 v d hd with h1 | ⟨w, h1, h2, h3⟩
    · exact h.keys v d h1
    · exact (hE _ _ _ h1).2.2
/-- THE PROGRAM'S DISTANCES. -/
theorem dist_is (l : List T_api_Link) (hl : l.length ≤ 100) (hw : ∀ x ∈ l, 0 ≤ x.Millis ∧ x.Millis ≤ 1000000) (S : List (Str × Tl T_route_step)) (hS : ∀ u x, x ∈ stp S u ↔ adj l u x.to x.millis) (f : Str) : Ok (m_route_distances 400 S f) (IsDist (adj l) f) := by
  unfold m_route_distances
  have hE : ∀ u v w, adj l u v w → 0 ≤ w ∧ w ≤ 1000000 ∧ v ∈ f :: l.flatMap fun x => [x.A, x.v_B] := fun u v w h => by
    obtain ⟨x, hx, rfl, h3⟩ := h
    refine ⟨(hw x hx).1, (hw x hx).2, List.mem_cons_of_mem _ (List.mem_flatMap.2 ⟨x, hx, ?_⟩)⟩
    rcases h3 with h3 | h3 <;> simp [h3.2]
  have hN : (f :: l.flatMap fun x => [x.A, x.v_B]).length ≤ 201 := by
    have : (l.flatMap fun x => [x.A, x.v_B]).length = 2 * l.length := by
      clear hl hw hS hE
      induction l with
      | nil => rfl
      | cons x l ih => simp only [List.flatMap_cons, List.length_append, List.length_cons, List.length_nil, ih]; omega
    simp only [List.length_cons, this]; omega
  have hf : f ∈ (f :: l.flatMap fun x => [x.A, x.v_B]) := List.mem_cons_self ..
  generalize (f :: l.flatMap fun x => [x.A, x.v_B]) = N at hE hN hf
  refine ok_bi (P := IsDist (adj l) f) (loopD_inv (wok_range _ _ _ _) (fun s => DI (adj l) f N s.1 s.2) (fun s => N.length - s.2.length) _ (fun r r' h h' => h.one h') ?_ 400 _ (by show N.length - _ < 400; omega) ?_) fun r hr => ok_some hr
  · rintro ⟨M, done⟩ h
    simp only
    refine rangeW_by (fun seen s => (s.2 = false ∧ ∀ x ∈ seen, (mGet done x.1).getD false = true) ∨ (s.2 = true ∧ ∃ d, (s.1, d) ∈ seen ∧ (mGet done s.1).getD false = false ∧ ∀ x ∈ seen, (mGet done x.1).getD false = false → d.le x.2)) (.inl ⟨rfl, fun x hx => by cases hx⟩) ?_ ?_
    · rintro seen ⟨v, d⟩ ⟨t, b⟩ ⟨rest, hr⟩ hI
      simp only at hI ⊢
      cases hd : (mGet done v).getD false with
      | true =>
        simp only [Bool.not_true, cond_false, bi_some]
        refine ok_some ?_
        simp only
        rcases hI with ⟨rfl, h1⟩ | ⟨rfl, d0, h1, h2, h3⟩
        · refine .inl ⟨rfl, fun x hx => ?_⟩
          rcases List.mem_append.1 hx with hx | hx
          · exact h1 x hx
          · simp at hx; subst hx; exact hd
        · refine .inr ⟨rfl, d0, List.mem_append_left _ h1, h2, fun x hx hx2 => ?_⟩
          rcases List.mem_append.1 hx with hx | hx
          · exact h3 x hx hx2
          · simp at hx; subst hx; rw [hd] at hx2; cases hx2
      | false =>
        simp only [Bool.not_false, cond_true]
        rcases hI with ⟨rfl, h1⟩ | ⟨rfl, d0, h1, h2, h3⟩
        · simp only [Bool.not_false, cond_true, bi_some]
          refine ok_some (.inr ⟨rfl, d, by simp, hd, fun x hx hx2 => ?_⟩)
          rcases List.mem_append.1 hx with hx | hx
          · rw [h1 x hx] at hx2; cases hx2
          · simp at hx; subst hx; exact T_route_far.le_refl _
        · have hget : mGet M t = some d0 := h.sm.get (hr.mem_iff.1 (List.mem_append_left _ h1))
          simp only [Bool.not_true, cond_false, hget, Option.getD_some]
          rcases fless_ok d d0 with ⟨e, hl1⟩ | ⟨e, hl1⟩
          · rw [e]
            simp only [bi_some, cond_true]
            refine ok_some (.inr ⟨rfl, d, by simp, hd, fun x hx hx2 => ?_⟩)
            rcases List.mem_append.1 hx with hx | hx
            · exact T_route_far.le_trans (T_route_far.lt_le hl1) (h3 x hx hx2)
            · simp at hx; subst hx; exact T_route_far.le_refl _
          · rw [e]
            simp only [bi_some, cond_false]
            refine ok_some (.inr ⟨rfl, d0, List.mem_append_left _ h1, h2, fun x hx hx2 => ?_⟩)
            rcases List.mem_append.1 hx with hx | hx
            · exact h3 x hx hx2
            · simp at hx; subst hx; exact hl1
    · rintro seen ⟨t, b⟩ hp hI
      simp only at hI ⊢
      rcases hI with ⟨rfl, h1⟩ | ⟨rfl, da, h1, ht, h3⟩
      · simp only [Bool.not_false, cond_true, bi_some]
        refine ⟨_, rfl, ?_⟩
        have hall : ∀ v d, mGet M v = some d → (mGet done v).getD false = true := fun v d hd => h1 (v, d) (hp.mem_iff.2 (mGet_mem hd))
        refine ⟨h.sm, h.at0, fun v d hd => ?_, fun u du v w hdu hw => h.best u du v w (hall u du hdu) hdu hw, fun v d hd => ?_⟩
        · rcases h.up v d hd with e | ⟨u, du, w, _, g2, g3, g4⟩
          · exact .inl e
          · exact .inr ⟨u, du, w, g2, g3, g4⟩
        · have := h.bnd v d hd
          have := h.len
          omega
      · have hda : mGet M t = some da := h.sm.get (hp.mem_iff.1 h1)
        have hmin : ∀ v dv, (mGet done v).getD false = false → mGet M v = some dv → da.le dv := fun v dv hv hdv => h3 (v, dv) (hp.mem_iff.2 (mGet_mem hdv)) hv
        have hb := h.bnd t da hda
        have hlen := h.len
        simp only [Bool.not_true, cond_false]
        have hrel : Ok (rangeF (σ := List (Str × T_route_far)) (fun i33 x35 s34 => bi (bif !((mGet s34 x35.to).isSome) then (some true) else (bi (m_route_far_less (⟨wi ((((mGet s34 t).getD (⟨0, 0⟩ : T_route_far)).millis) + x35.millis), wi ((((mGet s34 t).getD (⟨0, 0⟩ : T_route_far)).links) + 1)⟩ : T_route_far) ((mGet s34 x35.to).getD (⟨0, 0⟩ : T_route_far))) fun y48 => some y48)) fun q44 => bif q44 then (some (mSet s34 x35.to (⟨wi ((((mGet s34 t).getD (⟨0, 0⟩ : T_route_far)).millis) + x35.millis), wi ((((mGet s34 t).getD (⟨0, 0⟩ : T_route_far)).links) + 1)⟩ : T_route_far))) else (some s34)) 0 (stp S t) M) fun M' => SM M' ∧ (∀ v d, mGet M' v = some d → mGet M v = some d ∨ ∃ w, adj l t v w ∧ d = da.add w ∧ ∀ d0, mGet M v = some d0 → d.lt d0) ∧ (∀ v d0, mGet M v = some d0 → ∃ d, mGet M' v = some d ∧ d.le d0) ∧ (∀ v w, adj l t v w → ∃ d, mGet M' v = some d ∧ d.le (da.add w)) := by
          refine ok_mono (ok_rangeF (fun i M' => SM M' ∧ (∀ v d, mGet M' v = some d → mGet M v = some d ∨ ∃ w, adj l t v w ∧ d = da.add w ∧ ∀ d0, mGet M v = some d0 → d.lt d0) ∧ (∀ v d0, mGet M v = some d0 → ∃ d, mGet M' v = some d ∧ d.le d0) ∧ (∀ j x, j < i → (stp S t)[j]? = some x → ∃ d, mGet M' x.to = some d ∧ d.le (da.add x.millis))) ⟨h.sm, fun v d hd => .inl hd, fun v d0 hd => ⟨d0, hd, T_route_far.le_refl _⟩, fun j x hj => absurd hj (Nat.not_lt_zero _)⟩ ?_) ?_
          · rintro i x M' hx ⟨q1, q2, q3, q4⟩
            have hxa : adj l t x.to x.millis := (hS t x).1 (List.mem_of_getElem? hx)
            have hxw := hE _ _ _ hxa
            have hat : mGet M' t = some da := by
              obtain ⟨d, e1, e2⟩ := q3 t da hda
              rcases q2 t d e1 with g | ⟨w, g1, g2, g3⟩
              · rw [hda] at g; cases g; exact e1
              · have := g3 da hda
                rw [g2] at this
                exact absurd this (T_route_far.not_lt (T_route_far.lt_le (T_route_far.le_add (hE _ _ _ g1).1)))
            have hnd : (⟨wi (da.millis + x.millis), wi (da.links + 1)⟩ : Far) = da.add x.millis := by
              unfold T_route_far.add
              rw [wi_id (by omega) (by omega), wi_id (by omega) (by omega)]
            simp only [hat, Option.getD_some, hnd]
            have hput : (∀ d0, mGet M' x.to = some d0 → (da.add x.millis).lt d0) → SM (mSet M' x.to (da.add x.millis)) ∧ (∀ v d, mGet (mSet M' x.to (da.add x.millis)) v = some d → mGet M v = some d ∨ ∃ w, adj l t v w ∧ d = da.add w ∧ ∀ d0, mGet M v = some d0 → d.lt d0) ∧ (∀ v d0, mGet M v = some d0 → ∃ d, mGet (mSet M' x.to (da.add x.millis)) v = some d ∧ d.le d0) ∧ (∀ j y, j < i + 1 → (stp S t)[j]? = some y → ∃ d, mGet (mSet M' x.to (da.add x.millis)) y.to = some d ∧ d.le (da.add y.millis)) := fun hlt => by
              refine ⟨q1.set _ _, fun v d hd => ?_, fun v d0 hd => ?_, fun j y hj hy => ?_⟩
              · rw [mGet_set] at hd
                by_cases hv : v = x.to
                · subst hv
                  simp at hd
                  subst hd
                  refine .inr ⟨x.millis, hxa, rfl, fun d0 hd0 => ?_⟩
                  obtain ⟨d, e1, e2⟩ := q3 _ d0 hd0
                  have := hlt d e1
                  unfold T_route_far.lt T_route_far.le at *
                  omega
                · have : (v == x.to) = false := by simpa using hv
                  rw [this] at hd
                  exact q2 v d (by simpa using hd)
              · rw [mGet_set]
                obtain ⟨d, e1, e2⟩ := q3 v d0 hd
                by_cases hv : v = x.to
                · subst hv
                  exact ⟨da.add x.millis, by simp, T_route_far.le_trans (T_route_far.lt_le (hlt d e1)) e2⟩
                · have : (v == x.to) = false := by simpa using hv
                  exact ⟨d, by simp [this, e1], e2⟩
              · rw [mGet_set]
                by_cases hji : j = i
                · subst hji
                  rw [hx] at hy; cases hy
                  exact ⟨da.add x.millis, by simp, T_route_far.le_refl _⟩
                · obtain ⟨d, e1, e2⟩ := q4 j y (by omega) hy
                  by_cases hv : y.to = x.to
                  · refine ⟨da.add x.millis, by simp [hv], ?_⟩
                    exact T_route_far.le_trans (T_route_far.lt_le (hlt d (by rw [← hv]; exact e1))) e2
                  · have : (y.to == x.to) = false := by simpa using hv
                    exact ⟨d, by simp [this, e1], e2⟩
            cases hg : mGet M' x.to with
            | none =>
              simp only [Option.isSome_none, Bool.not_false, cond_true, bi_some]
              exact ok_some (hput fun d0 hd0 => by rw [hg] at hd0; cases hd0)
            | some d1 =>
              simp only [Option.isSome_some, Bool.not_true, cond_false, Option.getD_some]
              rcases fless_ok (da.add x.millis) d1 with ⟨e, hl1⟩ | ⟨e, hl1⟩
              · rw [e]
                simp only [bi_some, cond_true]
                exact ok_some (hput fun d0 hd0 => by rw [hg] at hd0; cases hd0; exact hl1)
              · rw [e]
                simp only [bi_some, cond_false]
                refine ok_some ⟨q1, q2, q3, fun j y hj hy => ?_⟩
                by_cases hji : j = i
                · subst hji
                  rw [hx] at hy; cases hy
                  exact ⟨d1, hg, hl1⟩
                · exact q4 j y (by omega) hy
          · rintro M' ⟨q1, q2, q3, q4⟩
            refine ⟨q1, q2, q3, fun v w hvw => ?_⟩
            have hm : (⟨v, w⟩ : T_route_step) ∈ stp S t := (hS t ⟨v, w⟩).2 hvw
            obtain ⟨j, hj⟩ := List.getElem?_of_mem hm
            exact q4 j ⟨v, w⟩ (List.getElem?_eq_some_iff.1 hj).1 hj
        obtain ⟨M', e, r0, r1, r2, r3⟩ := hrel
        have e' := e
        unfold stp at e'
        rw [e']
        refine ⟨_, rfl, h.step hE ht hda hmin r0 r1 r2 r3, ?_⟩
        simp only
        have hst := h.step hE ht hda hmin r0 r1 r2 r3
        have h5 := hst.len
        have h6 : (mSet done t true).length = done.length + 1 := (done_new h.tr ht).1
        simp only at h5
        show N.length - (mSet done t true).length < N.length - done.length
        omega
  · have hm0 : mSet ([] : List (Str × T_route_far)) f ⟨0, 0⟩ = [(f, ⟨0, 0⟩)] := rfl
    rw [hm0]
    have hg : ∀ v d, mGet [(f, (⟨0, 0⟩ : T_route_far))] v = some d → v = f ∧ d = ⟨0, 0⟩ := fun v d hd => by
      rw [mGet_cons] at hd
      by_cases hv : v = f
      · subst hv; simp at hd; exact ⟨rfl, hd.symm⟩
      · have : (v == f) = false := by simpa using hv
        rw [this] at hd; simp [mGet_nil] at hd
    refine ⟨List.pairwise_singleton _ _, SM.nil, fun e he => (by cases he), by simp [mGet_cons], fun v d hd => .inl (hg v d hd).1, fun u du v w hu => (by cases hu), fun u v du dv hu => (by cases hu), fun u hu => (by cases hu), fun v d hd => ?_, fun v d hd => ?_⟩
    · rw [(hg v d hd).2]; simp
    · rw [(hg v d hd).1]; exact hf
end Go.Gk
