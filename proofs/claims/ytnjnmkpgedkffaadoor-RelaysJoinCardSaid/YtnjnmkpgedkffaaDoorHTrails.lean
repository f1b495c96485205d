/-
  The plain law: the least trail, by the reference and by the program.
-/
import Derived.Test.YtnjnmkpgedkffaaDoorHTrail
set_option linter.unusedVariables false
set_option linter.unusedSimpArgs false
set_option linter.unusedSectionVars false
set_option maxRecDepth 100000
namespace Go.Gk
theorem ok_loopN {σ ρ : Type} {f : σ → Option (LS σ ρ)} (I : Nat → σ → Prop) (Q : ρ → Prop) (h0 : ∀ s, ¬ I 0 s) (step : ∀ n s, I (n + 1) s → Ok (f s) fun r => match r with | .go s' => I n s' | .out q => Q q) : ∀ (k n : Nat) (s : σ), n ≤ k → I n s → Ok (loopM f k s) Q
  | _, 0, s, _, h => absurd h (h0 s)
  | 0, n + 1, s, hk, _ => absurd hk (by omega)
  | k + 1, n + 1, s, hk, h => by
    obtain ⟨r, h1, h2⟩ := step n s h
    cases r with
    | go s' =>
      obtain ⟨q, e, hq⟩ := ok_loopN I Q h0 step k n s' (by omega) h2
      exact ⟨q, by simp only [loopM, h1]; exact e, hq⟩
    | out q => exact ⟨q, by simp only [loopM, h1], h2⟩
def Full (E : Str → Str → Int → Prop) (a : Str) (B : TMap) : Prop := ∀ v p m, Wk E a v p m → p.Nodup → ∃ t, mGet B v = some t ∧ t.le ⟨p, m⟩
/-- A link is closed: what was known at its one end is told at its other. -/
def Cl (B0 B : TMap) (u v : Str) (w : Int) : Prop := ∀ t, mGet B0 u = some t → ∃ t', mGet B v = some t' ∧ t'.le (t.snoc v w)
theorem Cl.imp {B0 B B' : TMap} {u v : Str} {w : Int} (h : Cl B0 B u v w) (hi : Imp B B') : Cl B0 B' u v w := fun t ht => by
  obtain ⟨t', h1, h2⟩ := h t ht
  obtain ⟨t2, h3, h4⟩ := hi v t' h1
  exact ⟨t2, h3, T_laneref1_trail.le_tr h4 h2⟩
structure PI (E : Str → Str → Int → Prop) (a : Str) (B0 : TMap) (P : Str → Str → Int → Prop) (s : TMap × Bool) : Prop where
  tr : TrI E a s.1
  imp : Imp B0 s.1
  cl : ∀ u v w, P u v w → Cl B0 s.1 u v w
  no : s.2 = false → s.1 = B0
  full : Full E a B0 → s = (B0, false)
theorem pass_ok (l : List T_api_Link) {N : List Str} (hE : ∀ u v w, adj l u v w → 0 ≤ w ∧ w ≤ 1000000 ∧ v ∈ N) (hN : N.length ≤ 300) {a : Str} {B0 : TMap} (hI : TrI (adj l) a B0) :
    Ok (rangeF (σ := (List (Str × T_laneref1_trail)) × Bool) (fun i12 x14 s13 => bi (rangeF (σ := (List (Str × T_laneref1_trail)) × Bool) (fun i23 x25 s24 => bi (bif !((mGet s24.1 x25.1).isSome) then (some true) else (bi (m_slices_Contains_string_string (((mGet s24.1 x25.1).getD (⟨[], 0⟩ : T_laneref1_trail)).relays) x25.2) fun y38 => some y38)) fun q34 => bif q34 then (some (s24.1, s24.2)) else (bi (m_slices_Clone_string_string (((mGet s24.1 x25.1).getD (⟨[], 0⟩ : T_laneref1_trail)).relays)) fun y42 => bi (apd y42 [x25.2]) fun y44 => bi (bif !((mGet s24.1 x25.2).isSome) then (some true) else (bi (m_laneref1_lessTrail (⟨y44, wi ((((mGet s24.1 x25.1).getD (⟨[], 0⟩ : T_laneref1_trail)).millis) + x14.Millis)⟩ : T_laneref1_trail) ((mGet s24.1 x25.2).getD (⟨[], 0⟩ : T_laneref1_trail))) fun y50 => some y50)) fun q46 => bif q46 then (some ((mSet s24.1 x25.2 (⟨y44, wi ((((mGet s24.1 x25.1).getD (⟨[], 0⟩ : T_laneref1_trail)).millis) + x14.Millis)⟩ : T_laneref1_trail)), true)) else (some (s24.1, s24.2)))) 0 [(x14.A, x14.v_B), (x14.v_B, x14.A)] (s13.1, s13.2)) fun q26 => some (q26.1, q26.2)) 0 l (B0, false))
      (PI (adj l) a B0 (adj l)) := by
  refine ok_mono (ok_rangeF (fun i s => PI (adj l) a B0 (adj (l.take i)) s) ⟨hI, Imp.refl B0, fun u v w h => by simp [adj] at h, fun _ => rfl, fun _ => rfl⟩ ?_) fun r hr => by rw [List.take_length] at hr; exact hr
  rintro i x ⟨B, ch⟩ hx hP
  have hxl := List.mem_of_getElem? hx
  refine ok_bi (ok_rangeF (fun j s => PI (adj l) a B0 (fun u v w => adj (l.take i) u v w ∨ (w = x.Millis ∧ (u, v) ∈ [(x.A, x.v_B), (x.v_B, x.A)].take j)) s) ⟨hP.tr, hP.imp, fun u v w h => by simp at h; exact hP.cl u v w h, hP.no, hP.full⟩ ?_) ?_
  · rintro j ⟨u, v⟩ ⟨B, ch⟩ hj hP
    have hm := List.mem_of_getElem? hj
    have huv : adj l u v x.Millis := by
      simp only [List.mem_cons, Prod.mk.injEq, List.not_mem_nil, or_false] at hm
      rcases hm with ⟨rfl, rfl⟩ | ⟨rfl, rfl⟩
      · exact ⟨x, hxl, rfl, .inl ⟨rfl, rfl⟩⟩
      · exact ⟨x, hxl, rfl, .inr ⟨rfl, rfl⟩⟩
    refine ok_mono (edge_ok hE hN hP.tr ch huv) ?_
    rintro ⟨B', ch'⟩ ⟨p1, p2, p3, p4, p5⟩
    simp only at p1 p2 p3 p4 p5
    refine ⟨p1, hP.imp.trans p2, fun u' v' w' h => ?_, fun h => ?_, fun h => ?_⟩
    · rw [List.take_add_one, hj] at h
      simp only [Option.toList_some, List.mem_append, List.mem_singleton] at h
      have hold : (adj (l.take i) u' v' w' ∨ (w' = x.Millis ∧ (u', v') ∈ [(x.A, x.v_B), (x.v_B, x.A)].take j)) → Cl B0 B' u' v' w' := fun h => (hP.cl u' v' w' h).imp p2
      rcases h with h | ⟨rfl, h | h⟩
      · exact hold (.inl h)
      · exact hold (.inr ⟨rfl, h⟩)
      · simp only [Prod.mk.injEq] at h
        obtain ⟨rfl, rfl⟩ := h
        intro t ht
        obtain ⟨t1, h1, h2⟩ := hP.imp u' t ht
        obtain ⟨t2, h3, h4⟩ := p3 t1 h1
        exact ⟨t2, h3, T_laneref1_trail.le_tr h4 (T_laneref1_trail.snoc_le h2 _ _)⟩
    · obtain ⟨e1, e2⟩ := p4 h
      have := hP.no e2
      simp only at this ⊢
      rw [e1, this]
    · have := hP.full h
      simp only [Prod.mk.injEq] at this
      obtain ⟨e1, e2⟩ := this
      have := p5 (by rw [e1]; exact h)
      rw [this, e1, e2]
  · rintro ⟨B', ch'⟩ hP
    simp only [List.length_cons, List.length_nil] at hP
    refine ok_some ⟨hP.tr, hP.imp, fun u v w h => ?_, hP.no, hP.full⟩
    refine hP.cl u v w ?_
    obtain ⟨y, hy, h1, h2⟩ := h
    rw [List.take_add_one, hx] at hy
    simp only [Option.toList_some, List.mem_append, List.mem_singleton] at hy
    rcases hy with hy | rfl
    · exact .inl ⟨y, hy, h1, h2⟩
    · refine .inr ⟨h1.symm, ?_⟩
      rcases h2 with ⟨rfl, rfl⟩ | ⟨rfl, rfl⟩ <;> simp
theorem PI.all {l : List T_api_Link} {a : Str} {B0 : TMap} {s : TMap × Bool} (h : PI (adj l) a B0 (adj l) s) {i : Nat} (hA : All (adj l) a i B0) : All (adj l) a (i + 1) s.1 := by
  intro v p m hw hl
  rcases hw.inv with ⟨rfl, rfl, rfl⟩ | ⟨u, q, m', w, h1, h2, rfl, rfl⟩
  · exact ⟨_, h.tr.t0, .inr rfl⟩
  · obtain ⟨t, e1, e2⟩ := hA u q m' h1 (by simp at hl; omega)
    obtain ⟨t', e3, e4⟩ := h.cl u v w h2 t e1
    exact ⟨t', e3, T_laneref1_trail.le_tr e4 (T_laneref1_trail.snoc_le (b := ⟨q, m'⟩) e2 v w)⟩
/-- THE REFERENCE'S TRAIL. -/
theorem trail_ok (l : List T_api_Link) (hl : l.length ≤ 100) (hw : ∀ x ∈ l, 0 ≤ x.Millis ∧ x.Millis ≤ 1000000) (a b : Str) : Ok (m_laneref1_TrailOf 400 l a b) fun q =>
    (q.2.2 = true → Wk (adj l) a b q.1 q.2.1 ∧ ∀ p m, Wk (adj l) a b p m → (⟨q.1, q.2.1⟩ : Trail).le ⟨p, m⟩) ∧ (q.2.2 = false → (∀ p m, ¬ Wk (adj l) a b p m) ∧ q.1 = [] ∧ q.2.1 = 0) := by
  have hE : ∀ u v w, adj l u v w → 0 ≤ w ∧ w ≤ 1000000 ∧ v ∈ l.flatMap fun x => [x.A, x.v_B] := fun u v w h => by
    obtain ⟨x, hx, rfl, h3⟩ := h
    refine ⟨(hw x hx).1, (hw x hx).2, List.mem_flatMap.2 ⟨x, hx, ?_⟩⟩
    rcases h3 with h3 | h3 <;> simp [h3.2]
  have hN : (l.flatMap fun x => [x.A, x.v_B]).length ≤ 200 := by
    have : (l.flatMap fun x => [x.A, x.v_B]).length = 2 * l.length := by
      clear hl hw hE
      induction l with
      | nil => rfl
      | cons x l ih => simp only [List.flatMap_cons, List.length_append, List.length_cons, List.length_nil, ih]; omega
    omega
  generalize (l.flatMap fun x => [x.A, x.v_B]) = N at hE hN
  unfold m_laneref1_TrailOf
  refine ok_bi (P := fun B => TrI (adj l) a B ∧ ∀ i, All (adj l) a i B) (ok_loopN (fun n s => TrI (adj l) a s.1 ∧ ((s.2 = true ∧ ∃ i, All (adj l) a i s.1 ∧ i ≤ 201 ∧ n + i = 203) ∨ (s.2 = false ∧ (∀ i, All (adj l) a i s.1) ∧ 1 ≤ n))) _ ?_ ?_ 400 203 _ (by decide) ?_) ?_
  · rintro s ⟨_, ⟨_, i, _, h1, h2⟩ | ⟨_, _, h⟩⟩ <;> omega
  · rintro n ⟨B, ch⟩ ⟨hI, hc⟩
    simp only at hI hc ⊢
    rcases hc with ⟨rfl, i, hA, hi, hn⟩ | ⟨rfl, hA, _⟩
    · simp only [cond_true]
      refine ok_bi (pass_ok l hE (by omega) hI) ?_
      rintro ⟨B', ch'⟩ hP
      refine ok_some ⟨hP.tr, ?_⟩
      have hA' := hP.all hA
      cases ch' with
      | false =>
        have hB : B' = B := hP.no rfl
        subst hB
        refine .inr ⟨rfl, ?_, by omega⟩
        intro j
        have key : ∀ j, All (adj l) a (i + j) B' := by
          intro j
          induction j with
          | zero => exact hA
          | succ j ih => exact hP.all ih
        intro v p m h1 h2
        exact key j v p m h1 (by omega)
      | true =>
        have hlt : i < 201 := Nat.lt_of_not_le fun hge => by
          have hf : Full (adj l) a B := fun v p m h1 h2 => by
            refine hA v p m h1 ?_
            obtain ⟨_, _, _, h4⟩ := h1.bnd hE
            have : p.length ≤ (a :: N).length := nodup_le h2 fun y hy => by
              rcases h4 y hy with rfl | h
              · exact List.mem_cons_self ..
              · exact List.mem_cons_of_mem _ h
            simp only [List.length_cons] at this
            omega
          have := hP.full hf
          simp at this
        exact .inl ⟨rfl, i + 1, hA', by omega, by omega⟩
    · simp only [cond_false]
      exact ok_some ⟨hI, hA⟩
  · have e0 : mSet ([] : TMap) a ⟨[a], 0⟩ = [(a, ⟨[a], 0⟩)] := rfl
    rw [e0]
    have hg : ∀ v t, mGet [(a, (⟨[a], 0⟩ : Trail))] v = some t → v = a ∧ t = ⟨[a], 0⟩ := fun v t ht => by
      rw [mGet_cons] at ht
      by_cases hv : v = a
      · subst hv; simp at ht; exact ⟨rfl, ht.symm⟩
      · have : (v == a) = false := by simpa using hv
        rw [this] at ht; simp [mGet_nil] at ht
    refine ⟨⟨by simp [mGet_cons], fun v t ht => ?_⟩, .inl ⟨rfl, 0, fun v p m h1 h2 => ?_, by decide, rfl⟩⟩
    · obtain ⟨rfl, rfl⟩ := hg v t ht
      exact .base
    · rcases h1.inv with ⟨rfl, rfl, rfl⟩ | ⟨u, q, m', w, h3, h4, rfl, rfl⟩
      · exact ⟨⟨[v], 0⟩, by simp [mGet_cons], .inr rfl⟩
      · have := (h3.bnd hE).2.2.1
        simp only [List.length_append, List.length_cons, List.length_nil] at h2
        omega
  · rintro B ⟨hI, hA⟩
    cases hb : mGet B b with
    | none =>
      refine ok_some ⟨fun h => by simp at h, fun _ => ⟨fun p m h => ?_, rfl, rfl⟩⟩
      obtain ⟨t, e, _⟩ := hA p.length b p m h (by omega)
      rw [hb] at e; cases e
    | some t =>
      refine ok_some ⟨fun _ => ⟨(hI.gd b t hb).wk.1, fun p m h => ?_⟩, fun h => by simp at h⟩
      obtain ⟨t', e, h1⟩ := hA p.length b p m h (by omega)
      rw [hb] at e; cases e
      exact h1
/-! ### The program's way -/
/-- The next one on a way. -/
def IsNext (E : Str → Str → Int → Prop) (M : List (Str × Far)) (v u : Str) : Prop := ∃ d w, mGet M u = some d ∧ E v u w ∧ mGet M v = some (d.add w)
inductive Gr (E : Str → Str → Int → Prop) (M : List (Str × Far)) (b : Str) : Str → List Str → Prop
  | stop : Gr E M b b [b]
  | next {v u : Str} {p : List Str} (hv : v ≠ b) (h : IsNext E M v u) (hm : ∀ u', IsNext E M v u' → u' = u ∨ Op.bytesLess u u' = true) (k : Gr E M b u p) : Gr E M b v (v :: p)
theorem dist_le {E : Str → Str → Int → Prop} (hs : ∀ u v w, E u v w → E v u w) {b : Str} {M : List (Str × Far)} (hM : IsDist E b M) {v : Str} {p : List Str} {m : Int} (h : Wk E v b p m) : ∃ d, mGet M v = some d ∧ d.le ⟨m, (p.length : Int) - 1⟩ := by
  have : ∀ {v x : Str} {p : List Str} {m : Int}, Wk E v x p m → x = b → ∃ d, mGet M v = some d ∧ d.le ⟨m, (p.length : Int) - 1⟩ := by
    intro v x p m h
    induction h with
    | one a => rintro rfl; exact ⟨_, hM.at0, .inr ⟨rfl, by simp⟩⟩
    | @cons u v b' p m w h1 h2 ih =>
      intro e
      obtain ⟨d, e1, e2⟩ := ih e
      obtain ⟨du, e3, e4⟩ := hM.best v d u w e1 (hs _ _ _ h1)
      refine ⟨du, e3, T_route_far.le_trans e4 ?_⟩
      have := T_route_far.add_le e2 w
      unfold T_route_far.add at this
      simp only [List.length_cons]
      unfold T_route_far.le T_route_far.add at *
      simp only at this ⊢
      omega
  exact this h rfl
theorem Gr.wk {E : Str → Str → Int → Prop} {b : Str} {M : List (Str × Far)} (hM : IsDist E b M) {v : Str} {p : List Str} (h : Gr E M b v p) : ∃ m, Wk E v b p m ∧ mGet M v = some ⟨m, (p.length : Int) - 1⟩ := by
  induction h with
  | stop => exact ⟨0, .one b, by rw [hM.at0]; simp⟩
  | @next v u p hv h hm k ih =>
    obtain ⟨m, h1, h2⟩ := ih
    obtain ⟨d, w, e1, e2, e3⟩ := h
    rw [h2] at e1; cases e1
    refine ⟨w + m, .cons e2 h1, ?_⟩
    rw [e3]
    congr 1
    unfold T_route_far.add
    simp only [List.length_cons, T_route_far.mk.injEq]
    omega
theorem Gr.least {E : Str → Str → Int → Prop} (hs : ∀ u v w, E u v w → E v u w) (hw : ∀ u v w, E u v w → 0 ≤ w) {b : Str} {M : List (Str × Far)} (hM : IsDist E b M) {v : Str} {p : List Str} (h : Gr E M b v p) : ∀ m, mGet M v = some ⟨m, (p.length : Int) - 1⟩ → ∀ p' m', Wk E v b p' m' → (⟨p, m⟩ : Trail).le ⟨p', m'⟩ := by
  induction h with
  | stop =>
    intro m hm p' m' h'
    rw [hM.at0] at hm
    simp only [Option.some.injEq, T_route_far.mk.injEq] at hm
    cases h' with
    | one => exact .inr (by rw [← hm.1])
    | @cons _ v _ p m2 w h1 h2 =>
      obtain ⟨d, _, hd⟩ := dist_le hs hM h2
      obtain ⟨q, rfl⟩ := h2.head
      have h3 := hw _ _ _ h1
      have hm2 : 0 ≤ m2 := by
        have hpos : ∀ {x y : Str} {p : List Str} {m : Int}, Wk E x y p m → 0 ≤ m := by
          intro x y p m h
          induction h with
          | one => exact Int.le_refl _
          | cons h1 _ ih => have := hw _ _ _ h1; omega
        exact hpos h2
      refine .inl ?_
      unfold T_laneref1_trail.less
      simp only [List.length_cons, List.length_nil]
      omega
  | @next v u p hv h hmin k ih =>
    intro m hm p' m' h'
    obtain ⟨mu, k1, k2⟩ := k.wk hM
    cases h' with
    | one => exact absurd rfl hv
    | @cons _ u' _ p'' m'' w' h1 h2 =>
      obtain ⟨du', e1, e2⟩ := dist_le hs hM h2
      obtain ⟨dv, e3, e4⟩ := hM.best u' du' v w' e1 (hs _ _ _ h1)
      rw [hm] at e3
      cases e3
      simp only [List.length_cons] at e4
      have hcost : (⟨m, ((p.length + 1 : Nat) : Int) - 1⟩ : Far).le ⟨w' + m'', (p''.length : Int)⟩ := by
        refine T_route_far.le_trans e4 ?_
        unfold T_route_far.le T_route_far.add at *
        simp only at e2 ⊢
        omega
      by_cases heq : m = w' + m'' ∧ p.length = p''.length
      · obtain ⟨q1, q2⟩ := heq
        -- each step is tight
        have hdu : du' = ⟨m'', (p''.length : Int) - 1⟩ := by
          refine T_route_far.anti e2 ?_
          unfold T_route_far.le T_route_far.add at *
          simp only at e4 ⊢
          omega
        have hnx : IsNext E M v u' := by
          refine ⟨du', w', e1, h1, ?_⟩
          rw [hm, hdu]
          unfold T_route_far.add
          simp only [List.length_cons, Option.some.injEq, T_route_far.mk.injEq]
          omega
        obtain ⟨q, hq⟩ := k1.head
        obtain ⟨q', hq'⟩ := h2.head
        rcases hmin u' hnx with rfl | hlt
        · rw [k2] at e1
          have hmu : mu = m'' := by
            rw [hdu] at e1
            simp only [Option.some.injEq, T_route_far.mk.injEq] at e1
            exact e1.1
          have := ih mu k2 p'' m'' h2
          subst hmu
          rcases this with h3 | h3
          · refine .inl ?_
            unfold T_laneref1_trail.less at h3 ⊢
            simp only [List.length_cons, lexL, bl_irr, beq_self_eq_true, Bool.true_and, Bool.false_or] at h3 ⊢
            rcases h3 with h3 | ⟨_, h3 | ⟨h4, h5⟩⟩
            · omega
            · omega
            · exact .inr ⟨q1, .inr ⟨by omega, h5⟩⟩
          · simp only [T_laneref1_trail.mk.injEq] at h3
            exact .inr (by rw [h3.1, q1])
        · refine .inl ?_
          unfold T_laneref1_trail.less
          rw [hq, hq']
          rw [hq, hq'] at q2
          simp only [List.length_cons, lexL, bl_irr, beq_self_eq_true, Bool.true_and, Bool.false_or, hlt, Bool.true_or] at q2 ⊢
          exact .inr ⟨q1, .inr ⟨by omega, trivial⟩⟩
      · refine .inl ?_
        unfold T_laneref1_trail.less
        unfold T_route_far.le at hcost
        simp only [List.length_cons] at hcost ⊢
        omega
/-- THE PROGRAM'S WAY. -/
theorem through_ok (l : List T_api_Link) (hl : l.length ≤ 100) (hw : ∀ x ∈ l, 0 ≤ x.Millis ∧ x.Millis ≤ 1000000) (hk : ∀ x ∈ l, x.A ≠ [] ∧ x.v_B ≠ []) (a b : Str) (al : BagT) : Ok (m_route_through 400 l a b al) fun q =>
    (q.2.2.1 = 0 ∧ Wk (adj l) a b q.1 q.2.1 ∧ ∀ p m, Wk (adj l) a b p m → (⟨q.1, q.2.1⟩ : Trail).le ⟨p, m⟩) ∨ (q.2.2.1 = 8 ∧ (∀ p m, ¬ Wk (adj l) a b p m) ∧ q.1 = [] ∧ q.2.1 = 0) := by
  have hE0 : ∀ u v w, adj l u v w → 0 ≤ w ∧ w ≤ 1000000 ∧ v ≠ [] := fun u v w h => by
    obtain ⟨x, hx, rfl, h3⟩ := h
    refine ⟨(hw x hx).1, (hw x hx).2, ?_⟩
    rcases h3 with h3 | h3
    · rw [← h3.2]; exact (hk x hx).2
    · rw [← h3.2]; exact (hk x hx).1
  have hs : ∀ u v w, adj l u v w → adj l v u w := fun u v w h => h.symm
  unfold m_route_through
  refine ok_bi (steps_ok l (by omega) al) ?_
  rintro ⟨S, al'⟩ hS
  simp only at hS ⊢
  refine ok_bi (dist_is l hl hw S hS b) fun M hM => ?_
  cases ha : mGet M a with
  | none =>
    simp only [Option.isSome_none, Bool.not_false, cond_true]
    refine ok_some (.inr ⟨rfl, fun p m h => ?_, rfl, rfl⟩)
    obtain ⟨d, e, _⟩ := dist_le hs hM h
    rw [ha] at e; cases e
  | some da =>
    simp only [Option.isSome_some, Bool.not_true, cond_false, Option.getD_some]
    have hda := hM.bnd a da ha
    refine ok_bi (P := fun p => Gr (adj l) M b a p) ?_ ?_
    · refine ok_loopM (fun s => ∃ pre d, s.1 = pre ++ [s.2] ∧ mGet M s.2 = some d ∧ (s.1.length : Int) + d.links ≤ 1001 ∧ ∀ p, Gr (adj l) M b s.2 p → Gr (adj l) M b a (pre ++ p)) (fun s => ((mGet M s.2).getD ⟨0, 0⟩).links.toNat) _ ⟨[], da, rfl, ha, by simp; omega, fun p hp => hp⟩ (by simp only [ha, Option.getD_some]; omega) ?_
      rintro ⟨out, v⟩ ⟨pre, d, h1, h2, h3, h4⟩
      simp only at h1 h2 h3 h4 ⊢
      refine ok_bif (fun hv => ?_) (fun hv => ?_)
      · have hvb : v ≠ b := by simpa using hv
        have hd := hM.bnd v d h2
        simp only [h2, Option.getD_some]
        -- the least of the next ones
        have hcand : ∀ x : T_route_step, x ∈ stp S v → (((((mGet M x.to).isSome) && ((wi ((((mGet M x.to).getD (⟨0, 0⟩ : T_route_far)).millis) + x.millis) : Int) == d.millis)) && ((wi ((((mGet M x.to).getD (⟨0, 0⟩ : T_route_far)).links) + 1) : Int) == d.links)) = true → IsNext (adj l) M v x.to) ∧ (((((mGet M x.to).isSome) && ((wi ((((mGet M x.to).getD (⟨0, 0⟩ : T_route_far)).millis) + x.millis) : Int) == d.millis)) && ((wi ((((mGet M x.to).getD (⟨0, 0⟩ : T_route_far)).links) + 1) : Int) == d.links)) = false → ∀ du, mGet M x.to = some du → d ≠ du.add x.millis) := fun x hx => by
          have hxa := (hS v x).1 hx
          have hxw := hE0 _ _ _ hxa
          cases hg : mGet M x.to with
          | none => exact ⟨fun h => by simp at h, fun _ du h => by cases h⟩
          | some du =>
            have hb := hM.bnd _ du hg
            simp only [Option.isSome_some, Option.getD_some, Bool.true_and]
            rw [wi_id (by omega) (by omega), wi_id (by omega) (by omega)]
            constructor
            · intro h
              simp only [Bool.and_eq_true, beq_iff_eq] at h
              refine ⟨du, x.millis, hg, hxa, ?_⟩
              rw [h2]
              unfold T_route_far.add
              rw [h.1, h.2]
            · intro h du' e1 e2
              cases e1
              subst e2
              simp [T_route_far.add] at h
        have hall : ∀ u, IsNext (adj l) M v u → ∃ x ∈ stp S v, x.to = u ∧ ∃ du, mGet M x.to = some du ∧ d = du.add x.millis := fun u hu => by
          obtain ⟨du, w, e1, e2, e3⟩ := hu
          rw [h2] at e3
          exact ⟨⟨u, w⟩, (hS v ⟨u, w⟩).2 e2, rfl, du, e1, Option.some.inj e3⟩
        refine ok_bi (P := fun u => IsNext (adj l) M v u ∧ ∀ u', IsNext (adj l) M v u' → u' = u ∨ Op.bytesLess u u' = true) ?_ ?_
        · refine ok_mono (ok_rangeF (l := stp S v) (fun i u => (u = [] ∧ ∀ x ∈ (stp S v).take i, ∀ du, mGet M x.to = some du → d ≠ du.add x.millis) ∨ (u ≠ [] ∧ IsNext (adj l) M v u ∧ ∀ x ∈ (stp S v).take i, ∀ du, mGet M x.to = some du → d = du.add x.millis → x.to = u ∨ Op.bytesLess u x.to = true)) (.inl ⟨rfl, fun x hx => by simp at hx⟩) ?_) ?_
          · rintro i x u hx hI
            have hxm := List.mem_of_getElem? hx
            obtain ⟨c1, c2⟩ := hcand x hxm
            have htk : ∀ y, y ∈ (stp S v).take (i + 1) ↔ y ∈ (stp S v).take i ∨ y = x := fun y => by rw [List.take_add_one, hx]; simp
            have hxne : x.to ≠ [] := (hE0 _ _ _ ((hS v x).1 hxm)).2.2
            generalize ((((mGet M x.to).isSome) && ((wi ((((mGet M x.to).getD (⟨0, 0⟩ : T_route_far)).millis) + x.millis) : Int) == d.millis)) && ((wi ((((mGet M x.to).getD (⟨0, 0⟩ : T_route_far)).links) + 1) : Int) == d.links)) = c at c1 c2 ⊢
            cases c with
            | false =>
              simp only [Bool.false_and, cond_false]
              refine ok_some ?_
              rcases hI with ⟨rfl, h5⟩ | ⟨h5, h6, h7⟩
              · exact .inl ⟨rfl, fun y hy => by
                  rcases (htk y).1 hy with hy | rfl
                  · exact h5 y hy
                  · exact c2 rfl⟩
              · exact .inr ⟨h5, h6, fun y hy du e1 e2 => by
                  rcases (htk y).1 hy with hy | rfl
                  · exact h7 y hy du e1 e2
                  · exact absurd e2 (c2 rfl du e1)⟩
            | true =>
              simp only [Bool.true_and]
              have hnx := c1 rfl
              rcases hI with ⟨rfl, h5⟩ | ⟨h5, h6, h7⟩
              · simp only [beq_self_eq_true, Bool.true_or, cond_true]
                exact ok_some (.inr ⟨hxne, hnx, fun y hy du e1 e2 => by
                  rcases (htk y).1 hy with hy | rfl
                  · exact absurd e2 (h5 y hy du e1)
                  · exact .inl rfl⟩)
              · have e0 : ((u : Str) == []) = false := by simpa using h5
                rw [e0]
                simp only [Bool.false_or]
                cases hlt : Op.bytesLess x.to u with
                | true =>
                  simp only [cond_true]
                  exact ok_some (.inr ⟨hxne, hnx, fun y hy du e1 e2 => by
                    rcases (htk y).1 hy with hy | rfl
                    · rcases h7 y hy du e1 e2 with e3 | e3
                      · exact .inr (by rw [e3]; exact hlt)
                      · exact .inr (bl_tr _ _ _ hlt e3)
                    · exact .inl rfl⟩)
                | false =>
                  simp only [cond_false]
                  exact ok_some (.inr ⟨h5, h6, fun y hy du e1 e2 => by
                    rcases (htk y).1 hy with hy | rfl
                    · exact h7 y hy du e1 e2
                    · cases hlt2 : Op.bytesLess u y.to with
                      | true => exact .inr rfl
                      | false => exact .inl (bl_tri _ _ hlt hlt2)⟩)
          · intro u hI
            rw [List.take_length] at hI
            rcases hI with ⟨rfl, h5⟩ | ⟨h5, h6, h7⟩
            · exfalso
              rcases hM.up v d h2 with e | ⟨u, du, w, e1, e2, e3⟩
              · exact hvb e
              · exact h5 ⟨u, w⟩ ((hS v ⟨u, w⟩).2 (hs _ _ _ e2)) du e1 e3
            · refine ⟨h6, fun u' hu' => ?_⟩
              obtain ⟨x, hx, rfl, du, e1, e2⟩ := hall u' hu'
              exact h7 x hx du e1 e2
        · rintro u ⟨hn, hmin⟩
          obtain ⟨du, w, e1, e2, e3⟩ := hn
          rw [h2] at e3
          have e3' := Option.some.inj e3
          have hb := hM.bnd u du e1
          have hlk : d.links = du.links + 1 := by rw [e3']; rfl
          refine ok_app (by simp; omega) (ok_some ⟨⟨out, du, ?_, e1, ?_, fun p hp => ?_⟩, ?_⟩)
          · rfl
          · simp only [List.length_append, List.length_cons, List.length_nil]
            omega
          · rw [h1, List.append_assoc]
            exact h4 (v :: p) (.next hvb ⟨du, w, e1, e2, by rw [h2, e3']⟩ hmin hp)
          · simp only [h2, e1, Option.getD_some]
            omega
      · have hvb : v = b := by simpa using hv
        subst hvb
        refine ok_some ?_
        have := h4 [v] .stop
        rw [h1]
        exact this
    · intro p hp
      obtain ⟨m, g1, g2⟩ := hp.wk hM
      have hm : da.millis = m := by rw [ha] at g2; cases g2; rfl
      refine ok_some (.inl ⟨rfl, ?_, ?_⟩)
      · simp only [hm]; exact g1
      · simp only [hm]
        exact hp.least hs (fun u v w h => (hE0 u v w h).1) hM m g2
end Go.Gk
