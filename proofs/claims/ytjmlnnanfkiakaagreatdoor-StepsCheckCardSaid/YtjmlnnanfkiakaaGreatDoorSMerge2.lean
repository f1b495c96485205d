/-
  The plain law: two logs of steps without fault put together, two ways.
-/
import Derived.Test.YtjmlnnanfkiakaaGreatDoorSMerge
set_option linter.unusedVariables false
set_option linter.unusedSimpArgs false
set_option linter.unusedSectionVars false
set_option maxRecDepth 100000
namespace Go.Gk
/-- A round of the reference's loop. -/
def rbody (x5 : T_api_Step) (s4 : List T_api_Step) : Option (LS (List T_api_Step) ((List T_api_Step) × Int)) :=
  bi (m_slices_IndexFunc_api_Step_api_Step_2 s4 x5) fun y14 => bif decide ((y14 : Int) < 0) then (bi (apd s4 [x5]) fun y17 => some (.go y17)) else (bi (getZ s4 y14) fun x20 => bi (m_laneref1_SameStep x20 x5) fun y23 => bif !y23 then (bi (some ([], 13)) fun v => some (.out v)) else (some (.go s4)))
theorem rbody_new {x : T_api_Step} {l : List T_api_Step} (hx : l.any (fun z => sameO z x) = false) (hl : l.length ≤ 1000) : rbody x l = some (.go (l ++ [x])) := by
  unfold rbody
  refine bi_of (idx2_ok x hl) ?_
  rw [ixZ_lt, hx]
  exact bif_t rfl (bi_of (apd_some (by simp only [List.length_cons, List.length_nil]; omega)) rfl)
theorem rbody_old {x y : T_api_Step} {l : List T_api_Step} {b : Bool} (hx : l.find? (fun z => sameO z x) = some y) (hb : m_laneref1_SameStep y x = some b) (hl : l.length ≤ 1000) : rbody x l = some (bif b then .go l else .out ([], 13)) := by
  unfold rbody
  refine bi_of (idx2_ok x hl) ?_
  have ha : l.any (fun z => sameO z x) = true := by rw [← find_isSome, hx]; rfl
  obtain ⟨i, h1, h2⟩ := ix_find hx
  rw [ixZ_lt, ha]
  refine bif_f rfl ?_
  rw [h1]
  refine bi_of (getZ_nn h2) (bi_of hb ?_)
  cases b <;> rfl
/-- What is put together stays short. -/
def Short (a b : List T_api_Step) : Prop := (a.length + b.length ≤ 12) ∨ (a.length ≤ 12 ∧ ∀ x ∈ b, a.any (fun y => sameO y x) = true)
theorem merge_body {a b : List T_api_Step} {s : Seen} (hs : SI s a) (ht : ∀ x ∈ b, x.Tags.length ≤ 4294967296) (hl : a.length ≤ 12) (hb : Short a b) :
    Two (rangeM (σ := St2) (fun _ x s => mbody x s) 0 b (s, a)) (rangeM (fun _ x s => rbody x s) 0 b a) (LSR (fun s t => s.2 = t ∧ t.length ≤ 12) fun r q => r = .out (.inr ([], 13)) ∧ q = ([], 13)) := by
  have key := two_rangeM (σ := St2) (τ := List T_api_Step) (f := fun _ x s => mbody x s) (g := fun _ x s => rbody x s) (l := b) (s := (s, a)) (t := a)
    (fun i s t => s.2 = t ∧ SI s.1 t ∧ ((a.length + b.length ≤ 12 ∧ t.length ≤ a.length + i ∧ i ≤ b.length) ∨ (t = a ∧ ∀ x ∈ b, a.any (fun y => sameO y x) = true)))
    (fun r q => r = .out (.inr ([], 13)) ∧ q = ([], 13)) ⟨rfl, hs, by
      rcases hb with h | h
      · exact .inl ⟨h, Nat.le_refl _, Nat.zero_le _⟩
      · exact .inr ⟨rfl, h.2⟩⟩ fun i x s t hx hI => by
    obtain ⟨h1, h2, h3⟩ := hI
    subst h1
    have hi : i < b.length := (List.getElem?_eq_some_iff.1 hx).1
    have hsl : s.2.length ≤ 12 := by
      rcases h3 with h3 | h3
      · omega
      · rw [h3.1]; exact hl
    cases hf : s.2.find? (fun z => sameO z x) with
    | none =>
      have ha : s.2.any (fun z => sameO z x) = false := by rw [← find_isSome, hf]; rfl
      rw [mbody_new h2 ha (ht x (List.mem_of_getElem? hx)) (by omega), rbody_new ha (by omega)]
      refine two_some ⟨rfl, h2.put ha, ?_⟩
      rcases h3 with h3 | h3
      · exact .inl ⟨h3.1, by simp only [List.length_append, List.length_cons, List.length_nil]; omega, by omega⟩
      · have := h3.2 x (List.mem_of_getElem? hx)
        rw [← h3.1, ha] at this; cases this
    | some y =>
      obtain ⟨c, c1, c2, _⟩ := same_two y x
      rw [mbody_old h2 hf c1, rbody_old hf c2 (by omega)]
      cases c with
      | true =>
        refine two_some ⟨rfl, h2, ?_⟩
        rcases h3 with h3 | h3
        · exact .inl ⟨h3.1, by omega, by omega⟩
        · exact .inr h3
      | false => exact two_some ⟨rfl, rfl⟩
  refine two_mono key fun r q h => ?_
  cases r with
  | out r => cases q with
    | out q => exact h
    | go t => exact h
  | go s => cases q with
    | out q => exact h
    | go t =>
      refine ⟨h.1, ?_⟩
      rcases h.2.2 with h3 | h3
      · omega
      · rw [h3.1]; exact hl
def mend : LS St2 (LS (Seen × (List T_api_Step) × Int) Ro2) → Option ((List T_api_Step) × Int)
  | .out (.out (.inr z)) => some z
  | .go z => (bif decide (((z.2.length : Int) : Int) > 2000) then (some ([], 2)) else (bi (m_slices_SortFunc_api_Step_api_Step 400 z.2) fun y70 => gd (decide (y70.length = z.2.length)) (some (y70, 0))))
  | _ => none
def rend : LS (List T_api_Step) ((List T_api_Step) × Int) → Option ((List T_api_Step) × Int)
  | .out z => some z
  | .go z => (bif decide (((z.length : Int) : Int) > 2000) then (some ([], 2)) else (bi (m_slices_SortFunc_api_Step_api_Step_2 400 z) fun y70 => gd (decide (y70.length = z.length)) (some (y70, 0))))
theorem merge_two {a b : List T_api_Step} (ha : m_node_Check 400 a = some 0) (hb : m_node_Check 400 b = some 0) (ho : Once a) (hta : ∀ x ∈ a, x.Tags.length ≤ 4294967296) (htb : ∀ x ∈ b, x.Tags.length ≤ 4294967296) (hl : a.length ≤ 12) (hs : Short a b) :
    ∃ r, m_node_Merge 400 a b = some r ∧ m_laneref1_StepsMerged 400 a b = some r := by
  obtain ⟨s, h1, h2⟩ := merge_one ho hta (by omega)
  obtain ⟨r, q, h3, h4, h5⟩ := merge_body h2 htb hl hs
  have hp : ∀ (v : Option ((List T_api_Step) × Int)), mend r = v → m_node_Merge 400 a b = v := by
    intro v hv
    unfold m_node_Merge
    refine bi_of (r := .inl ()) ?_ ?_
    · show loopM _ (397 + 1 + 1 + 1) 0 = _
      refine (loop_go (s' := 1) ?_).trans ((loop_go (s' := 2) ?_).trans (loop_end ?_))
      · refine bif_t rfl (bi_of (r := a) rfl ?_)
        refine bi_of ha ?_
        rfl
      · refine bif_t rfl (bi_of (r := b) rfl ?_)
        refine bi_of hb ?_
        rfl
      · rfl
    · show bi (loopM _ (397 + 1 + 1 + 1) _) _ = _
      have hg : ∀ {f : (Seen × (List T_api_Step) × Int) → Option (LS (Seen × (List T_api_Step) × Int) Ro2)} {k : Nat} {s0 s' : Seen × (List T_api_Step) × Int} {g : Ro2 → Option ((List T_api_Step) × Int)} {v}, f s0 = some (.go s') → bi (loopM f k s') g = v → bi (loopM f (k + 1) s0) g = v := fun e k => by rw [loop_go e]; exact k
      refine hg (s' := (s, a, 1)) ?_ ?_
      · refine bif_t rfl (bi_of (r := a) rfl ?_)
        refine bi_of h1 ?_
        rfl
      · cases r with
        | out o =>
          have : o = .out (.inr ([], 13)) := by
            cases q with
            | out q => exact h5.1
            | go t => exact h5.elim
          subst this
          refine bi_of (r := (Sum.inr ([], 13) : Ro2)) (loop_end ?_) ?_
          · refine bif_t rfl (bi_of (r := b) rfl ?_)
            refine bi_of h3 ?_
            rfl
          · exact hv
        | go z =>
          refine hg (s' := (z.1, z.2, 2)) ?_ ?_
          · refine bif_t rfl (bi_of (r := b) rfl ?_)
            refine bi_of h3 ?_
            rfl
          · refine bi_of (r := (Sum.inl (z.1, z.2) : Ro2)) (loop_end rfl) ?_
            exact hv
  have hr : m_laneref1_StepsMerged 400 a b = rend q := by
    unfold m_laneref1_StepsMerged m_slices_Clone_api_Step_api_Step
    refine bi_of (r := a) (bi_of (apd_some (by simp only [List.length_nil]; omega)) rfl) ?_
    refine bi_of h4 ?_
    cases q <;> rfl
  rw [hr]
  cases r with
  | out o =>
    cases q with
    | go t => exact h5.elim
    | out q =>
      obtain ⟨rfl, rfl⟩ := h5
      exact ⟨_, hp _ rfl, rfl⟩
  | go z =>
    cases q with
    | out q => exact h5.elim
    | go t =>
      obtain ⟨rfl, h6⟩ := h5
      obtain ⟨y, y1, y2⟩ := sort_o z.2 h6
      have e : ∀ {m}, m = some y → (bif decide (((z.2.length : Int) : Int) > 2000) then (some (([], 2) : (List T_api_Step) × Int)) else (bi m fun y70 => gd (decide (y70.length = z.2.length)) (some (y70, 0)))) = some (y, 0) := by
        intro m hm
        refine bif_f (by rw [decide_eq_false]; omega) (bi_of hm ?_)
        rw [decide_eq_true y2.1]; rfl
      exact ⟨(y, 0), hp _ (e (by rw [sort_eq]; exact y1)), e y1⟩
end Go.Gk
