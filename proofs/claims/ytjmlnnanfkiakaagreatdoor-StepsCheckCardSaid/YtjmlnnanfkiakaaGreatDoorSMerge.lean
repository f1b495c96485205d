/-
  The plain law: two logs of steps put together, two ways.
-/
import Derived.Test.YtjmlnnanfkiakaaGreatDoorSSort
set_option linter.unusedVariables false
set_option linter.unusedSimpArgs false
set_option linter.unusedSectionVars false
set_option maxRecDepth 100000
namespace Go.Gk
theorem equalS_o (s1 s2 : List Str) : Ok (m_slices_Equal_string_string s1 s2) fun b => s1 = s2 → b = true := by
  unfold m_slices_Equal_string_string
  refine ok_bif (fun h => ok_some fun e => ?_) fun h => ?_
  · subst e; simp at h
  · have hl : s1.length = s2.length := by
      have : (s1.length : Int) = s2.length := by simpa using h
      omega
    refine ok_bi (ok_rangeM (fun _ _ => True) (fun q => s1 = s2 → q = true) trivial fun i x s hx _ => ?_) fun r hr => ?_
    · have hi : i < s1.length := (List.getElem?_eq_some_iff.1 hx).1
      refine ok_get (j := i) (x := s2[i]'(by omega)) rfl (List.getElem?_eq_getElem _) ?_
      refine ok_bif (fun hn => ok_some fun e => ?_) fun _ => ok_some trivial
      subst e
      rw [(List.getElem?_eq_some_iff.1 hx).2] at hn
      simp at hn
    · cases r with
      | out q => exact ok_some hr
      | go s => exact ok_some fun _ => rfl
theorem bif_and (c x : Bool) : (bif c then some x else some false) = some (c && x) := by cases c <;> rfl
theorem and12 (a b c d e f g h i j k l t : Bool) : (a && ((b && c) && (d && (e && (f && (g && (h && (i && (t && (j && (k && l))))))))))) = (bif !t then false else (((((((((((a && b) && c) && d) && e) && f) && g) && h) && i) && j) && k) && l)) := by
  cases a <;> cases b <;> cases c <;> cases d <;> cases e <;> simp <;> cases f <;> cases g <;> cases h <;> simp <;> cases i <;> cases t <;> simp [Bool.and_assoc]
theorem same_two (a b : T_api_Step) : ∃ r, m_node_same a b = some r ∧ m_laneref1_SameStep a b = some r ∧ (a = b → r = true) := by
  obtain ⟨t, ht, ht2⟩ := equalS_o a.Tags b.Tags
  have e1 : m_node_same a b = some (((a.At : Int) == b.At) && ((((a.Server : Str) == b.Server) && ((a.No : Int) == b.No)) && (((a.Kind : Int) == b.Kind) && (((a.By : Str) == b.By) && (((a.Node : Str) == b.Node) && (((a.Join : Str) == b.Join) && (((a.Public : Str) == b.Public) && (((a.Name : Str) == b.Name) && (t && (((a.Until : Int) == b.Until) && (((a.Uses : Int) == b.Uses) && ((a.Ready : Bool) == b.Ready)))))))))))) := by
    unfold m_node_same m_node_originOf
    rw [ht]
    simp only [bi_some, bif_and, Bool.and_true]
  have e2 : m_laneref1_SameStep a b = some (bif !t then false else ((((((((((((a.At : Int) == b.At) && ((a.Server : Str) == b.Server)) && ((a.No : Int) == b.No)) && ((a.Kind : Int) == b.Kind)) && ((a.By : Str) == b.By)) && ((a.Node : Str) == b.Node)) && ((a.Join : Str) == b.Join)) && ((a.Public : Str) == b.Public)) && ((a.Name : Str) == b.Name)) && ((a.Until : Int) == b.Until)) && ((a.Uses : Int) == b.Uses)) && ((a.Ready : Bool) == b.Ready)) := by
    unfold m_laneref1_SameStep
    rw [ht]
    cases t <;> rfl
  refine ⟨_, e1, ?_, fun e => ?_⟩
  · rw [e2, and12]
  · subst e
    rw [ht2 rfl]
    simp
theorem sameSteps_refl (l : List T_api_Step) : m_laneref1_SameSteps l l = some true := by
  unfold m_laneref1_SameSteps m_slices_EqualFunc_api_Step_api_Step_api_Step_api_Step
  rw [bne_self_eq_false, cond_false]
  have : Ok (rangeM (σ := Unit) (ρ := Bool) (fun i3 x5 s4 => bi (getZ l (i3 : Int)) fun x14 => bi (m_laneref1_SameStep x5 x14) fun y16 => bif !y16 then (bi (some false) fun v => some (.out v)) else (some (.go ()))) 0 l ()) fun r => match r with | .go _ => True | .out _ => False := by
    refine ok_mono (ok_rangeM (fun _ _ => True) (fun _ => False) trivial fun i x s hx _ => ?_) fun r hr => by cases r <;> exact hr
    refine ok_get (j := i) rfl hx ?_
    obtain ⟨r, _, h1, h2⟩ := same_two x x
    rw [h1, h2 rfl]
    exact ok_some trivial
  obtain ⟨r, h1, h2⟩ := this
  rw [h1]
  cases r with
  | out q => exact h2.elim
  | go s => rfl
theorem clone_ok {x : T_api_Step} (h : x.Tags.length ≤ 4294967296) : m_node_cloneStep x = some x := by
  unfold m_node_cloneStep m_slices_Clone_string_string
  rw [apd_some (by simpa using h)]
  rfl
theorem idx2_ok {l : List T_api_Step} (x : T_api_Step) (h : l.length ≤ 1000) : m_slices_IndexFunc_api_Step_api_Step_2 l x = some (ixZ (fun y => sameO y x) l) := by
  unfold m_slices_IndexFunc_api_Step_api_Step_2
  rw [decide_eq_true (show (l.length : Int) ≤ 9223372036854775807 by omega)]
  refine (congrArg (fun q => bi q fun q => goI q fun _ => some (-1)) rfl).trans (bi_rangeI_ix (fun y => sameO y x) l fun j y hy => ?_)
  rw [getZ_nn hy, bi_some]
  unfold m_laneref1_StepsMerged_1 sameO
  cases ((y.Server : Str) == x.Server) <;> cases ((y.No : Int) == x.No) <;> rfl
theorem loop_go {σ ρ : Type} {f : σ → Option (LS σ ρ)} {k : Nat} {s s' : σ} (h : f s = some (.go s')) : loopM f (k + 1) s = loopM f k s' := by simp only [loopM, h]
theorem loop_end {σ ρ : Type} {f : σ → Option (LS σ ρ)} {k : Nat} {s : σ} {r : ρ} (h : f s = some (.out r)) : loopM f (k + 1) s = some r := by simp only [loopM, h]
theorem bif_t {α : Type} {c : Bool} {m n v : Option α} (h : c = true) (k : m = v) : (bif c then m else n) = v := by subst h; exact k
theorem bif_f {α : Type} {c : Bool} {m n v : Option α} (h : c = false) (k : n = v) : (bif c then m else n) = v := by subst h; exact k
theorem merge_fault {a b : List T_api_Step} {ea eb : Int} (ha : m_node_Check 400 a = some ea) (hb : m_node_Check 400 b = some eb) (h : ea ≠ 0 ∨ eb ≠ 0) : m_node_Merge 400 a b = some ([], if ea ≠ 0 then ea else eb) := by
  unfold m_node_Merge
  by_cases h1 : ea = 0
  · have h2 : eb ≠ 0 := by rcases h with h | h; exact absurd h1 h; exact h
    subst h1
    refine bi_of (r := .inr ([], eb)) ?_ (by simp [orI])
    show loopM _ (398 + 1 + 1) 0 = _
    refine (loop_go (s' := 1) ?_).trans (loop_end ?_)
    · refine bif_t rfl (bi_of (r := a) rfl ?_)
      refine bi_of ha ?_
      rfl
    · refine bif_t rfl (bi_of (r := b) rfl ?_)
      refine bi_of hb ?_
      have : (eb != 0) = true := by simpa using h2
      rw [this]; rfl
  · refine bi_of (r := .inr ([], ea)) ?_ (by simp [orI, h1])
    show loopM _ (399 + 1) 0 = _
    refine loop_end ?_
    refine bif_t rfl (bi_of (r := a) rfl ?_)
    refine bi_of ha ?_
    have : (ea != 0) = true := by simpa using h1
    rw [this]; rfl
theorem find_app {α : Type} (p : α → Bool) (l : List α) (x : α) : (l ++ [x]).find? p = (l.find? p).or (bif p x then some x else none) := by
  rw [List.find?_append, List.find?_cons]
  cases p x <;> rfl
theorem find_isSome {α : Type} (p : α → Bool) (l : List α) : (l.find? p).isSome = l.any p := by
  cases h : l.find? p with
  | none =>
    rw [List.find?_eq_none] at h
    exact (List.any_eq_false.2 fun x hx => by simpa using h x hx).symm
  | some x => exact (List.any_eq_true.2 ⟨x, List.mem_of_find?_eq_some h, List.find?_some h⟩).symm
theorem ix_find {α : Type} {p : α → Bool} {l : List α} {x : α} (h : l.find? p = some x) : ∃ i : Nat, ixZ p l = (i : Int) ∧ l[i]? = some x := by
  have ha : l.any p = true := by rw [← find_isSome, h]; rfl
  obtain ⟨i, a, h1, h2, h3, _⟩ := ixZ_some ha
  rw [find_ix h2 h3] at h
  cases h
  exact ⟨i, h1, h3⟩
abbrev Seen := List (T_node_origin × T_api_Step)
abbrev St2 := Seen × (List T_api_Step)
abbrev Ro2 := (Seen × (List T_api_Step)) ⊕ ((List T_api_Step) × Int)
/-- A round of the program's loop over steps. -/
def mbody (x36 : T_api_Step) (s35 : St2) : Option (LS St2 (LS (Seen × (List T_api_Step) × Int) Ro2)) :=
  bi (m_node_originOf x36) fun y45 => bi (bif (mGet s35.1 y45).isSome then (bi (m_node_same ((mGet s35.1 y45).getD (⟨0, [], 0, 0, [], [], [], [], [], [], 0, 0, false⟩ : T_api_Step)) x36) fun y50 => some (!y50)) else (some false)) fun q47 => bif q47 then (bi (bi (some ([], 13)) fun v => some (.out (.inr v))) fun v => some (.out v)) else (bif !((mGet s35.1 y45).isSome) then (bi (m_node_originOf x36) fun y60 => bi (m_node_cloneStep x36) fun y62 => bi (apd s35.2 [y62]) fun y64 => some (.go ((mSet s35.1 y60 x36), y64))) else (some (.go (s35.1, s35.2))))
def SI (s : Seen) (l : List T_api_Step) : Prop := ∀ y, mGet s (og y) = l.find? (fun z => sameO z y)
theorem SI.put {s : Seen} {l : List T_api_Step} {x : T_api_Step} (h : SI s l) (hx : l.any (fun z => sameO z x) = false) : SI (mSet s (og x) x) (l ++ [x]) := fun y => by
  rw [gGet_set, og_eq, find_app, h y]
  cases hs : sameO x y with
  | false => simp
  | true =>
    have : l.find? (fun z => sameO z y) = none := by
      rw [List.find?_eq_none]
      intro z hz
      have h1 := List.any_eq_false.1 hx z hz
      unfold sameO at hs h1 ⊢
      simp only [Bool.and_eq_true, beq_iff_eq] at hs h1 ⊢
      intro h2
      exact h1 ⟨h2.1.trans hs.1.symm, h2.2.trans hs.2.symm⟩
    rw [this]; rfl
theorem mbody_new {x : T_api_Step} {s : St2} (h : SI s.1 s.2) (hx : s.2.any (fun z => sameO z x) = false) (ht : x.Tags.length ≤ 4294967296) (hl : s.2.length ≤ 1000) : mbody x s = some (.go (mSet s.1 (og x) x, s.2 ++ [x])) := by
  have h1 : (mGet s.1 (og x)).isSome = false := by rw [h x, find_isSome, hx]
  unfold mbody
  refine bi_of (r := og x) rfl ?_
  rw [h1]
  refine bi_of (r := false) rfl ?_
  refine bif_f rfl (bif_t rfl ?_)
  refine bi_of (r := og x) rfl ?_
  refine bi_of (clone_ok ht) ?_
  exact bi_of (apd_some (by simp only [List.length_cons, List.length_nil]; omega)) rfl
theorem mbody_old {x y : T_api_Step} {s : St2} {b : Bool} (h : SI s.1 s.2) (hx : s.2.find? (fun z => sameO z x) = some y) (hb : m_node_same y x = some b) : mbody x s = some (bif b then .go s else .out (.out (.inr ([], 13)))) := by
  have h1 : mGet s.1 (og x) = some y := by rw [h x, hx]
  unfold mbody
  refine bi_of (r := og x) rfl ?_
  rw [h1]
  refine bi_of (r := !b) ?_ ?_
  · refine bif_t rfl ?_
    show bi (m_node_same y x) _ = _
    exact bi_of hb rfl
  · cases b <;> rfl
theorem merge_one {a : List T_api_Step} (ho : Once a) (ht : ∀ x ∈ a, x.Tags.length ≤ 4294967296) (hl : a.length ≤ 1000) : ∃ s : Seen, rangeM (σ := St2) (fun _ x s => mbody x s) 0 a ([], []) = some (.go (s, a)) ∧ SI s a := by
  obtain ⟨r, h1, h2⟩ := ok_rangeM (σ := St2) (f := fun _ x s => mbody x s) (l := a) (s := ([], [])) (fun i s => s.2 = a.take i ∧ SI s.1 (a.take i)) (fun _ => False) ⟨rfl, fun y => rfl⟩ fun i x s hx hI => by
    obtain ⟨h1, h2⟩ := hI
    have hi : i < a.length := (List.getElem?_eq_some_iff.1 hx).1
    have hn := ho i x hx
    rw [mbody_new (by rw [h1]; exact h2) (by rw [h1]; exact hn) (ht x (List.mem_of_getElem? hx)) (by rw [h1, List.length_take]; omega)]
    exact ok_some ⟨by rw [take_succ hx, h1], by rw [take_succ hx]; exact h2.put hn⟩
  cases r with
  | out q => exact h2.elim
  | go s =>
    obtain ⟨s1, s2⟩ := s
    simp only [List.take_length] at h2
    obtain ⟨rfl, h3⟩ := h2
    exact ⟨s1, h1, h3⟩
end Go.Gk
