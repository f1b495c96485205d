/-
  Maps as sorted lists: what is told of them, and loops over them in whatever order.
-/
import Derived.Test.YtdihjljlggagiaaGreatDoorGk39
set_option linter.unusedVariables false
set_option linter.unusedSimpArgs false
set_option linter.unusedSectionVars false
namespace Go.Gk
/-- Keys in a strict order. -/
class KOrd (K : Type) [BEq K] [KLt K] : Prop where
  irr : ∀ a : K, KLt.lt a a = false
  tr : ∀ a b c : K, KLt.lt a b = true → KLt.lt b c = true → KLt.lt a c = true
  tri : ∀ a b : K, KLt.lt a b = false → KLt.lt b a = false → a = b
theorem bl_irr : ∀ a : List UInt8, Op.bytesLess a a = false
  | [] => rfl
  | x :: a => by simp [Op.bytesLess, bl_irr a]
theorem bl_tr : ∀ a b c : List UInt8, Op.bytesLess a b = true → Op.bytesLess b c = true → Op.bytesLess a c = true
  | _, [], _, h, _ => by cases ‹List UInt8› <;> simp [Op.bytesLess] at h
  | _, _ :: _, [], _, h => by simp [Op.bytesLess] at h
  | [], _ :: _, _ :: _, _, _ => rfl
  | x :: a, y :: b, z :: c, h, k => by
    simp only [Op.bytesLess, Bool.or_eq_true, decide_eq_true_eq, Bool.and_eq_true, beq_iff_eq] at h k ⊢
    rcases h with h | ⟨rfl, h⟩
    · rcases k with k | ⟨rfl, k⟩
      · exact .inl (UInt8.lt_trans h k)
      · exact .inl h
    · rcases k with k | ⟨rfl, k⟩
      · exact .inl k
      · exact .inr ⟨rfl, bl_tr a b c h k⟩
theorem bl_tri : ∀ a b : List UInt8, Op.bytesLess a b = false → Op.bytesLess b a = false → a = b
  | [], [], _, _ => rfl
  | [], _ :: _, h, _ => by simp [Op.bytesLess] at h
  | _ :: _, [], _, h => by simp [Op.bytesLess] at h
  | x :: a, y :: b, h, k => by
    simp only [Op.bytesLess, Bool.or_eq_false_iff, decide_eq_false_iff_not, Bool.and_eq_false_iff, beq_eq_false_iff_ne, ne_eq] at h k
    have e : x = y := by
      apply UInt8.toNat_inj.1
      have h1 := h.1; have k1 := k.1
      rw [UInt8.lt_iff_toNat_lt] at h1 k1
      omega
    subst e
    rw [bl_tri a b (by simpa using h.2) (by simpa using k.2)]
instance : KOrd (List UInt8) := ⟨bl_irr, bl_tr, bl_tri⟩
instance : KOrd Int := ⟨fun a => by simp [KLt.lt], fun a b c h k => by simp only [KLt.lt, decide_eq_true_eq] at h k ⊢; omega, fun a b h k => by simp only [KLt.lt, decide_eq_false_iff_not] at h k; omega⟩

section
variable {K V : Type} [BEq K] [LawfulBEq K] [KLt K] [KOrd K]
/-- In order, each key once. -/
def SM (m : List (K × V)) : Prop := m.Pairwise fun a b => KLt.lt a.1 b.1 = true
theorem lt_ne {a b : K} (h : KLt.lt a b = true) : a ≠ b := fun e => by subst e; rw [KOrd.irr] at h; cases h
theorem SM.nil : SM ([] : List (K × V)) := List.Pairwise.nil
theorem mGet_nil (k : K) : mGet ([] : List (K × V)) k = none := rfl
theorem mGet_cons (e : K × V) (m : List (K × V)) (k : K) : mGet (e :: m) k = if k == e.1 then some e.2 else mGet m k := by
  unfold mGet
  simp only [List.find?_cons]
  cases (k == e.1) <;> rfl
theorem mGet_none {m : List (K × V)} {k : K} : mGet m k = none ↔ ∀ e ∈ m, e.1 ≠ k := by
  induction m with
  | nil => simp [mGet_nil]
  | cons e m ih =>
    rw [mGet_cons]
    by_cases h : k = e.1
    · subst h; simp
    · have : (k == e.1) = false := by simpa using h
      rw [this]
      simp only [Bool.false_eq_true, if_false, ih, List.forall_mem_cons]
      exact ⟨fun h1 => ⟨Ne.symm h, h1⟩, fun h1 => h1.2⟩
theorem mGet_mem {m : List (K × V)} {k : K} {v : V} (h : mGet m k = some v) : (k, v) ∈ m := by
  induction m with
  | nil => cases h
  | cons e m ih =>
    rw [mGet_cons] at h
    by_cases hk : k = e.1
    · subst hk; simp at h; subst h; exact List.mem_cons_self ..
    · have : (k == e.1) = false := by simpa using hk
      rw [this] at h
      exact List.mem_cons_of_mem _ (ih (by simpa using h))
theorem SM.get {m : List (K × V)} (h : SM m) {k : K} {v : V} (hm : (k, v) ∈ m) : mGet m k = some v := by
  induction m with
  | nil => cases hm
  | cons e m ih =>
    obtain ⟨h1, h2⟩ := List.pairwise_cons.1 h
    rw [mGet_cons]
    rcases List.mem_cons.1 hm with rfl | hm
    · simp
    · have : (k == e.1) = false := by simpa using (lt_ne (h1 _ hm)).symm
      rw [this]
      simpa using ih h2 hm
theorem SM.mem_iff {m : List (K × V)} (h : SM m) {k : K} {v : V} : (k, v) ∈ m ↔ mGet m k = some v := ⟨h.get, mGet_mem⟩
/-- Two such maps with the same entries are one. -/
theorem SM.ext : ∀ {a b : List (K × V)}, SM a → SM b → (∀ k, mGet a k = mGet b k) → a = b
  | [], [], _, _, _ => rfl
  | [], e :: b, _, _, h => by have := h e.1; rw [mGet_nil, mGet_cons] at this; simp at this
  | e :: a, [], _, _, h => by have := h e.1; rw [mGet_nil, mGet_cons] at this; simp at this
  | x :: a, y :: b, ha, hb, h => by
    obtain ⟨a1, a2⟩ := List.pairwise_cons.1 ha
    obtain ⟨b1, b2⟩ := List.pairwise_cons.1 hb
    have hxy : x.1 = y.1 := by
      cases h1 : KLt.lt x.1 y.1 with
      | true =>
        have hx := h x.1
        rw [mGet_cons, mGet_cons] at hx
        have hn : (x.1 == y.1) = false := by simpa using lt_ne h1
        rw [hn] at hx
        simp only [beq_self_eq_true, if_true, Bool.false_eq_true, if_false] at hx
        have := b1 _ (mGet_mem hx.symm)
        have := KOrd.tr _ _ _ h1 this
        rw [KOrd.irr] at this; cases this
      | false =>
        cases h2 : KLt.lt y.1 x.1 with
        | true =>
          have hy := h y.1
          rw [mGet_cons, mGet_cons] at hy
          have hn : (y.1 == x.1) = false := by simpa using lt_ne h2
          rw [hn] at hy
          simp only [beq_self_eq_true, if_true, Bool.false_eq_true, if_false] at hy
          have := a1 _ (mGet_mem hy)
          have := KOrd.tr _ _ _ h2 this
          rw [KOrd.irr] at this; cases this
        | false => exact KOrd.tri _ _ h1 h2
    have hv : x.2 = y.2 := by
      have := h x.1
      rw [mGet_cons, mGet_cons, ← hxy] at this
      simpa using this
    have he : x = y := Prod.ext hxy hv
    subst he
    congr 1
    refine SM.ext a2 b2 fun k => ?_
    have hk := h k
    rw [mGet_cons, mGet_cons] at hk
    by_cases e : k = x.1
    · subst e
      rw [mGet_none.2 fun e he => (lt_ne (a1 e he)).symm, mGet_none.2 fun e he => (lt_ne (b1 e he)).symm]
    · have : (k == x.1) = false := by simpa using e
      simpa [this] using hk
theorem SM.ins {m : List (K × V)} (h : SM m) {k : K} {v : V} (hn : ∀ e ∈ m, e.1 ≠ k) : SM (mIns k v m) := by
  induction m with
  | nil => exact List.pairwise_singleton ..
  | cons e m ih =>
    obtain ⟨h1, h2⟩ := List.pairwise_cons.1 h
    simp only [mIns]
    cases hlt : KLt.lt k e.1 with
    | true =>
      refine List.pairwise_cons.2 ⟨fun x hx => ?_, h⟩
      rcases List.mem_cons.1 hx with rfl | hx
      · exact hlt
      · exact KOrd.tr _ _ _ hlt (h1 x hx)
    | false =>
      have hek : KLt.lt e.1 k = true := by
        cases hh : KLt.lt e.1 k with
        | true => rfl
        | false => exact absurd (KOrd.tri _ _ hlt hh).symm (hn e (List.mem_cons_self ..))
      refine List.pairwise_cons.2 ⟨fun x hx => ?_, ih h2 fun x hx => hn x (List.mem_cons_of_mem _ hx)⟩
      have := (mIns_perm k v m).mem_iff.1 hx
      simp only [List.mem_append, List.mem_singleton] at this
      rcases this with hx | rfl
      · exact h1 x hx
      · exact hek
theorem mGet_ins {m : List (K × V)} {k : K} {v : V} (hn : ∀ e ∈ m, e.1 ≠ k) (k' : K) : mGet (mIns k v m) k' = if k' == k then some v else mGet m k' := by
  induction m with
  | nil => simp [mIns, mGet_cons]
  | cons e m ih =>
    simp only [mIns]
    cases hlt : KLt.lt k e.1 with
    | true => simp [mGet_cons]
    | false =>
      simp only [cond_false, mGet_cons, ih fun x hx => hn x (List.mem_cons_of_mem _ hx)]
      by_cases h1 : k' = e.1
      · subst h1
        have : (e.1 == k) = false := by simpa using hn e (List.mem_cons_self ..)
        simp [this]
      · have : (k' == e.1) = false := by simpa using h1
        simp [this]
theorem mSet_none {m : List (K × V)} {k : K} {v : V} (hn : ∀ e ∈ m, e.1 ≠ k) : mSet m k v = mIns k v m := by
  unfold mSet
  have : m.findIdx? (fun e => k == e.1) = none := by
    rw [List.findIdx?_eq_none_iff]
    intro e he
    simpa using (hn e he).symm
  rw [this]
theorem mSet_some {m : List (K × V)} {k : K} {v : V} {i : Nat} (h : m.findIdx? (fun e => k == e.1) = some i) : mSet m k v = m.set i (k, v) := by unfold mSet; rw [h]
theorem SM.set {m : List (K × V)} (h : SM m) (k : K) (v : V) : SM (mSet m k v) := by
  cases hf : m.findIdx? (fun e => k == e.1) with
  | none =>
    have hn : ∀ e ∈ m, e.1 ≠ k := fun e he => by
      have := List.findIdx?_eq_none_iff.1 hf e he
      intro e2; subst e2; simp at this
    rw [mSet_none hn]
    exact h.ins hn
  | some i =>
    rw [mSet_some hf]
    obtain ⟨hi, hk, _⟩ := List.findIdx?_eq_some_iff_getElem.1 hf
    have hk' : k = m[i].1 := by simpa using hk
    unfold SM
    have e1 : (m.set i (k, v)).map (·.1) = m.map (·.1) := by
      rw [List.map_set]
      apply List.ext_getElem?
      intro j
      by_cases hj : j = i
      · subst hj; simp [hi, hk']
      · rw [List.getElem?_set_ne (Ne.symm hj)]
    have h2 : (m.map (·.1)).Pairwise fun a b => KLt.lt a b = true := List.pairwise_map.2 h
    rw [← e1] at h2
    exact List.pairwise_map.1 h2
theorem mGet_set (m : List (K × V)) (k : K) (v : V) (k' : K) : mGet (mSet m k v) k' = if k' == k then some v else mGet m k' := by
  cases hf : m.findIdx? (fun e => k == e.1) with
  | none =>
    have hn : ∀ e ∈ m, e.1 ≠ k := fun e he => by
      have := List.findIdx?_eq_none_iff.1 hf e he
      intro e2; subst e2; simp at this
    rw [mSet_none hn, mGet_ins hn]
  | some i =>
    rw [mSet_some hf]
    induction m generalizing i with
    | nil => simp at hf
    | cons e m ih =>
      rw [List.findIdx?_cons] at hf
      by_cases hk : k = e.1
      · subst hk
        simp at hf
        subst hf
        simp only [List.set_cons_zero, mGet_cons]
        by_cases h2 : k' = e.1
        · subst h2; simp
        · have : (k' == e.1) = false := by simpa using h2
          simp [this]
      · have hk2 : (k == e.1) = false := by simpa using hk
        rw [hk2] at hf
        simp only [Bool.false_eq_true, if_false, Option.map_eq_some_iff] at hf
        obtain ⟨j, hj, rfl⟩ := hf
        simp only [List.set_cons_succ, mGet_cons, ih j hj]
        by_cases h2 : k' = e.1
        · subst h2
          have : (e.1 == k) = false := by simpa using Ne.symm hk
          simp [this]
        · have : (k' == e.1) = false := by simpa using h2
          simp [this]
theorem SM.of_perm_keys {m m' : List (K × V)} (h : SM m) (hp : m'.Perm m) : m'.Pairwise fun a b => a.1 ≠ b.1 :=
  (List.Perm.pairwise_iff (R := fun (a b : K × V) => a.1 ≠ b.1) (fun {a b} hab => Ne.symm hab) hp).2 (List.Pairwise.imp (fun hab => lt_ne hab) h)
/-- A loop over a map whose rounds all come to something told by the set of entries seen. -/
theorem rangeP_by {α σ : Type} {f : α → σ → Option σ} {m : List α} {s r : σ} (I : List α → σ → Prop) (h0 : I [] s)
    (hst : ∀ (seen : List α) (x : α) (s : σ), (∃ rest, (seen ++ x :: rest).Perm m) → I seen s → ∃ s', f x s = some s' ∧ I (seen ++ [x]) s')
    (hend : ∀ (seen : List α) (s : σ), seen.Perm m → I seen s → s = r) : rangeP f m s = some r := by
  rw [rangeP_some]
  intro m' hm'
  have key : ∀ (l seen : List α) (s : σ), (seen ++ l).Perm m → I seen s → ∃ s', rangeL f l s = some s' ∧ I (seen ++ l) s' := by
    intro l
    induction l with
    | nil => intro seen s hp hi; exact ⟨s, rfl, by simpa using hi⟩
    | cons x l ih =>
      intro seen s hp hi
      obtain ⟨s', e1, e2⟩ := hst seen x s ⟨l, hp⟩ hi
      obtain ⟨s2, e3, e4⟩ := ih (seen ++ [x]) s' (by simpa using hp) e2
      refine ⟨s2, ?_, by simpa using e4⟩
      simp only [rangeL, e1]
      exact e3
  obtain ⟨s', e1, e2⟩ := key m' [] s (by simpa using hm') h0
  rw [e1, hend m' s' hm' (by simpa using e2)]
/-- Entries put into a map, in whatever order. -/
theorem rangeP_put {V2 : Type} {m : List (K × V)} {s : List (K × V2)} {f : K × V → List (K × V2) → Option (List (K × V2))} (hm : SM m) (hs : SM s) (g : K → V → Option V2)
    (hf : ∀ x s, x ∈ m → f x s = some (match g x.1 x.2 with | some v => mSet s x.1 v | none => s)) :
    ∃ r, rangeP f m s = some r ∧ SM r ∧ ∀ k, mGet r k = match (mGet m k).bind (g k) with | some v => some v | none => mGet s k := by
  -- what comes out, in order
  let put : List (K × V2) → K × V → List (K × V2) := fun s x => match g x.1 x.2 with | some v => mSet s x.1 v | none => s
  have hput : ∀ s x, SM s → SM (put s x) := fun s x h => by
    simp only [put]
    cases g x.1 x.2 with
    | none => exact h
    | some v => exact h.set _ _
  have hfold : ∀ (l : List (K × V)) (s : List (K × V2)), SM s → SM (l.foldl put s) := by
    intro l
    induction l with
    | nil => intro s h; exact h
    | cons x l ih => intro s h; exact ih _ (hput s x h)
  have hget : ∀ (l : List (K × V)) (s : List (K × V2)), (l.Pairwise fun a b => a.1 ≠ b.1) → ∀ k, mGet (l.foldl put s) k = match (mGet l k).bind (g k) with | some v => some v | none => mGet s k := by
    intro l
    induction l with
    | nil => intro s _ k; rfl
    | cons x l ih =>
      intro s hd k
      obtain ⟨d1, d2⟩ := List.pairwise_cons.1 hd
      rw [List.foldl_cons, ih _ d2 k, mGet_cons]
      by_cases hk : k = x.1
      · subst hk
        have hn : mGet l x.1 = none := mGet_none.2 fun e he => (d1 e he).symm
        rw [hn]
        simp only [Option.bind_none, beq_self_eq_true, if_true, Option.bind_some, put]
        cases g x.1 x.2 with
        | none => rfl
        | some v => simp [mGet_set]
      · have hk2 : (k == x.1) = false := by simpa using hk
        simp only [hk2, Bool.false_eq_true, if_false]
        cases (mGet l k).bind (g k) with
        | some v => rfl
        | none =>
          simp only [put]
          cases g x.1 x.2 with
          | none => rfl
          | some v => simp [mGet_set, hk2]
  refine ⟨m.foldl put s, ?_, hfold m s hs, hget m s (hm.of_perm_keys (.refl _))⟩
  refine rangeP_by (fun seen s' => s' = seen.foldl put s) rfl (fun seen x s' hx hi => ?_) (fun seen s' hp hi => ?_)
  · obtain ⟨rest, hr⟩ := hx
    exact ⟨_, hf x s' (hr.mem_iff.1 (by simp)), by rw [List.foldl_append, hi]; rfl⟩
  · subst hi
    refine SM.ext (hfold _ _ hs) (hfold _ _ hs) fun k => ?_
    rw [hget seen s (hm.of_perm_keys hp), hget m s (hm.of_perm_keys (.refl _))]
    have : mGet seen k = mGet m k := by
      cases h : mGet m k with
      | none => exact mGet_none.2 fun e he => mGet_none.1 h e (hp.mem_iff.1 he)
      | some v =>
        have h1 := hp.mem_iff.2 (mGet_mem h)
        cases h2 : mGet seen k with
        | none => exact absurd rfl (mGet_none.1 h2 _ h1)
        | some u => have := hm.get (hp.mem_iff.1 (mGet_mem h2)); rw [h] at this; exact this.symm
    rw [this]
end
end Go.Gk
