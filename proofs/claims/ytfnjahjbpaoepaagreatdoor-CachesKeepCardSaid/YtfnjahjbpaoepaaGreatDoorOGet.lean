/-
  CachesKeep, the plain law: Get, Drop, Many.
-/
import Derived.Test.YtfnjahjbpaoepaaGreatDoorOPut2
set_option linter.unusedVariables false
set_option linter.unusedSimpArgs false
set_option linter.unusedSectionVars false
set_option maxRecDepth 100000
namespace Go.Gk
def aged (d : Int) (r : T_api_Record) : T_api_Record := ⟨r.Name, r.Kind, r.Addr, r.To, r.Words, wi (r.Life - d)⟩
theorem setmap {α : Type} (f : α → α) : ∀ (l : List α) (i : Nat) (x : α), l[i]? = some x → ((l.take i).map f ++ l.drop i).set i (f x) = (l.take (i + 1)).map f ++ l.drop (i + 1)
  | [], i, x, h => by simp at h
  | a :: l, 0, x, h => by simp at h; subst h; simp
  | a :: l, i + 1, x, h => by simp at h; simpa using setmap f l i x h
theorem age_ok (l : List T_api_Record) (d : Int) (hl : l.length ≤ 1000) :
    (gd (decide ((l.length : Int) ≤ 9223372036854775807)) (rangeG (σ := List T_api_Record) (fun i17 s18 => bi (getZ s18 (i17 : Int)) fun x29 => bi (getZ s18 (i17 : Int)) fun x32 => some (s18.set ((i17 : Int).toNat) (⟨x32.Name, x32.Kind, x32.Addr, x32.To, x32.Words, wi (x29.Life - d)⟩ : T_api_Record))) (l.length : Int) l)) = some (l.map (aged d)) := by
  rw [decide_eq_true (show (l.length : Int) ≤ 9223372036854775807 by omega), gd_true]
  obtain ⟨r, h1, h2⟩ := rangeG_at (n := (l.length : Int)) (s := l) (f := fun i17 s18 => bi (getZ s18 (i17 : Int)) fun x29 => bi (getZ s18 (i17 : Int)) fun x32 => some (s18.set ((i17 : Int).toNat) (⟨x32.Name, x32.Kind, x32.Addr, x32.To, x32.Words, wi (x29.Life - d)⟩ : T_api_Record)))
    (fun i s => s = (l.take i).map (aged d) ++ l.drop i) (by simp) (by
      rintro i s hi rfl
      rw [Int.toNat_natCast] at hi
      have hx : l[i]? = some l[i] := List.getElem?_eq_getElem hi
      have e : ((l.take i).map (aged d) ++ l.drop i)[i]? = some l[i] := by
        rw [List.getElem?_append_right (by rw [List.length_map, List.length_take]; omega)]
        simp [Nat.min_eq_left (Nat.le_of_lt hi)]
      simp only [getZ_cast, e, bi_some, Int.toNat_natCast]
      exact ⟨_, rfl, setmap (aged d) l i l[i] hx⟩)
  rw [Int.toNat_natCast] at h2
  rw [h1, h2]
  simp
theorem ager_ok (l : List T_api_Record) (d : Int) (hl : l.length ≤ 1000) :
    rangeF (σ := List T_api_Record) (fun i33 x35 s34 => bi (apd s34 [(⟨x35.Name, x35.Kind, x35.Addr, x35.To, x35.Words, wi (x35.Life - d)⟩ : T_api_Record)]) fun y44 => some y44) 0 l ([] : List T_api_Record) = some (l.map (aged d)) := by
  obtain ⟨r, h1, h2⟩ := ok_rangeF (f := fun (i33 : Nat) (x35 : T_api_Record) (s34 : List T_api_Record) => bi (apd s34 [(⟨x35.Name, x35.Kind, x35.Addr, x35.To, x35.Words, wi (x35.Life - d)⟩ : T_api_Record)]) fun y44 => some y44) (l := l) (s := [])
    (fun i s => s = (l.take i).map (aged d)) (by simp) (fun i x s hx hs => by
      subst hs
      have hi := (List.getElem?_eq_some_iff.1 hx).1
      refine ok_app (by simp; omega) (ok_some ?_)
      rw [List.take_add_one, hx, List.map_append]; rfl)
  rw [h1, h2, List.take_length]
theorem eqRec_ok (s : List T_api_Record) (h : s.length ≤ 1000) : m_slices_Equal_api_Record_api_Record s s = some true := by
  unfold m_slices_Equal_api_Record_api_Record
  simp only [bne_self_eq_false, cond_false]
  obtain ⟨r, h1, h2⟩ := ok_rangeM (σ := Unit) (ρ := Bool) (l := s) (s := ()) (f := fun i3 x5 s4 => bi (getZ s (i3 : Int)) fun x14 => bif !(((x5.Name : Str) == x14.Name) && (((x5.Kind : Int) == x14.Kind) && ((((x5.Addr.Six : Bool) == x14.Addr.Six) && (((x5.Addr.Hi : Int) == x14.Addr.Hi) && (((x5.Addr.Lo : Int) == x14.Addr.Lo) && true))) && (((x5.To : Str) == x14.To) && (((x5.Words : Str) == x14.Words) && (((x5.Life : Int) == x14.Life) && true)))))) then (bi (some false) fun v => some (.out v)) else (some (.go ())))
    (fun _ _ => True) (fun _ => False) trivial (fun i x _ hx _ => by
      simp only [getZ_cast, hx, bi_some]
      refine ⟨.go (), ?_, trivial⟩
      simp)
  rw [h1]
  cases r with
  | go _ => rfl
  | out _ => exact h2.elim
/-- The entry that is asked for: in either list. -/
theorem find_two {c : Int} {p : List T_name_kept} {r : List T_laneref1_kept} (h : Keep c p r) (n : Str) (k : Int) :
    ((∀ x ∈ p, keyR n k (toR x) = false) ∧ ∀ x ∈ r, keyR n k x = false) ∨
    ∃ (i j : Nat) (x : T_name_kept), p[i]? = some x ∧ r[j]? = some (toR x) ∧ keyR n k (toR x) = true ∧ (∀ q ∈ p.take i, keyR n k (toR q) = false) ∧ (∀ q ∈ r.take j, keyR n k q = false) := by
  cases ha : p.any (fun x => keyR n k (toR x)) with
  | false =>
    have h1 : ∀ x ∈ p, keyR n k (toR x) = false := fun x hx => by have := List.any_eq_false.1 ha x hx; simpa using this
    refine .inl ⟨h1, fun x hx => ?_⟩
    obtain ⟨q, hq, rfl⟩ := List.mem_map.1 (h.pm.mem_iff.2 hx)
    exact h1 q hq
  | true =>
    obtain ⟨i, x, _, h2, h3, h4, h5⟩ := ixZ_some ha
    have hx : toR x ∈ r := h.pm.mem_iff.1 (List.mem_map.2 ⟨x, List.mem_of_getElem? h3, rfl⟩)
    have hb : r.any (keyR n k) = true := List.any_eq_true.2 ⟨_, hx, h4⟩
    obtain ⟨j, y, _, g2, g3, g4, g5⟩ := ixZ_some hb
    have hy : y = toR x := by
      obtain ⟨q, hq, rfl⟩ := List.mem_map.1 (h.pm.mem_iff.2 (List.mem_of_getElem? g3))
      congr 1
      have e1 : q.asking = x.asking := by
        have a1 := key_two q n k
        have a2 := key_two x n k
        rw [g4] at a1
        rw [h4] at a2
        rw [of_decide_eq_true a1, of_decide_eq_true a2]
      obtain ⟨a, ha1, ha2⟩ := List.getElem_of_mem hq
      have hb2 := (List.getElem?_eq_some_iff.1 h3)
      obtain ⟨hi, hi2⟩ := hb2
      refine Classical.byContradiction fun hne => ?_
      have hai : a ≠ i := fun e => by subst e; rw [ha2] at hi2; exact hne hi2
      have hnd := List.pairwise_iff_getElem.1 h.ks
      rcases Nat.lt_or_gt_of_ne hai with hlt | hlt
      · exact hnd a i (by simpa using ha1) (by simpa using hi) hlt (by simp [ha2, hi2, e1])
      · exact hnd i a (by simpa using hi) (by simpa using ha1) hlt (by simp [ha2, hi2, e1])
    subst hy
    exact .inr ⟨i, j, x, h3, g3, h4, fun q hq => by have := List.any_eq_false.1 h5 q hq; simpa using this, fun q hq => by have := List.any_eq_false.1 g5 q hq; simpa using this⟩
theorem setq_perm {α : Type} (l : List α) (i : Nat) (x y : α) (h : l[i]? = some x) : (x :: l.set i y).Perm (y :: l) := by
  obtain ⟨hi, e⟩ := List.getElem?_eq_some_iff.1 h
  have h1 : l = l.take i ++ x :: l.drop (i + 1) := by rw [← e, List.getElem_cons_drop, List.take_append_drop]
  have h2 : l.set i y = l.take i ++ y :: l.drop (i + 1) := by
    rw [List.set_eq_take_append_cons_drop, if_pos hi]
  rw [h2]
  conv => rhs; rw [h1]
  exact ((List.perm_middle.cons x).trans (List.Perm.swap y x _)).trans (List.perm_middle.symm.cons y)
theorem Keep.touch {c : Int} {p : List T_name_kept} {r : List T_laneref1_kept} (h : Keep c p r) {i j : Nat} {x : T_name_kept} (hi : p[i]? = some x) (hj : r[j]? = some (toR x)) (h0 : 0 ≤ c) :
    Keep (c + 1) (p.set i ⟨x.asking, x.put, x.life, c + 1, x.list⟩) (r.set j ⟨x.asking.name, x.asking.kind, x.put, x.put + x.life, x.list, c + 1⟩) where
  pm := by
    have a1 := setq_perm (p.map toR) i (toR x) (toR ⟨x.asking, x.put, x.life, c + 1, x.list⟩) (by rw [List.getElem?_map, hi]; rfl)
    have a2 := setq_perm r j (toR x) (toR ⟨x.asking, x.put, x.life, c + 1, x.list⟩) hj
    rw [← List.map_set] at a1
    exact (List.perm_cons _).1 ((a1.trans (h.pm.cons _)).trans a2.symm)
  el := fun y hy => by
    rcases List.mem_or_eq_of_mem_set hy with hy | rfl
    · exact (h.el y hy).up (by omega)
    · have k := h.el x (List.mem_of_getElem? hi)
      exact ⟨k.p0, k.p1, k.l0, k.l1, by simp only; omega, Int.le_refl _, k.nm, k.ln⟩
  ks := by
    rw [List.map_set]
    have : (p.map (·.asking)).set i x.asking = p.map (·.asking) := by
      have hl : i < (p.map (·.asking)).length := by have := (List.getElem?_eq_some_iff.1 hi).1; simpa using this
      have e : (p.map (·.asking))[i] = x.asking := by have := (List.getElem?_eq_some_iff.1 hi).2; simp [this]
      rw [← e, List.set_getElem_self]
    rw [this]
    exact h.ks
  us := by
    rw [List.map_set]
    have hnin : c + 1 ∉ p.map (·.used) := fun hm => by
      obtain ⟨y, hy, e⟩ := List.mem_map.1 hm
      have := (h.el y hy).u1
      omega
    have hn := h.us
    generalize p.map (·.used) = us at hnin hn
    have key : ∀ (us : List Int) (i : Nat), us.Nodup → c + 1 ∉ us → (us.set i (c + 1)).Nodup := by
      intro us
      induction us with
      | nil => intro i _ _; simp
      | cons a us ih =>
        intro i h1 h2
        rw [List.nodup_cons] at h1
        simp only [List.mem_cons, not_or] at h2
        cases i with
        | zero => rw [List.set_cons_zero, List.nodup_cons]; exact ⟨h2.2, h1.2⟩
        | succ i =>
          rw [List.set_cons_succ, List.nodup_cons]
          refine ⟨fun hm => ?_, ih i h1.2 h2.2⟩
          rcases List.mem_or_eq_of_mem_set hm with hm | hm
          · exact h1.1 hm
          · exact h2.1 hm.symm
    exact key _ i hn hnin
end Go.Gk
