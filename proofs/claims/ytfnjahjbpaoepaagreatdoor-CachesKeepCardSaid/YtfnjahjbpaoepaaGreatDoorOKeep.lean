/-
  CachesKeep, the plain law: how the two caches stand to each other; what does not last goes.
-/
import Derived.Test.YtfnjahjbpaoepaaGreatDoorOSort
set_option linter.unusedVariables false
set_option linter.unusedSimpArgs false
set_option linter.unusedSectionVars false
set_option maxRecDepth 100000
namespace Go.Gk
def toR (p : T_name_kept) : T_laneref1_kept := ⟨p.asking.name, p.asking.kind, p.put, p.put + p.life, p.list, p.used⟩
structure KIn (calls : Int) (p : T_name_kept) : Prop where
  p0 : 0 ≤ p.put
  p1 : p.put ≤ 345686400
  l0 : 0 ≤ p.life
  l1 : p.life ≤ 1000000
  u0 : 0 ≤ p.used
  u1 : p.used ≤ calls
  nm : p.asking.name.length ≤ 300
  ln : p.list.length ≤ 50
structure Keep (calls : Int) (p : List T_name_kept) (r : List T_laneref1_kept) : Prop where
  pm : (p.map toR).Perm r
  el : ∀ x ∈ p, KIn calls x
  ks : (p.map (·.asking)).Nodup
  us : (p.map (·.used)).Nodup
theorem KIn.up {c c' : Int} {x : T_name_kept} (h : KIn c x) (hc : c ≤ c') : KIn c' x := { h with u1 := Int.le_trans h.u1 hc }
theorem Keep.up {c c' : Int} {p : List T_name_kept} {r : List T_laneref1_kept} (h : Keep c p r) (hc : c ≤ c') : Keep c' p r := { h with el := fun x hx => (h.el x hx).up hc }
theorem Keep.len {c : Int} {p : List T_name_kept} {r : List T_laneref1_kept} (h : Keep c p r) : r.length = p.length := by have := h.pm.length_eq; simpa using this.symm
theorem filter_map_eq {α β : Type} (f : α → β) {P : α → Bool} {R : β → Bool} : ∀ {l : List α}, (∀ x ∈ l, P x = R (f x)) → (l.filter P).map f = (l.map f).filter R
  | [], _ => rfl
  | a :: l, h => by
    have ih := filter_map_eq f (l := l) fun x hx => h x (List.mem_cons_of_mem _ hx)
    have ha := h a List.mem_cons_self
    simp only [List.filter_cons, List.map_cons, ← ha]
    cases P a with
    | true => simp [ih]
    | false => simp [ih]
theorem Keep.filter {c : Int} {p : List T_name_kept} {r : List T_laneref1_kept} (h : Keep c p r) {P : T_name_kept → Bool} {R : T_laneref1_kept → Bool} (hPR : ∀ x ∈ p, P x = R (toR x)) : Keep c (p.filter P) (r.filter R) where
  pm := by rw [filter_map_eq toR hPR]; exact h.pm.filter R
  el := fun x hx => h.el x (List.mem_filter.1 hx).1
  ks := h.ks.sublist (List.filter_sublist.map _)
  us := h.us.sublist (List.filter_sublist.map _)
/-! ### DeleteFunc -/
theorem idx1_ok (l : List T_name_kept) (z : Int) (hl : l.length ≤ 100) : m_slices_IndexFunc_name_kept_name_kept l z = some (ixZ (fun x => decide (wi (z - x.put) ≥ x.life)) l) := by
  unfold m_slices_IndexFunc_name_kept_name_kept
  rw [decide_eq_true (show (l.length : Int) ≤ 9223372036854775807 by omega), gd_true, bi_rangeI_ix (fun x : T_name_kept => decide (wi (z - x.put) ≥ x.life)) l]
  intro j x hx
  simp only [getZ_cast, hx, bi_some, m_name_Cache_pass_1]
  cases decide (wi (z - x.put) ≥ x.life) <;> rfl
theorem del1_ok (l : List T_name_kept) (z : Int) (hl : l.length ≤ 100) : m_slices_DeleteFunc_name_kept_name_kept 400 l z = some (l.filter fun x => !decide (wi (z - x.put) ≥ x.life)) := by
  unfold m_slices_DeleteFunc_name_kept_name_kept
  rw [idx1_ok l z hl]
  simp only [bi_some]
  rw [del_ok (fun x : T_name_kept => decide (wi (z - x.put) ≥ x.life)) (fun x => m_name_Cache_pass_1 x z) l 400 (fun x _ => rfl) (by omega) (by omega)]
theorem idx1r_ok (l : List T_laneref1_kept) (z : Int) (hl : l.length ≤ 100) : m_slices_IndexFunc_laneref1_kept_laneref1_kept l z = some (ixZ (fun x => decide (z ≥ x.v_end)) l) := by
  unfold m_slices_IndexFunc_laneref1_kept_laneref1_kept
  rw [decide_eq_true (show (l.length : Int) ≤ 9223372036854775807 by omega), gd_true, bi_rangeI_ix (fun x : T_laneref1_kept => decide (z ≥ x.v_end)) l]
  intro j x hx
  simp only [getZ_cast, hx, bi_some, m_laneref1_Cache_drop_1]
  cases decide (z ≥ x.v_end) <;> rfl
theorem del1r_ok (l : List T_laneref1_kept) (z : Int) (hl : l.length ≤ 100) : m_slices_DeleteFunc_laneref1_kept_laneref1_kept 400 l z = some (l.filter fun x => !decide (z ≥ x.v_end)) := by
  unfold m_slices_DeleteFunc_laneref1_kept_laneref1_kept
  rw [idx1r_ok l z hl]
  simp only [bi_some]
  rw [del_ok (fun x : T_laneref1_kept => decide (z ≥ x.v_end)) (fun x => m_laneref1_Cache_drop_1 x z) l 400 (fun x _ => rfl) (by omega) (by omega)]
theorem idx2_ok (l : List T_name_kept) (z : T_name_asking) (hl : l.length ≤ 100) : m_slices_IndexFunc_name_kept_name_kept_2 l z = some (ixZ (fun x => decide (x.asking = z)) l) := by
  unfold m_slices_IndexFunc_name_kept_name_kept_2
  rw [decide_eq_true (show (l.length : Int) ≤ 9223372036854775807 by omega), gd_true, bi_rangeI_ix (fun x : T_name_kept => decide (x.asking = z)) l]
  intro j x hx
  have e : m_name_Cache_Put_1 x z = some (decide (x.asking = z)) := by
    unfold m_name_Cache_Put_1
    congr 1
    rw [Bool.eq_iff_iff]
    obtain ⟨⟨n, k⟩, _, _, _, _⟩ := x
    obtain ⟨n2, k2⟩ := z
    simp
  simp only [getZ_cast, hx, bi_some, e]
  cases decide (x.asking = z) <;> rfl
theorem put1_ok (x : T_name_kept) (z : T_name_asking) : m_name_Cache_Put_1 x z = some (decide (x.asking = z)) := by
  unfold m_name_Cache_Put_1
  congr 1
  rw [Bool.eq_iff_iff]
  obtain ⟨⟨n, k⟩, _, _, _, _⟩ := x
  obtain ⟨n2, k2⟩ := z
  simp
theorem del2_ok (l : List T_name_kept) (z : T_name_asking) (hl : l.length ≤ 100) : m_slices_DeleteFunc_name_kept_name_kept_2 400 l z = some (l.filter fun x => !decide (x.asking = z)) := by
  unfold m_slices_DeleteFunc_name_kept_name_kept_2
  rw [idx2_ok l z hl]
  simp only [bi_some]
  rw [del_ok (fun x : T_name_kept => decide (x.asking = z)) (fun x => m_name_Cache_Put_1 x z) l 400 (fun x _ => put1_ok x z) (by omega) (by omega)]
def keyR (n : Str) (k : Int) (x : T_laneref1_kept) : Bool := (x.name == n) && (x.kind == k)
theorem idx2r_ok (l : List T_laneref1_kept) (n : Str) (k : Int) (hl : l.length ≤ 100) : m_slices_IndexFunc_laneref1_kept_laneref1_kept_2 l n k = some (ixZ (keyR n k) l) := by
  unfold m_slices_IndexFunc_laneref1_kept_laneref1_kept_2
  rw [decide_eq_true (show (l.length : Int) ≤ 9223372036854775807 by omega), gd_true, bi_rangeI_ix (keyR n k) l]
  intro j x hx
  simp only [getZ_cast, hx, bi_some, m_laneref1_Cache_Put_1]
  show (bif keyR n k x then _ else _) = _
  cases keyR n k x <;> rfl
theorem del2r_ok (l : List T_laneref1_kept) (n : Str) (k : Int) (hl : l.length ≤ 100) : m_slices_DeleteFunc_laneref1_kept_laneref1_kept_2 400 l n k = some (l.filter fun x => !keyR n k x) := by
  unfold m_slices_DeleteFunc_laneref1_kept_laneref1_kept_2
  rw [idx2r_ok l n k hl]
  simp only [bi_some]
  rw [del_ok (keyR n k) (fun x => m_laneref1_Cache_Put_1 x n k) l 400 (fun x _ => rfl) (by omega) (by omega)]
theorem key_two (x : T_name_kept) (n : Str) (k : Int) : decide (x.asking = ⟨n, k⟩) = keyR n k (toR x) := by
  rw [Bool.eq_iff_iff]
  obtain ⟨⟨n1, k1⟩, _, _, _, _⟩ := x
  simp [keyR, toR]
/-! ### What does not last goes -/
theorem pass_two {p : List T_name_kept} {r : List T_laneref1_kept} {most calls now z : Int} (h : Keep calls p r) (hp : p.length ≤ 50) (hz : 0 ≤ z) (hz1 : z ≤ 345686400) (hc : 0 ≤ calls) (hc1 : calls ≤ 1000) :
    ∃ p' r', m_name_Cache_pass 400 ⟨most, now, calls, p⟩ z = some ⟨most, z, calls + 1, p'⟩ ∧ m_laneref1_Cache_drop 400 ⟨most, now, calls, r⟩ z = some ⟨most, z, calls + 1, r'⟩ ∧ Keep calls p' r' ∧ p'.length ≤ p.length := by
  have hr := h.len
  refine ⟨_, _, ?_, ?_, h.filter (P := fun x => !decide (wi (z - x.put) ≥ x.life)) (R := fun x => !decide (z ≥ x.v_end)) fun x hx => ?_, List.length_filter_le _ _⟩
  · unfold m_name_Cache_pass
    rw [del1_ok _ _ (by simp only; omega), bi_some, wi_id (by simp only; omega) (by simp only; omega)]
  · unfold m_laneref1_Cache_drop
    rw [del1r_ok _ _ (by simp only; omega), bi_some, wi_id (by simp only; omega) (by simp only; omega)]
  · have k := h.el x hx
    have h0 := k.p0; have h1 := k.p1; have h2 := k.l0; have h3 := k.l1
    rw [wi_id (by omega) (by omega)]
    show (!decide (z - x.put ≥ x.life)) = !decide (z ≥ x.put + x.life)
    congr 1
    rw [Bool.eq_iff_iff, decide_eq_true_iff, decide_eq_true_iff]
    omega
/-! ### What is wrong with a moment -/
def timF (now z : Int) : Int := if 0 ≤ z ∧ z < 345686400 then if z < now then 7 else 0 else 1
theorem time_ok (c : T_name_Cache) (z : Int) : m_name_Cache_timeFault c z = some (timF c.now z) := by
  unfold m_name_Cache_timeFault m_kit_IsMoment timF
  simp only [bi_some]
  by_cases h : 0 ≤ z ∧ z < 345686400
  · rw [if_pos h, decide_eq_true (show z ≥ 0 from h.1), decide_eq_true h.2]
    by_cases h2 : z < c.now <;> simp [h2]
  · rw [if_neg h]
    have : (decide (z ≥ 0) && decide (z < 345686400)) = false := by rw [Bool.eq_false_iff]; intro e; simp at e; exact h e
    rw [this]; rfl
theorem call_ok (c : T_laneref1_Cache) (z : Int) (n : Str) (hn : n.length ≤ 1000000) : m_laneref1_Cache_callFault c z n = some (if timF c.now z = 0 then domF n else timF c.now z) := by
  unfold m_laneref1_Cache_callFault m_laneref2_Moment m_laneref2_in timF
  simp only [bi_some]
  by_cases h : 0 ≤ z ∧ z < 345686400
  · rw [if_pos h, decide_eq_true h.1, decide_eq_true (show z ≤ 345686399 by omega)]
    by_cases h2 : z < c.now
    · simp [h2]
    · simp [h2, fault_ok n hn]
  · rw [if_neg h]
    have : (decide (0 ≤ z) && decide (z ≤ 345686399)) = false := by rw [Bool.eq_false_iff]; intro e; simp at e; exact h (by omega)
    rw [this]; rfl
theorem timF_zero {now z : Int} (h : timF now z = 0) : 0 ≤ z ∧ z < 345686400 ∧ ¬ z < now := by
  unfold timF at h
  split at h
  · rename_i h1
    split at h
    · cases h
    · exact ⟨h1.1, h1.2, by assumption⟩
  · cases h
end Go.Gk
