/-
  CachesKeep, the plain law: what each call does to both caches.
-/
import Derived.Test.YtfnjahjbpaoepaaGreatDoorOGet
set_option linter.unusedVariables false
set_option linter.unusedSimpArgs false
set_option linter.unusedSectionVars false
set_option maxRecDepth 100000
namespace Go.Gk
theorem idx3_ok (l : List T_name_kept) (n : Str) (k : Int) (hl : l.length ≤ 100) : m_slices_IndexFunc_name_kept_name_kept_3 l n k = some (ixZ (fun x => keyR n k (toR x)) l) := by
  unfold m_slices_IndexFunc_name_kept_name_kept_3
  rw [decide_eq_true (show (l.length : Int) ≤ 9223372036854775807 by omega), gd_true, bi_rangeI_ix (fun x : T_name_kept => keyR n k (toR x)) l]
  intro j x hx
  have e : m_name_Cache_Get_1 x n k = some (keyR n k (toR x)) := by
    unfold m_name_Cache_Get_1 keyR toR
    simp
  simp only [getZ_cast, hx, bi_some, e]
  cases keyR n k (toR x) <;> rfl
theorem ixZ_at {α : Type} {p : α → Bool} {l : List α} {i : Nat} {x : α} (h1 : l[i]? = some x) (h2 : p x = true) (h3 : ∀ q ∈ l.take i, p q = false) : ixZ p l = (i : Int) := by
  have ha : l.any p = true := List.any_eq_true.2 ⟨x, List.mem_of_getElem? h1, h2⟩
  obtain ⟨j, y, e, _, g1, g2, g3⟩ := ixZ_some ha
  rw [e]
  congr 1
  rcases Nat.lt_trichotomy j i with hlt | rfl | hlt
  · have hy : y ∈ l.take i := List.mem_of_getElem? (by rw [List.getElem?_take_of_lt hlt]; exact g1)
    rw [h3 y hy] at g2; cases g2
  · rfl
  · have hx : x ∈ l.take j := List.mem_of_getElem? (by rw [List.getElem?_take_of_lt hlt]; exact h1)
    have := List.any_eq_false.1 g3 x hx
    exact absurd h2 this
theorem get_two {c : Int} {x : T_name_Cache} {y : T_laneref1_Cache} (h : CC2 c x y) (hc : c ≤ 90) (z : Int) (n : Str) (hn : n.length ≤ 300) (k : Int) :
    ∃ o b e x' y' c', m_name_Cache_Get 400 x z n k = some (o, b, e, x') ∧ m_laneref1_Cache_Get 400 y z n k = some (o, b, e, y') ∧ o.length ≤ 1000 ∧ CC2 c' x' y' ∧ c' ≤ c + 1 := by
  unfold m_name_Cache_Get m_laneref1_Cache_Get
  rw [name_ok x z n k (by omega), bi_some, ref_fault y z n k (by omega) (fun e => some ([], false, e, y)), ← h.no]
  by_cases hf : nF x.now z n k = 0
  rotate_left
  · rw [if_neg hf, fault_nF hf]
    exact ⟨_, _, _, x, y, c, rfl, rfl, by simp, h, by omega⟩
  rw [if_pos hf, hf]
  obtain ⟨z0, z1, z2⟩ := nF_zero hf
  simp only [bne_self_eq_false, cond_false]
  obtain ⟨most, now, calls, p⟩ := x
  obtain ⟨most', now', calls', r⟩ := y
  obtain ⟨kp, mo, no, ca, cb, ln, m0, m1, c0, c1⟩ := h
  simp only at kp mo no ca cb ln m0 m1 z2
  subst mo; subst no; subst ca; subst cb
  obtain ⟨p1, r1, g1, g2, g3, g4⟩ := pass_two (most := most) (now := now) kp (by omega) z0 (by omega) c0 (by omega)
  rw [g1, g2, bi_some, bi_some]
  simp only
  have hl1 : p1.length ≤ 3 := by omega
  have hlr := g3.len
  rw [idx3_ok p1 n k (by omega), bi_some, hlr, decide_eq_true (show (p1.length : Int) ≤ 9223372036854775807 by omega), gd_true, ← hlr]
  rcases find_two g3 n k with ⟨h1, h2⟩ | ⟨i, j, x, hi, hj, hx, h1, h2⟩
  · have e1 : ixZ (fun x => keyR n k (toR x)) p1 = -1 := ixZ_none (List.any_eq_false.2 fun x hx => by rw [h1 x hx]; simp)
    rw [e1]
    have e2 : rangeI (σ := Unit) (ρ := (List T_api_Record) × Bool × Int × T_laneref1_Cache) (fun i13 s14 => bi (getZ r1 (i13 : Int)) fun x25 => bif ((!((x25.name : Str) == n)) || ((x25.kind : Int) != k)) then (some (.go ())) else (bi (getZ r1 (i13 : Int)) fun x30 => bi (rangeF (σ := List T_api_Record) (fun i33 x35 s34 => bi (apd s34 [(⟨x35.Name, x35.Kind, x35.Addr, x35.To, x35.Words, wi (x35.Life - (wi (z - x25.v_at)))⟩ : T_api_Record)]) fun y44 => some y44) 0 x25.l ([] : List T_api_Record)) fun q36 => bi (some (q36, true, 0, (⟨most, z, calls' + 1, r1.set ((i13 : Int).toNat) (⟨x30.name, x30.kind, x30.v_at, x30.v_end, x30.l, calls' + 1⟩ : T_laneref1_kept)⟩ : T_laneref1_Cache))) fun v => some (.out v))) (r1.length : Int) () = some (.go ()) := by
      obtain ⟨q, q1, q2⟩ := ok_rangeM (σ := Unit) (ρ := (List T_api_Record) × Bool × Int × T_laneref1_Cache) (l := r1) (s := ()) (f := fun i x25 _ => some (.go ())) (fun _ _ => True) (fun _ => False) trivial (fun i x _ _ _ => ⟨_, rfl, trivial⟩)
      rw [rangeI_L (g := fun i x25 _ => some (.go ())) r1 (fun j x s hx => by
        have := h2 x (List.mem_of_getElem? hx)
        unfold keyR at this
        simp only [getZ_cast, hx, bi_some]
        rw [show ((!((x.name : Str) == n)) || ((x.kind : Int) != k)) = true by
          show ((!(x.name == n)) || !(x.kind == k)) = true
          rw [← Bool.not_and, this]; rfl]
        rfl), q1]
      cases q with
      | go _ => rfl
      | out _ => exact q2.elim
    rw [e2]
    refine ⟨_, _, _, _, _, calls' + 1, rfl, rfl, by simp, ⟨g3.up (by omega), rfl, rfl, rfl, rfl, by simp only; omega, m0, m1, by omega, by omega⟩, by omega⟩
  · have e1 := ixZ_at (p := fun x => keyR n k (toR x)) hi hx h1
    have hix := (List.getElem?_eq_some_iff.1 hi).1
    have hjx := (List.getElem?_eq_some_iff.1 hj).1
    have hk := g3.el x (List.mem_of_getElem? hi)
    have hln := hk.ln
    rw [e1, decide_eq_false (show ¬ (i : Int) < 0 by omega), cond_false, getZ_cast, hi, bi_some]
    rw [clone_ok _ (by omega), bi_some, age_ok _ _ (by omega), bi_some]
    have e2 : rangeI (σ := Unit) (ρ := (List T_api_Record) × Bool × Int × T_laneref1_Cache) (fun i13 s14 => bi (getZ r1 (i13 : Int)) fun x25 => bif ((!((x25.name : Str) == n)) || ((x25.kind : Int) != k)) then (some (.go ())) else (bi (getZ r1 (i13 : Int)) fun x30 => bi (rangeF (σ := List T_api_Record) (fun i33 x35 s34 => bi (apd s34 [(⟨x35.Name, x35.Kind, x35.Addr, x35.To, x35.Words, wi (x35.Life - (wi (z - x25.v_at)))⟩ : T_api_Record)]) fun y44 => some y44) 0 x25.l ([] : List T_api_Record)) fun q36 => bi (some (q36, true, 0, (⟨most, z, calls' + 1, r1.set ((i13 : Int).toNat) (⟨x30.name, x30.kind, x30.v_at, x30.v_end, x30.l, calls' + 1⟩ : T_laneref1_kept)⟩ : T_laneref1_Cache))) fun v => some (.out v))) (r1.length : Int) () = some (.out (x.list.map (aged (wi (z - x.put))), true, 0, (⟨most, z, calls' + 1, r1.set j ⟨x.asking.name, x.asking.kind, x.put, x.put + x.life, x.list, calls' + 1⟩⟩ : T_laneref1_Cache))) := by
      have hgen : ∀ (m : List T_laneref1_kept) (a : Nat) (b : Nat) (F : Nat → T_laneref1_kept → Unit → Option (LS Unit ((List T_api_Record) × Bool × Int × T_laneref1_Cache))) (v : (List T_api_Record) × Bool × Int × T_laneref1_Cache), (∀ (q : Nat) x, q < b → m[q]? = some x → F (a + q) x () = some (.go ())) → (∀ x, m[b]? = some x → F (a + b) x () = some (.out v)) → b < m.length → rangeM F a m () = some (.out v) := by
        intro m
        induction m with
        | nil => intro a b F v _ _ hb; exact absurd hb (Nat.not_lt_zero _)
        | cons w m ih =>
          intro a b F v ha hb hlt
          cases b with
          | zero => have := hb w (by simp); simp only [Nat.add_zero] at this; simp only [rangeM, this]
          | succ b =>
            have h0 := ha 0 w (by omega) (by simp)
            simp only [Nat.add_zero] at h0
            simp only [rangeM, h0]
            exact ih (a + 1) b F v (fun q x hq hx => by rw [show a + 1 + q = a + (q + 1) by omega]; exact ha (q + 1) x (by omega) (by simpa using hx)) (fun x hx => by rw [show a + 1 + b = a + (b + 1) by omega]; exact hb x (by simpa using hx)) (by simpa using hlt)
      rw [rangeI_L (g := fun i13 x25 _ => bif ((!((x25.name : Str) == n)) || ((x25.kind : Int) != k)) then (some (.go ())) else (bi (rangeF (σ := List T_api_Record) (fun i33 x35 s34 => bi (apd s34 [(⟨x35.Name, x35.Kind, x35.Addr, x35.To, x35.Words, wi (x35.Life - (wi (z - x25.v_at)))⟩ : T_api_Record)]) fun y44 => some y44) 0 x25.l ([] : List T_api_Record)) fun q36 => bi (some (q36, true, 0, (⟨most, z, calls' + 1, r1.set ((i13 : Int).toNat) (⟨x25.name, x25.kind, x25.v_at, x25.v_end, x25.l, calls' + 1⟩ : T_laneref1_kept)⟩ : T_laneref1_Cache))) fun v => some (.out v))) r1 (fun j x s hx => by simp only [getZ_cast, hx, bi_some])]
      refine hgen r1 0 j _ _ (fun q w hq hw => ?_) (fun w hw => ?_) hjx
      · have hm : w ∈ r1.take j := List.mem_of_getElem? (by rw [List.getElem?_take_of_lt hq]; exact hw)
        have := h2 w hm
        unfold keyR at this
        rw [show ((!((w.name : Str) == n)) || ((w.kind : Int) != k)) = true by
          show ((!(w.name == n)) || !(w.kind == k)) = true
          rw [← Bool.not_and, this]; rfl]
        rfl
      · rw [hj] at hw
        cases hw
        unfold keyR at hx
        rw [show ((!(((toR x).name : Str) == n)) || (((toR x).kind : Int) != k)) = false by
          show ((!((toR x).name == n)) || !((toR x).kind == k)) = false
          rw [← Bool.not_and, hx]; rfl]
        simp only [cond_false]
        rw [show (toR x).l = x.list from rfl, show (toR x).v_at = x.put from rfl, ager_ok _ _ (by omega), bi_some, bi_some, Nat.zero_add, Int.toNat_natCast]
        rfl
    rw [e2]
    refine ⟨_, _, _, _, _, calls' + 1, rfl, rfl, by simp; omega, ⟨?_, rfl, rfl, rfl, rfl, by simp only [List.length_set]; omega, m0, m1, by omega, by omega⟩, by omega⟩
    simp only [Int.toNat_natCast]
    exact g3.touch hi hj c0
theorem under2_ok (n z : Str) (h1 : n.length ≤ 1000000) (h2 : z.length ≤ 1000000) : ∃ b, m_name_under n z = some b ∧ m_laneref1_IsUnder n z = some b := by
  obtain ⟨b, hb, _⟩ := under_ok n z h1 h2
  exact ⟨b, hb, hb⟩
noncomputable def undB (z n : Str) : Bool := (m_name_under n z).getD false
theorem undB_ok (n z : Str) (h1 : n.length ≤ 1000000) (h2 : z.length ≤ 1000000) : m_name_under n z = some (undB z n) ∧ m_laneref1_IsUnder n z = some (undB z n) := by
  obtain ⟨b, e1, e2⟩ := under2_ok n z h1 h2
  unfold undB
  rw [e1, e2]
  exact ⟨rfl, rfl⟩
theorem del3_ok (l : List T_name_kept) (z : Str) (hl : l.length ≤ 100) (hz : z.length ≤ 300) (hn : ∀ x ∈ l, x.asking.name.length ≤ 300) : m_slices_DeleteFunc_name_kept_name_kept_3 400 l z = some (l.filter fun x => !undB z x.asking.name) := by
  have h1 : ∀ x ∈ l, m_name_Cache_Drop_1 x z = some (undB z x.asking.name) := fun x hx => by
    unfold m_name_Cache_Drop_1
    rw [(undB_ok _ _ (by have := hn x hx; omega) (by omega)).1]; rfl
  have hix : m_slices_IndexFunc_name_kept_name_kept_4 l z = some (ixZ (fun x => undB z x.asking.name) l) := by
    unfold m_slices_IndexFunc_name_kept_name_kept_4
    rw [decide_eq_true (show (l.length : Int) ≤ 9223372036854775807 by omega), gd_true, bi_rangeI_ix (fun x : T_name_kept => undB z x.asking.name) l]
    intro j x hx
    simp only [getZ_cast, hx, bi_some, h1 x (List.mem_of_getElem? hx)]
    cases undB z x.asking.name <;> rfl
  unfold m_slices_DeleteFunc_name_kept_name_kept_3
  rw [hix]
  simp only [bi_some]
  rw [del_ok (fun x : T_name_kept => undB z x.asking.name) (fun x => m_name_Cache_Drop_1 x z) l 400 h1 (by omega) (by omega)]
theorem del3r_ok (l : List T_laneref1_kept) (z : Str) (hl : l.length ≤ 100) (hz : z.length ≤ 300) (hn : ∀ x ∈ l, x.name.length ≤ 300) : m_slices_DeleteFunc_laneref1_kept_laneref1_kept_3 400 l z = some (l.filter fun x => !undB z x.name) := by
  have h1 : ∀ x ∈ l, m_laneref1_Cache_Drop_1 x z = some (undB z x.name) := fun x hx => by
    unfold m_laneref1_Cache_Drop_1
    rw [(undB_ok _ _ (by have := hn x hx; omega) (by omega)).2]; rfl
  have hix : m_slices_IndexFunc_laneref1_kept_laneref1_kept_3 l z = some (ixZ (fun x => undB z x.name) l) := by
    unfold m_slices_IndexFunc_laneref1_kept_laneref1_kept_3
    rw [decide_eq_true (show (l.length : Int) ≤ 9223372036854775807 by omega), gd_true, bi_rangeI_ix (fun x : T_laneref1_kept => undB z x.name) l]
    intro j x hx
    simp only [getZ_cast, hx, bi_some, h1 x (List.mem_of_getElem? hx)]
    cases undB z x.name <;> rfl
  unfold m_slices_DeleteFunc_laneref1_kept_laneref1_kept_3
  rw [hix]
  simp only [bi_some]
  rw [del_ok (fun x : T_laneref1_kept => undB z x.name) (fun x => m_laneref1_Cache_Drop_1 x z) l 400 h1 (by omega) (by omega)]
theorem drop_two {c : Int} {x : T_name_Cache} {y : T_laneref1_Cache} (h : CC2 c x y) (hc : c ≤ 90) (z : Int) (n : Str) (hn : n.length ≤ 300) :
    ∃ o e x' y' c', m_name_Cache_Drop 400 x z n = some (o, e, x') ∧ m_laneref1_Cache_Drop 400 y z n = some (o, e, y') ∧ CC2 c' x' y' ∧ c' ≤ c + 1 := by
  unfold m_name_Cache_Drop m_laneref1_Cache_Drop
  rw [time_ok, bi_some, call_ok y z n (by omega), bi_some, ← h.no]
  by_cases ht : timF x.now z = 0
  rotate_left
  · rw [if_neg ht, show (timF x.now z != 0) = true from bne_iff_ne.2 ht]
    exact ⟨_, _, x, y, c, rfl, rfl, h, by omega⟩
  rw [if_pos ht, ht]
  simp only [bne_self_eq_false, cond_false]
  rw [check_ok 398 n (by omega), bi_some]
  by_cases hd : domF n = 0
  rotate_left
  · rw [show (domF n != 0) = true from bne_iff_ne.2 hd]
    exact ⟨_, _, x, y, c, rfl, rfl, h, by omega⟩
  rw [hd]
  simp only [bne_self_eq_false, cond_false]
  obtain ⟨z0, z1, z2⟩ := timF_zero ht
  obtain ⟨most, now, calls, p⟩ := x
  obtain ⟨most', now', calls', r⟩ := y
  obtain ⟨kp, mo, no, ca, cb, ln, m0, m1, c0, c1⟩ := h
  simp only at kp mo no ca cb ln m0 m1 z2
  subst mo; subst no; subst ca; subst cb
  obtain ⟨p1, r1, g1, g2, g3, g4⟩ := pass_two (most := most) (now := now) kp (by omega) z0 (by omega) c0 (by omega)
  rw [g1, g2, bi_some, bi_some]
  simp only
  have hlr := g3.len
  rw [del3_ok p1 n (by omega) hn (fun x hx => (g3.el x hx).nm), del3r_ok r1 n (by omega) hn (fun x hx => by
    obtain ⟨q, hq, rfl⟩ := List.mem_map.1 (g3.pm.mem_iff.2 hx)
    exact (g3.el q hq).nm), bi_some, bi_some]
  have hk := g3.filter (P := fun x => !undB n x.asking.name) (R := fun x => !undB n x.name) fun x _ => rfl
  have hl2 := hk.len
  rw [hl2, hlr]
  have := List.length_filter_le (fun x : T_name_kept => !undB n x.asking.name) p1
  refine ⟨_, _, _, _, calls' + 1, rfl, rfl, ⟨hk.up (by omega), rfl, rfl, rfl, rfl, by simp only; omega, m0, m1, by omega, by omega⟩, by omega⟩
theorem many_two {c : Int} {x : T_name_Cache} {y : T_laneref1_Cache} (h : CC2 c x y) (hc : c ≤ 90) (z : Int) :
    ∃ o e x' y' c', m_name_Cache_Many 400 x z = some (o, e, x') ∧ m_laneref1_Cache_Many 400 y z = some (o, e, y') ∧ CC2 c' x' y' ∧ c' ≤ c + 1 := by
  unfold m_name_Cache_Many m_laneref1_Cache_Many
  rw [time_ok, bi_some, call_ok y z [120] (by simp), bi_some, ← h.no, show domF [120] = 0 by rfl]
  by_cases ht : timF x.now z = 0
  rotate_left
  · rw [if_neg ht, show (timF x.now z != 0) = true from bne_iff_ne.2 ht]
    exact ⟨_, _, x, y, c, rfl, rfl, h, by omega⟩
  rw [if_pos ht, ht]
  simp only [bne_self_eq_false, cond_false]
  obtain ⟨z0, z1, z2⟩ := timF_zero ht
  obtain ⟨most, now, calls, p⟩ := x
  obtain ⟨most', now', calls', r⟩ := y
  obtain ⟨kp, mo, no, ca, cb, ln, m0, m1, c0, c1⟩ := h
  simp only at kp mo no ca cb ln m0 m1 z2
  subst mo; subst no; subst ca; subst cb
  obtain ⟨p1, r1, g1, g2, g3, g4⟩ := pass_two (most := most) (now := now) kp (by omega) z0 (by omega) c0 (by omega)
  rw [g1, g2, bi_some, bi_some]
  simp only
  rw [g3.len]
  exact ⟨_, _, _, _, calls' + 1, rfl, rfl, ⟨g3.up (by omega), rfl, rfl, rfl, rfl, by simp only; omega, m0, m1, by omega, by omega⟩, by omega⟩
end Go.Gk
