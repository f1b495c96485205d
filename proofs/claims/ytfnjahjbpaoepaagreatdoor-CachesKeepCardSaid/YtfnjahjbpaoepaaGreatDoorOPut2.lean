/-
  CachesKeep, the plain law: Put and Get.
-/
import Derived.Test.YtfnjahjbpaoepaaGreatDoorOPut
set_option linter.unusedVariables false
set_option linter.unusedSimpArgs false
set_option linter.unusedSectionVars false
set_option maxRecDepth 100000
namespace Go.Gk
/-- How two caches stand to each other. -/
structure CC2 (c : Int) (x : T_name_Cache) (y : T_laneref1_Cache) : Prop where
  kp : Keep c x.list y.l
  mo : x.most = y.most
  no : x.now = y.now
  ca : x.calls = c
  cb : y.calls = c
  ln : (x.list.length : Int) ≤ x.most
  m0 : 1 ≤ x.most
  m1 : x.most ≤ 3
  c0 : 0 ≤ c
  c1 : c ≤ 100
theorem bif_ne {b : Bool} {m : Option Int} {x : Int} (h : (bif b then some x else m) = some 0) (hx : x ≠ 0) : m = some 0 := by
  cases b with
  | true => exact absurd (Option.some.inj h) hx
  | false => exact h
theorem life_ok (r : T_api_Record) (h : m_name_recordFault 400 r = some 0) : 0 ≤ r.Life ∧ r.Life ≤ 1000000 := by
  refine Classical.byContradiction fun hn => ?_
  have ho : m_kit_Outside r.Life 0 1000000 = some true := by
    unfold m_kit_Outside
    congr 1
    rw [Bool.eq_iff_iff]
    simp
    omega
  unfold m_name_recordFault at h
  rw [ho] at h
  obtain ⟨_, _, h⟩ := bi_ok h
  obtain ⟨_, _, h⟩ := bi_ok h
  replace h := bif_ne h (by decide)
  obtain ⟨_, _, h⟩ := bi_ok h
  replace h := bif_ne h (by decide)
  obtain ⟨_, _, h⟩ := bi_ok h
  obtain ⟨_, _, h⟩ := bi_ok h
  replace h := bif_ne h (by decide)
  obtain ⟨_, _, h⟩ := bi_ok h
  replace h := bif_ne h (by decide)
  obtain ⟨_, _, h⟩ := bi_ok h
  obtain ⟨_, _, h⟩ := bi_ok h
  replace h := bif_ne h (by decide)
  obtain ⟨_, _, h⟩ := bi_ok h
  replace h := bif_ne h (by decide)
  obtain ⟨_, _, h⟩ := bi_ok h
  replace h := bif_ne h (by decide)
  cases h
def nF (now z : Int) (n : Str) (k : Int) : Int := if timF now z = 0 then if domF n = 0 then if kindB k then 0 else 4 else domF n else timF now z
theorem name_ok (x : T_name_Cache) (z : Int) (n : Str) (k : Int) (hn : n.length ≤ 1000000) : m_name_Cache_nameFault 400 x z n k = some (nF x.now z n k) := by
  unfold m_name_Cache_nameFault nF
  rw [time_ok, bi_some]
  by_cases ht : timF x.now z = 0
  · rw [if_pos ht, ht]
    simp only [bne_self_eq_false, cond_false]
    rw [check_ok 398 n hn, bi_some]
    by_cases hd : domF n = 0
    · rw [if_pos hd, hd]
      simp only [bne_self_eq_false, cond_false]
      rw [isKind_ok, bi_some]
      cases kindB k <;> rfl
    · rw [if_neg hd, show (domF n != 0) = true from bne_iff_ne.2 hd]; rfl
  · rw [if_neg ht, show (timF x.now z != 0) = true from bne_iff_ne.2 ht]; rfl
/-- The reference's faults, ahead of whatever follows them. -/
theorem ref_fault {β : Type} (y : T_laneref1_Cache) (z : Int) (n : Str) (k : Int) (hn : n.length ≤ 1000000) (A : Int → Option β) (B : Option β) :
    (bi (m_laneref1_Cache_callFault y z n) fun y1 => bif (y1 : Int) != 0 then A y1 else (bi m_laneref1_Kinds fun y5 => bi (m_slices_Contains_int_int y5 k) fun y7 => bif !y7 then A 4 else B)) = if nF y.now z n k = 0 then B else A (nF y.now z n k) := by
  rw [call_ok y z n hn, bi_some]
  unfold nF m_laneref1_Kinds
  simp only [bi_some]
  rw [kinds_ok, bi_some]
  by_cases ht : timF y.now z = 0
  · simp only [ht, if_true]
    by_cases hd : domF n = 0
    · simp only [hd, if_true, bne_self_eq_false, cond_false]
      cases kindB k <;> simp
    · simp only [hd, if_false]
      rw [show (domF n != 0) = true from bne_iff_ne.2 hd]; rfl
  · simp only [ht, if_false]
    rw [show (timF y.now z != 0) = true from bne_iff_ne.2 ht]; rfl
theorem nF_zero {now z : Int} {n : Str} {k : Int} (h : nF now z n k = 0) : 0 ≤ z ∧ z < 345686400 ∧ ¬ z < now := by
  unfold nF at h
  split at h
  · rename_i ht; exact timF_zero ht
  · rename_i ht; exact absurd h ht
theorem min_ok (l : List T_api_Record) (life : Int) (h : ∀ r ∈ l, 0 ≤ r.Life ∧ r.Life ≤ 1000000) (h0 : 0 ≤ life) (h1 : life ≤ 1000000) :
    ∃ q, rangeF (σ := Int) (fun (i : Nat) (x : T_api_Record) (s : Int) => some (if x.Life < s then x.Life else s)) 0 l life = some q ∧ 0 ≤ q ∧ q ≤ 1000000 := by
  obtain ⟨q, h2, h3⟩ := ok_rangeF (f := fun (i : Nat) (x : T_api_Record) (s : Int) => some (if x.Life < s then x.Life else s)) (l := l) (s := life) (fun _ s => 0 ≤ s ∧ s ≤ 1000000) ⟨h0, h1⟩ (fun i x s hx hs => by
    refine ok_some ?_
    have := h x (List.mem_of_getElem? hx)
    by_cases hlt : x.Life < s
    · rw [if_pos hlt]; exact this
    · rw [if_neg hlt]; exact hs)
  exact ⟨q, h2, h3.1, h3.2⟩
theorem clone_ok (l : List T_api_Record) (h : l.length ≤ 1000) : m_slices_Clone_api_Record_api_Record l = some l := by unfold m_slices_Clone_api_Record_api_Record; rw [apd_some (by simp; omega)]; rfl
theorem fault_nF {now z : Int} {n : Str} {k : Int} (h : nF now z n k ≠ 0) : (nF now z n k != 0) = true := bne_iff_ne.2 h
theorem put_two {c : Int} {x : T_name_Cache} {y : T_laneref1_Cache} (h : CC2 c x y) (hc : c ≤ 90) (z : Int) (n : Str) (hn : n.length ≤ 300) (k : Int) (l : List T_api_Record) (hl : ∀ r ∈ l, okRec r) (hll : l.length ≤ 5) (life : Int) :
    ∃ e x' y' c', m_name_Cache_Put 400 x z n k l life = some (e, x') ∧ m_laneref1_Cache_Put 400 y z n k l life = some (e, y') ∧ CC2 c' x' y' ∧ c' ≤ c + 1 := by
  unfold m_name_Cache_Put m_laneref1_Cache_Put
  rw [name_ok x z n k (by omega), bi_some, ref_fault y z n k (by omega) (fun e => some (e, y)), ← h.no]
  by_cases hf : nF x.now z n k = 0
  rotate_left
  · rw [if_neg hf, fault_nF hf]
    exact ⟨_, x, y, c, rfl, rfl, h, by omega⟩
  rw [if_pos hf, hf]
  obtain ⟨z0, z1, z2⟩ := nF_zero hf
  simp only [bne_self_eq_false, cond_false]
  rw [decide_eq_false (show ¬ (l.length : Int) > 50 by omega)]
  simp only [cond_false]
  -- the records
  obtain ⟨r1, r2, e1, e2, h3⟩ := two_rangeM (σ := Unit) (τ := Unit) (l := l) (s := ()) (t := ()) (f := fun i7 x9 s8 => bi (m_name_recordFault 400 x9) fun y18 => bif (y18 : Int) != 0 then (bi (some (y18, x)) fun v => some (.out v)) else (some (.go ())))
    (g := fun i13 x15 s14 => bi (m_laneref1_RecordFault x15) fun y24 => bif (y24 : Int) != 0 then (bi (some (y24, y)) fun v => some (.out v)) else (some (.go ())))
    (fun i _ _ => ∀ (j : Nat) (r : T_api_Record), j < i → l[j]? = some r → m_name_recordFault 400 r = some 0) (fun v w => v.1 = w.1 ∧ v.2 = x ∧ w.2 = y) (fun j r hj => absurd hj (Nat.not_lt_zero _)) (fun i r _ _ hr hi => by
      obtain ⟨e, q1, q2⟩ := recFault_ok r (hl r (List.mem_of_getElem? hr))
      simp only [q1, q2, bi_some]
      by_cases he : e = 0
      · subst he
        refine ⟨_, _, rfl, rfl, fun j r' hj hr' => ?_⟩
        rcases Nat.lt_succ_iff_lt_or_eq.1 hj with hj | rfl
        · exact hi j r' hj hr'
        · rw [hr] at hr'; cases hr'; exact q1
      · rw [show (e != 0) = true from bne_iff_ne.2 he]
        exact ⟨_, _, rfl, rfl, rfl, rfl, rfl⟩)
  rw [e1, e2]
  cases r1 with
  | out v =>
    cases r2 with
    | go _ => exact h3.elim
    | out w =>
      obtain ⟨v1, v2⟩ := v
      obtain ⟨w1, w2⟩ := w
      obtain ⟨g1, g2, g3⟩ := h3
      simp only at g1 g2 g3
      subst g1; subst g2; subst g3
      exact ⟨_, _, _, c, rfl, rfl, h, by omega⟩
  | go u =>
    cases r2 with
    | out _ => exact h3.elim
    | go u' =>
      have hrec : ∀ r ∈ l, 0 ≤ r.Life ∧ r.Life ≤ 1000000 := fun r hr => by
        obtain ⟨j, hj⟩ := List.getElem?_of_mem hr
        exact life_ok r (h3 j r (List.getElem?_eq_some_iff.1 hj).1 hj)
      simp only [bi_some, goI]
      obtain ⟨o, o1, o2⟩ := outside_in life 0 1000000
      rw [o1, o2, bi_some, bi_some]
      cases o with
      | true => exact ⟨_, x, y, c, rfl, rfl, h, by omega⟩
      | false =>
        have hlife : 0 ≤ life ∧ life ≤ 1000000 := by
          unfold m_kit_Outside at o1
          have := Option.some.inj o1
          simp at this
          omega
        simp only [Bool.not_false, Bool.not_true, cond_false]
        obtain ⟨most, now, calls, p⟩ := x
        obtain ⟨most', now', calls', r⟩ := y
        obtain ⟨kp, mo, no, ca, cb, ln, m0, m1, c0, c1⟩ := h
        simp only at kp mo no ca cb ln m0 m1 z2
        subst mo; subst no; subst ca; subst cb
        obtain ⟨p1, r1, g1, g2, g3, g4⟩ := pass_two (most := most) (now := now) kp (by omega) z0 (by omega) c0 (by omega)
        rw [g1, g2, bi_some, bi_some]
        obtain ⟨q, q1, q2, q3⟩ := min_ok l life hrec hlife.1 hlife.2
        rw [q1]
        simp only [bi_some]
        rw [del2_ok _ _ (by omega), del2r_ok _ _ _ (by have := g3.len; omega)]
        simp only [bi_some]
        have hk2 := g3.filter (P := fun x => !decide (x.asking = (⟨n, k⟩ : T_name_asking))) (R := fun x => !keyR n k x) fun x _ => by rw [key_two]
        have hk3 : ∀ y ∈ p1.filter (fun x => !decide (x.asking = (⟨n, k⟩ : T_name_asking))), y.asking ≠ ⟨n, k⟩ := fun y hy => by
          have := (List.mem_filter.1 hy).2
          simpa using this
        have hlen := List.length_filter_le (fun x : T_name_kept => !decide (x.asking = (⟨n, k⟩ : T_name_asking))) p1
        generalize p1.filter (fun x => !decide (x.asking = (⟨n, k⟩ : T_name_asking))) = p2 at hk2 hk3 hlen
        generalize r1.filter (fun x => !keyR n k x) = r2 at hk2
        have hr2 := hk2.len
        by_cases hq : q = 0
        · subst hq
          refine ⟨0, _, _, calls' + 1, rfl, rfl, ⟨hk2.up (by omega), rfl, rfl, rfl, rfl, ?_, m0, m1, by omega, by omega⟩, by omega⟩
          simp only; omega
        · rw [show (q == 0) = false from beq_eq_false_iff_ne.2 hq]
          simp only [cond_false]
          rw [clone_ok l (by omega), bi_some, bi_some, apd_some (by simp; omega), apd_some (by simp; omega), bi_some, bi_some, wi_id (by omega) (by omega)]
          have hk4 : Keep (calls' + 1) (p2 ++ [⟨⟨n, k⟩, z, q, calls' + 1, l⟩]) (r2 ++ [⟨n, k, z, z + q, l, calls' + 1⟩]) := hk2.snoc (x := ⟨⟨n, k⟩, z, q, calls' + 1, l⟩) ⟨z0, by simp only; omega, q2, q3, by simp only; omega, Int.le_refl _, hn, by simp only; omega⟩ rfl hk3
          have hl4 : (p2 ++ [(⟨⟨n, k⟩, z, q, calls' + 1, l⟩ : T_name_kept)]).length = p2.length + 1 := by simp
          generalize (p2 ++ [(⟨⟨n, k⟩, z, q, calls' + 1, l⟩ : T_name_kept)]) = p3 at hk4 hl4
          generalize (r2 ++ [(⟨n, k, z, z + q, l, calls' + 1⟩ : T_laneref1_kept)]) = r3 at hk4
          have hr3 := hk4.len
          rw [hr3]
          by_cases hm : (p3.length : Int) > most
          · rw [decide_eq_true hm]
            simp only [cond_true]
            obtain ⟨m, t1, t2⟩ := least_ok p3 (by omega) (by omega)
            have t3 := cut_ok p3 m t2.1 (by omega)
            obtain ⟨s, s1, s2, s3⟩ := sort_ok r3 (by omega)
            have hsl : s.length = p3.length := by rw [s3.length_eq, hr3]
            have t4 : (bi (gd (decide ((p3.length : Int) ≤ 9223372036854775807)) (rangeG (σ := Int) (fun i52 s53 => bi (getZ p3 (i52 : Int)) fun x64 => bi (getZ p3 s53) fun x67 => bif decide ((x64.used : Int) < x67.used) then (some (i52 : Int)) else (some s53)) (p3.length : Int) 0)) fun q55 => bi (m_slices_Delete_name_kept_name_kept p3 q55 (wi (q55 + 1))) fun y72 => some y72) = some (p3.eraseIdx m) := by
              obtain ⟨v, hv, hv2⟩ := bi_ok t1
              rw [hv, bi_some, Option.some.inj hv2, t3]; rfl
            rw [t4, s1, bi_some, bi_some, hsl, decide_eq_true rfl, gd_true, show (1 : Int) = ((1 : Nat) : Int) from rfl, ← hsl, subZ_cast (by omega) (Nat.le_refl _), bi_some, bi_some]
            rw [List.take_length]
            have hk5 := least_two hk4 t2 s2 s3
            refine ⟨0, _, _, calls' + 1, rfl, rfl, ⟨hk5, rfl, rfl, rfl, rfl, ?_, m0, m1, by omega, by omega⟩, by omega⟩
            simp only
            rw [List.length_eraseIdx_of_lt t2.1]
            omega
          · rw [decide_eq_false hm]
            simp only [cond_false, bi_some]
            refine ⟨0, _, _, calls' + 1, rfl, rfl, ⟨hk4, rfl, rfl, rfl, rfl, ?_, m0, m1, by omega, by omega⟩, by omega⟩
            simp only; omega
end Go.Gk
