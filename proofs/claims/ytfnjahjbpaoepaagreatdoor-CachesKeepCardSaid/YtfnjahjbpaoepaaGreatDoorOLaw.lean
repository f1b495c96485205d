/-
  CachesKeep, the plain law.
-/
import Derived.Test.YtfnjahjbpaoepaaGreatDoorOOps
set_option linter.unusedVariables false
set_option linter.unusedSimpArgs false
set_option linter.unusedSectionVars false
set_option maxRecDepth 100000
namespace Go.Gk
theorem ok_rangeI {σ ρ : Type} {f : Nat → σ → Option (LS σ ρ)} {n : Int} {s : σ} (I : Nat → σ → Prop) (Q : ρ → Prop) (h0 : I 0 s)
    (step : ∀ (i : Nat) (s : σ), i < n.toNat → I i s → Ok (f i s) fun r => match r with | .go s' => I (i + 1) s' | .out q => Q q) : Ok (rangeI f n s) fun r => match r with | .go s' => I n.toNat s' | .out q => Q q := by
  unfold rangeI
  have := ok_rangeM (f := fun i (_ : Unit) s => f i s) (l := List.replicate n.toNat ()) (s := s) I Q h0 fun i x s hx hi => step i s (by have := (List.getElem?_eq_some_iff.1 hx).1; simpa using this) hi
  rw [List.length_replicate] at this
  exact this
theorem recs_o {l : List Int} {b : Int} {s : T_lanemake_Stream} (h : At l 0 b s) (many : Int) (hl : l.length ≤ 9223372036854775807) (h1 : b < 4611686018427300000) (h2 : 0 ≤ many) (h3 : many ≤ 5) :
    Ok (m_lanemake_Stream_Records s many) fun r => ((∀ x ∈ r.1, okRec x) ∧ r.1.length ≤ 5) ∧ At l 0 (b + 400) r.2 := by
  obtain ⟨e1, e2, e3⟩ := h
  obtain ⟨x, a', p, c1, c2, e⟩ := recsD l s.v_at many hl e2 (by omega) h2 h3
  refine ⟨(x, ⟨l, a'⟩), ?_, p, rfl, by simp only; omega, by simp only; omega⟩
  rw [← e, ← e1]
def St10 : Type := T_lanemake_Stream × (List T_name_kept) × Int × Int × Int × (List T_laneref1_kept) × Int × Int × Int × Int
theorem any2 (b0 b1 b2 : Bool) : Ok (bif b0 then some b0 else bif b1 then some b1 else some b2) fun _ => True := by cases b0 <;> cases b1 <;> exact ⟨_, rfl, trivial⟩
theorem any1 (b0 b1 : Bool) : Ok (bif b0 then some b0 else some b1) fun _ => True := by cases b0 <;> exact ⟨_, rfl, trivial⟩
def IL (l : List Int) (i : Nat) (s : T_lanemake_Stream × (List T_name_kept) × Int × Int × Int × (List T_laneref1_kept) × Int × Int × Int × Int) : Prop :=
  At l 0 (10 + 1000 * (i : Int)) s.1 ∧ ∃ c : Int, c ≤ (i : Int) ∧ CC2 c ⟨s.2.2.1, s.2.2.2.1, s.2.2.2.2.1, s.2.1⟩ ⟨s.2.2.2.2.2.2.1, s.2.2.2.2.2.2.2.1, s.2.2.2.2.2.2.2.2.1, s.2.2.2.2.2.1⟩
theorem nms : ∀ x ∈ ([[97, 46, 110, 101, 116, 46, 120], [97, 46, 110, 101, 116, 46, 120], [98, 46, 110, 101, 116, 46, 120], [99, 46, 110, 101, 116, 46, 120], [65]] : List Str), x.length ≤ 300 := by decide
theorem nms2 : ∀ x ∈ ([[97, 46, 110, 101, 116, 46, 120], [110, 101, 116, 46, 120], []] : List Str), x.length ≤ 300 := by decide
theorem next_o {l : List Int} {a b : Int} {s : T_lanemake_Stream} (h : At l a b s) (n : Int) (hl : l.length ≤ 9223372036854775807) (h0 : 0 ≤ a) (h1 : b < 4611686018427387904) (hn : 1 ≤ n) (hn2 : n ≤ 4611686018427387904) :
    Ok (m_lanemake_Stream_Next s n) fun r => 0 ≤ r.1 ∧ r.1 < n ∧ At l (a + 1) (b + 1) r.2 := by
  obtain ⟨e1, e2, e3⟩ := h
  obtain ⟨c, c1, c2, hp⟩ := next_ok l s.v_at n hl (by omega) (by omega) hn hn2
  rw [← e1] at hp
  exact ⟨_, hp, c1, c2, e1, by simp only; omega, by simp only; omega⟩
theorem new_ok (m : Int) (h1 : 1 ≤ m) (h2 : m ≤ 500) : m_name_New m = some (some ⟨m, 0, 0, []⟩, 0) := by
  unfold m_name_New m_kit_Outside
  rw [decide_eq_false (show ¬ m < 1 by omega), decide_eq_false (show ¬ m > 500 by omega)]
  rfl
theorem CachesKeep_true (l : List Int) (hl : l.length ≤ 9223372036854775807) : m_lanelaw1_CachesKeep 400 l = some true := by
  have key : Ok (m_lanelaw1_CachesKeep 400 l) fun r => r = true := by
    unfold m_lanelaw1_CachesKeep
    refine ok_bi (pick_o (l := l) (a := 0) (b := 0) ⟨rfl, Int.le_refl _, Int.le_refl _⟩ [1, 2, 2, 3, 0, 501] hl (Int.le_refl _) (by decide) (by decide) (by decide)) fun r1 h1 => ?_
    obtain ⟨most, s1⟩ := r1
    obtain ⟨hm, hA⟩ := h1
    simp only at hm hA ⊢
    have hc : most = 0 ∨ most = 501 ∨ (1 ≤ most ∧ most ≤ 3) := by
      simp only [List.mem_cons, List.not_mem_nil, or_false] at hm
      omega
    have hnm : m_lanelaw1_named 400 = some true := named_ok
    rcases hc with rfl | rfl | ⟨hm1, hm2⟩
    · refine ok_eq (r := (none, 1)) rfl ?_
      simp only [hnm]
      exact ⟨true, rfl, rfl⟩
    · refine ok_eq (r := (none, 1)) rfl ?_
      simp only [hnm]
      exact ⟨true, rfl, rfl⟩
    · refine ok_eq (new_ok most hm1 (by omega)) ?_
      simp only
      rw [decide_eq_false (show ¬ most < 1 by omega), decide_eq_false (show ¬ most > 500 by omega)]
      simp only [Bool.or_false, cond_false, bne_self_eq_false]
      refine ok_eq (r := ⟨most, 0, 0, []⟩) rfl ?_
      refine ok_bi (next_o hA 18 hl (by decide) (by decide) (by decide) (by decide)) fun r2 h2 => ?_
      obtain ⟨many, s2⟩ := r2
      obtain ⟨n0, n1, hA2⟩ := h2
      simp only at n0 n1 hA2 ⊢
      rw [decide_eq_true (show many ≤ 9223372036854775807 by omega), gd_true]
      refine ok_bi (ok_rangeI (IL l) (fun _ => False) ⟨hA2.up (by omega) (by simp), 0, by simp, ⟨⟨.refl _, (fun x hx => by cases hx), List.nodup_nil, List.nodup_nil⟩, rfl, rfl, rfl, rfl, by simp only [List.length_nil]; omega, hm1, hm2, Int.le_refl _, by decide⟩⟩ ?_) fun r h => ?_
      · rintro i ⟨st, pl, pm, pn, pc, rl, rm, rn, rc, nw⟩ hi ⟨hS, c, hc, hC⟩
        simp only at hS hC ⊢
        have hi2 : i < 18 := by omega
        refine ok_bi (pick_o hS [0, 0, 1, 2, 5, 60] hl (by omega) (by omega) (by decide) (by decide)) fun r3 h3 => ?_
        obtain ⟨dt, s3⟩ := r3
        obtain ⟨_, hA3⟩ := h3
        simp only at hA3 ⊢
        refine ok_bi (flip_o hA3 30 hl (by omega) (by omega) (by decide) (by decide)) fun r4 hA4 => ?_
        obtain ⟨fl, s4⟩ := r4
        simp only at hA4 ⊢
        refine ok_bi (P := fun q => At l 0 (10 + 1000 * (i : Int) + 3) q.1) (ok_bif (fun _ => ok_bi (pick_o hA4 [-1, 0, 345686400] hl (by omega) (by omega) (by decide) (by decide)) fun r hr => ok_some (hr.2.up (by omega) (by omega))) fun _ => ok_some (hA4.up (by omega) (by omega))) fun r5 hA5 => ?_
        obtain ⟨s5, z⟩ := r5
        simp only at hA5 ⊢
        refine ok_bi (some_o hA5 _ hl (by omega) (by omega) (by decide) (by decide)) fun r6 h6 => ?_
        obtain ⟨n, s6⟩ := r6
        obtain ⟨hn, hA6⟩ := h6
        simp only at hn hA6 ⊢
        have hn300 := nms n hn
        refine ok_bi (pick_o hA6 [1, 1, 28, 2] hl (by omega) (by omega) (by decide) (by decide)) fun r7 h7 => ?_
        obtain ⟨kd, s7⟩ := r7
        obtain ⟨_, hA7⟩ := h7
        simp only at hA7 ⊢
        refine ok_bi (next_o hA7 7 hl (by omega) (by omega) (by decide) (by decide)) fun r8 h8 => ?_
        obtain ⟨w, s8⟩ := r8
        obtain ⟨_, _, hA8⟩ := h8
        simp only at hA8 ⊢
        refine ok_bi (any2 _ _ _) fun q51 _ => ok_bif (fun _ => ?_) fun _ => ?_
        · -- Put
          refine ok_bi (range_o hA8 0 2 hl (by omega) (by omega) (by decide) (by decide) (by decide)) fun r9 h9 => ?_
          obtain ⟨mn, s9⟩ := r9
          obtain ⟨q0, q1, hA9⟩ := h9
          simp only at q0 q1 hA9 ⊢
          refine ok_bi (recs_o (hA9.up (a' := 0) (by omega) (Int.le_refl _)) mn hl (by omega) q0 (by omega)) fun r10 h10 => ?_
          obtain ⟨rs, s10⟩ := r10
          obtain ⟨⟨hrs, hrl⟩, hA10⟩ := h10
          simp only at hrs hrl hA10 ⊢
          refine ok_bi (pick_o hA10 [0, 5, 60, 60, -1] hl (by omega) (by omega) (by decide) (by decide)) fun r11 h11 => ?_
          obtain ⟨life, s11⟩ := r11
          obtain ⟨_, hA11⟩ := h11
          simp only at hA11 ⊢
          obtain ⟨e, x', y', c', e1, e2, hC', hc'⟩ := put_two hC (by omega) z n hn300 kd rs hrs hrl life
          refine ok_eq e1 (ok_eq e2 ?_)
          simp only [bne_self_eq_false, cond_false]
          exact ok_some ⟨hA11.up (by omega) (by omega), c', by omega, hC'⟩
        · refine ok_bi (any1 _ _) fun q73 _ => ok_bif (fun _ => ?_) fun _ => ok_bif (fun _ => ?_) fun _ => ?_
          · -- Get
            obtain ⟨o, b, e, x', y', c', e1, e2, ho, hC', hc'⟩ := get_two hC (by omega) z n hn300 kd
            refine ok_eq e1 (ok_eq e2 ?_)
            simp only [bne_self_eq_false, BEq.rfl, Bool.not_true, Bool.or_false, cond_false]
            refine ok_eq (r := false) ?_ ?_
            · rw [eqRec_ok o ho]; rfl
            · simp only [cond_false]
              exact ok_some ⟨hA8.up (by omega) (by omega), c', by omega, hC'⟩
          · -- Drop
            refine ok_bi (some_o hA8 _ hl (by omega) (by omega) (by decide) (by decide)) fun r9 h9 => ?_
            obtain ⟨zn, s9⟩ := r9
            obtain ⟨hzn, hA9⟩ := h9
            simp only at hzn hA9 ⊢
            obtain ⟨o, e, x', y', c', e1, e2, hC', hc'⟩ := drop_two hC (by omega) z zn (nms2 zn hzn)
            refine ok_eq e1 (ok_eq e2 ?_)
            simp only [bne_self_eq_false, Bool.or_false, cond_false]
            exact ok_some ⟨hA9.up (by omega) (by omega), c', by omega, hC'⟩
          · -- Many
            obtain ⟨o, e, x', y', c', e1, e2, hC', hc'⟩ := many_two hC (by omega) z
            refine ok_eq e1 (ok_eq e2 ?_)
            simp only [bne_self_eq_false, Bool.or_false, cond_false]
            exact ok_some ⟨hA8.up (by omega) (by omega), c', by omega, hC'⟩
      · cases r with
        | out q => exact h.elim
        | go s' =>
          show Ok (bi (m_lanelaw1_named 400) fun y113 => some y113) _
          rw [hnm]
          exact ⟨true, rfl, rfl⟩
  obtain ⟨r, h1, rfl⟩ := key
  exact h1
end Go.Gk
