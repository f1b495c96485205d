/-
  lanelaw1.DomainsCompare: it is true.
-/
import Derived.Test.YtjhoahdlehkfaaaDoorOrder
import Derived.Test.YtjhoahdlehkfaaaDoorDomain
import Derived.Test.YtjhoahdlehkfaaaDoorNamed
set_option linter.unusedVariables false
set_option linter.unusedSimpArgs false
set_option maxRecDepth 100000
namespace Go.Proofs.YtjhoahdlehkfaaaDoor
open Go.Gh

theorem c_or (x y : Int) : Pure Tryd.prog 10 [.d (Sl eI [x, y])] (I (if x = 0 then y else x)) := by
  refine Pure.enter (Fr.of 0 [.d (Sl eI [x, y])]) Tryd.func10 rfl (Fr.of_ok _) rfl rfl ?_
  repeat' (first | refine eo_x hΓ rfl rfl ?_ | refine eo_nil ?_ | refine eo_skip rfl rfl ?_ | refine eo_guard rfl ?_ | refine eo_gsplit rfl rfl (fun h => ?_) (fun h => ?_) | refine ew_seq ?_ | refine ew_region ?_ | refine ew_block ?_ | refine ew_skip ?_ | refine ew_exit ?_ | refine ew_ret ?_ | refine ew_condT rfl ?_ | refine ew_condF rfl ?_ | refine ew_cond rfl (fun h => ?_) (fun h => ?_))
  refine ew_rounds 3 ?_
  repeat' (first | refine ew_condT (get_b rfl (by first | (simp; done) | omega | (simp; omega))) ?_ | refine ew_condF (get_b rfl (by first | (simp; done) | omega | (simp; omega))) ?_ | refine eo_x hΓ rfl rfl ?_ | refine eo_nil ?_ | refine eo_skip rfl rfl ?_ | refine eo_guard rfl ?_ | refine eo_gsplit rfl rfl (fun h => ?_) (fun h => ?_) | refine ew_seq ?_ | refine ew_region ?_ | refine ew_block ?_ | refine ew_skip ?_ | refine ew_exit ?_ | refine ew_ret ?_ | refine ew_condT rfl ?_ | refine ew_condF rfl ?_ | refine ew_cond rfl (fun h => ?_) (fun h => ?_) | refine er_succ ?_ | refine eo_elem (ys := eI x) hΓ 0 rfl rfl rfl rfl rfl rfl (by simp) (fun j d hd => by cases j with | zero => exact hd | succ j => simp at hd) (by simp) rfl ?_ | refine eo_elem (ys := eI y) hΓ 1 rfl rfl rfl rfl rfl rfl (by simp) (fun j d hd => by cases j with | zero => exact hd | succ j => simp at hd) (by simp) rfl ?_)
  all_goals (try simp only [decide_eq_true_eq, decide_eq_false_iff_not, Bool.not_eq_true', Bool.not_eq_false', Bool.not_eq_true, Bool.not_eq_false, beq_iff_eq, beq_eq_false_iff_ne, bne_iff_ne, bne_eq_false_iff_eq, size_S, toList_S, Bool.and_eq_true, Bool.or_eq_true, Bool.and_eq_false_iff, Bool.or_eq_false_iff] at *)
  all_goals exact ⟨by simp, res_all hΓ rfl (by simp [retG, *])⟩

theorem c_Compare (a b : List UInt8) (ha : a.length ≤ 16777216) (hb : b.length ≤ 16777216) : Pure Tryd.prog 7 [S a, S b] (.tup [I (if dom2 a b = 0 then ordI a b else 0), I (dom2 a b)]) := by
  have hc := c_checkDomains [a, b] (by simp) (by simp; omega)
  rw [domsF_two] at hc
  refine Pure.enter (Fr.of 0 [S a, S b]) Tryd.func7 rfl (Fr.of_ok _) rfl rfl ?_
  unfold ordI
  by_cases h0 : dom2 a b = 0
  · rw [h0] at hc ⊢
    repeat' (first | refine ew_condT (get_b rfl (by first | (simp; done) | omega | (simp; omega))) ?_ | refine ew_condF (get_b rfl (by first | (simp; done) | omega | (simp; omega))) ?_ | refine eo_x hΓ rfl rfl ?_ | refine eo_nil ?_ | refine eo_skip rfl rfl ?_ | refine eo_guard rfl ?_ | refine eo_gsplit rfl rfl (fun h => ?_) (fun h => ?_) | refine ew_seq ?_ | refine ew_region ?_ | refine ew_block ?_ | refine ew_skip ?_ | refine ew_exit ?_ | refine ew_ret ?_ | refine ew_condT rfl ?_ | refine ew_condF rfl ?_ | refine ew_cond rfl (fun h => ?_) (fun h => ?_) | refine eo_lit hΓ rfl rfl rfl rfl rfl rfl rfl rfl rfl rfl rfl (Nat.zero_le _) ?_ | refine eo_pure rfl (Nat.zero_le _) rfl rfl (callable Tryd.func28 rfl rfl) hc rfl rfl ?_)
    refine eo_call rfl (Nat.zero_le _) rfl rfl (callable Tryd.func30 rfl rfl) (c_split a (by omega)) ?_
    rintro _ _ ⟨rfl, rfl⟩
    have hna := split_le a
    generalize Lib.split a [46] = x at hna
    repeat' (first | refine eo_x hΓ rfl rfl ?_ | refine eo_nil ?_ | refine eo_skip rfl rfl ?_ | refine eo_guard rfl ?_ | refine eo_gsplit rfl rfl (fun h => ?_) (fun h => ?_) | refine ew_seq ?_ | refine ew_region ?_ | refine ew_block ?_ | refine ew_skip ?_ | refine ew_exit ?_ | refine ew_ret ?_ | refine ew_condT rfl ?_ | refine ew_condF rfl ?_ | refine ew_cond rfl (fun h => ?_) (fun h => ?_))
    refine eo_call rfl (Nat.zero_le _) rfl rfl (callable Tryd.func30 rfl rfl) (EC.fresh (c_split b (by omega)) rfl) ?_
    rintro _ _ ⟨rfl, rfl⟩
    have hnb := split_le b
    generalize Lib.split b [46] = y at hnb
    repeat' (first | refine eo_x hΓ rfl rfl ?_ | refine eo_nil ?_ | refine eo_skip rfl rfl ?_ | refine eo_guard rfl ?_ | refine eo_gsplit rfl rfl (fun h => ?_) (fun h => ?_) | refine ew_seq ?_ | refine ew_region ?_ | refine ew_block ?_ | refine ew_skip ?_ | refine ew_exit ?_ | refine ew_ret ?_ | refine ew_condT rfl ?_ | refine ew_condF rfl ?_ | refine ew_cond rfl (fun h => ?_) (fun h => ?_))
    refine eo_call rfl (Nat.zero_le _) rfl rfl (callable Tryd.func31 rfl rfl) (EC.one (id := 0) (c_reverse x (by omega)) rfl (fun _ => rfl) rfl rfl rfl (by rintro _ _ ⟨rfl, rfl⟩; exact ⟨fun _ => rfl, _, rfl, fun _ => rfl⟩)) ?_
    rintro _ _ ⟨o', ⟨rfl, e⟩, rfl⟩
    cases e
    repeat' (first | refine eo_x hΓ rfl rfl ?_ | refine eo_nil ?_ | refine eo_skip rfl rfl ?_ | refine eo_guard rfl ?_ | refine eo_gsplit rfl rfl (fun h => ?_) (fun h => ?_) | refine ew_seq ?_ | refine ew_region ?_ | refine ew_block ?_ | refine ew_skip ?_ | refine ew_exit ?_ | refine ew_ret ?_ | refine ew_condT rfl ?_ | refine ew_condF rfl ?_ | refine ew_cond rfl (fun h => ?_) (fun h => ?_))
    refine eo_call rfl (Nat.zero_le _) rfl rfl (callable Tryd.func31 rfl rfl) (EC.one (id := 1) (c_reverse y (by omega)) rfl (fun _ => rfl) rfl rfl rfl (by rintro _ _ ⟨rfl, rfl⟩; exact ⟨fun _ => rfl, _, rfl, fun _ => rfl⟩)) ?_
    rintro _ _ ⟨o', ⟨rfl, e⟩, rfl⟩
    cases e
    repeat' (first | refine eo_x hΓ rfl rfl ?_ | refine eo_nil ?_ | refine eo_skip rfl rfl ?_ | refine eo_guard rfl ?_ | refine eo_gsplit rfl rfl (fun h => ?_) (fun h => ?_) | refine ew_seq ?_ | refine ew_region ?_ | refine ew_block ?_ | refine ew_skip ?_ | refine ew_exit ?_ | refine ew_ret ?_ | refine ew_condT rfl ?_ | refine ew_condF rfl ?_ | refine ew_cond rfl (fun h => ?_) (fun h => ?_))
    refine eo_share 24 rfl rfl (Nat.zero_le _) ?_
    refine eo_share 25 rfl rfl (Nat.zero_le _) ?_
    have hc := c_sliceCompare x.reverse y.reverse (by simp; omega) (by simp; omega)
    simp only [Sl, List.length_reverse] at hc
    repeat' (first | refine eo_x hΓ rfl rfl ?_ | refine eo_nil ?_ | refine eo_skip rfl rfl ?_ | refine eo_guard rfl ?_ | refine eo_gsplit rfl rfl (fun h => ?_) (fun h => ?_) | refine ew_seq ?_ | refine ew_region ?_ | refine ew_block ?_ | refine ew_skip ?_ | refine ew_exit ?_ | refine ew_ret ?_ | refine ew_condT rfl ?_ | refine ew_condF rfl ?_ | refine ew_cond rfl (fun h => ?_) (fun h => ?_) | refine eo_pure rfl (Nat.zero_le _) rfl rfl (callable Tryd.func32 rfl rfl) hc rfl rfl ?_)
    all_goals exact ⟨by simp, res_all hΓ rfl (by simp [retG])⟩
  · repeat' (first | refine eo_x hΓ rfl rfl ?_ | refine eo_nil ?_ | refine eo_skip rfl rfl ?_ | refine eo_guard rfl ?_ | refine eo_gsplit rfl rfl (fun h => ?_) (fun h => ?_) | refine ew_seq ?_ | refine ew_region ?_ | refine ew_block ?_ | refine ew_skip ?_ | refine ew_exit ?_ | refine ew_ret ?_ | refine ew_condT rfl ?_ | refine ew_condF rfl ?_ | refine ew_cond rfl (fun h => ?_) (fun h => ?_) | refine eo_lit hΓ rfl rfl rfl rfl rfl rfl rfl rfl rfl rfl rfl (Nat.zero_le _) ?_ | refine eo_pure rfl (Nat.zero_le _) rfl rfl (callable Tryd.func28 rfl rfl) hc rfl rfl ?_)
    all_goals (try simp only [decide_eq_true_eq, decide_eq_false_iff_not, Bool.not_eq_true', Bool.not_eq_false', Bool.not_eq_true, Bool.not_eq_false, beq_iff_eq, beq_eq_false_iff_ne, bne_iff_ne, bne_eq_false_iff_eq, size_S, toList_S, Bool.and_eq_true, Bool.or_eq_true, Bool.and_eq_false_iff, Bool.or_eq_false_iff] at *)
    all_goals first
      | (exfalso; exact h0 (by assumption))
      | (exfalso; simp_all; done)
      | exact ⟨by simp, res_all hΓ rfl (by simp [retG, h0])⟩

set_option maxHeartbeats 4000000 in
theorem law_domains (l : List Int) (hl : l.length ≤ 9223372036854775807) : Pure Tryd.prog 3 [.d (Sl eI l)] (B true) := by
  refine Pure.enter (Fr.of 0 [.d (Sl eI l)]) Tryd.func3 rfl (Fr.of_ok _) rfl rfl ?_
  repeat' (first | refine eo_x hΓ rfl rfl ?_ | refine eo_nil ?_ | refine eo_skip rfl rfl ?_ | refine eo_guard rfl ?_ | refine eo_gsplit rfl rfl (fun h => ?_) (fun h => ?_) | refine ew_seq ?_ | refine ew_region ?_ | refine ew_block ?_ | refine ew_skip ?_ | refine ew_exit ?_ | refine ew_ret ?_ | refine ew_condT rfl ?_ | refine ew_condF rfl ?_ | refine ew_cond rfl (fun h => ?_) (fun h => ?_) | refine eo_build hΓ rfl rfl rfl rfl rfl rfl rfl ?_ | refine eo_box rfl rfl rfl rfl (Nat.zero_le _) ?_)
  refine eo_call rfl (Nat.zero_le _) rfl rfl (callable Tryd.func5 rfl rfl) (c_domain l 0 hl (by decide) (by decide)) ?_
  rintro _ _ ⟨a, ha, rfl, rfl⟩
  repeat' (first | refine eo_x hΓ rfl rfl ?_ | refine eo_nil ?_ | refine eo_skip rfl rfl ?_ | refine eo_guard rfl ?_ | refine eo_gsplit rfl rfl (fun h => ?_) (fun h => ?_) | refine ew_seq ?_ | refine ew_region ?_ | refine ew_block ?_ | refine ew_skip ?_ | refine ew_exit ?_ | refine ew_ret ?_ | refine ew_condT rfl ?_ | refine ew_condF rfl ?_ | refine ew_cond rfl (fun h => ?_) (fun h => ?_))
  refine eo_call rfl (Nat.zero_le _) rfl rfl (callable Tryd.func5 rfl rfl) (c_domain l (0 + 2) hl (by decide) (by decide)) ?_
  rintro _ _ ⟨b, hb, rfl, rfl⟩
  have h1 := c_Under a b (by omega) (by omega)
  have h2 := c_Compare a b (by omega) (by omega)
  have h3 := c_checkDomain a (by omega)
  have h4 := c_domainFault a (by omega)
  have h5 := c_domainFault b (by omega)
  have h6 := c_or (domF a) (domF b)
  have h7 := c_isUnder a b (by omega) (by omega)
  have h8 := c_nameOrder a b (by omega) (by omega)
  repeat' (first | refine eo_x hΓ rfl rfl ?_ | refine eo_nil ?_ | refine eo_skip rfl rfl ?_ | refine eo_guard rfl ?_ | refine eo_gsplit rfl rfl (fun h => ?_) (fun h => ?_) | refine ew_seq ?_ | refine ew_region ?_ | refine ew_block ?_ | refine ew_skip ?_ | refine ew_exit ?_ | refine ew_ret ?_ | refine ew_condT rfl ?_ | refine ew_condF rfl ?_ | refine ew_cond rfl (fun h => ?_) (fun h => ?_) | refine eo_o rfl (by exact op_eqB hΓ rfl rfl rfl rfl) ?_ | refine eo_o rfl (by exact op_neB hΓ rfl rfl rfl rfl) ?_ | refine eo_lit hΓ rfl rfl rfl rfl rfl rfl rfl rfl rfl rfl rfl (Nat.zero_le _) ?_ | refine eo_pure rfl (Nat.zero_le _) rfl rfl (callable Tryd.func6 rfl rfl) h1 rfl rfl ?_ | refine eo_pure rfl (Nat.zero_le _) rfl rfl (callable Tryd.func7 rfl rfl) h2 rfl rfl ?_ | refine eo_pure rfl (Nat.zero_le _) rfl rfl (callable Tryd.func8 rfl rfl) h3 rfl rfl ?_ | refine eo_pure rfl (Nat.zero_le _) rfl rfl (callable Tryd.func9 rfl rfl) h4 rfl rfl ?_ | refine eo_pure rfl (Nat.zero_le _) rfl rfl (callable Tryd.func9 rfl rfl) h5 rfl rfl ?_ | refine eo_pure rfl (Nat.zero_le _) rfl rfl (callable Tryd.func10 rfl rfl) h6 rfl rfl ?_ | refine eo_pure rfl (Nat.zero_le _) rfl rfl (callable Tryd.func11 rfl rfl) c_named rfl rfl ?_ | refine eo_pure rfl (Nat.zero_le _) rfl rfl (callable Tryd.func12 rfl rfl) h7 rfl rfl ?_ | refine eo_pure rfl (Nat.zero_le _) rfl rfl (callable Tryd.func13 rfl rfl) h8 rfl rfl ?_)
  all_goals (try simp only [decide_eq_true_eq, decide_eq_false_iff_not, Bool.not_eq_true', Bool.not_eq_false', Bool.not_eq_true, Bool.not_eq_false, beq_iff_eq, beq_eq_false_iff_ne, bne_iff_ne, bne_eq_false_iff_eq, size_S, toList_S, Bool.and_eq_true, Bool.or_eq_true, Bool.and_eq_false_iff, Bool.or_eq_false_iff] at *)
  all_goals first
    | exact ⟨by simp, res_all hΓ rfl (by simp_all [retG, dom2])⟩
    | (exfalso; simp_all [dom2]; done)
    | trace_state
end Go.Proofs.YtjhoahdlehkfaaaDoor
