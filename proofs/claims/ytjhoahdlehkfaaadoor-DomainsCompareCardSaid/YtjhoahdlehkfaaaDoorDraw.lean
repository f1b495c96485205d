/-
  lanemake.Stream: what the draws give.
-/
import Derived.Test.YtjhoahdlehkfaaaDoorGt
import Derived.Test.YtjhoahdlehkfaaaDoorGh16
import Derived.KernelRfl
set_option linter.unusedVariables false
set_option linter.unusedSimpArgs false
set_option maxRecDepth 100000
namespace Go.Proofs.YtjhoahdlehkfaaaDoor
open Go.Gh

abbrev eI (z : Int) : List D := [.v (.int .i64 z)]
abbrev eS (s : List UInt8) : List D := [.v (.string ⟨s.toArray⟩)]
/-- The stream. -/
def strm (l : List Int) (a : Int) : Ob := .box 25 [.d (Sl eI l), I a]

def below (x n : Int) : Int := if x.tmod n < 0 then x.tmod n + n else x.tmod n
theorem below_ok (x n : Int) (hn : 1 ≤ n) : 0 ≤ below x n ∧ below x n < n := by
  have h1 : x.tmod n < n := Int.tmod_lt_of_pos x (by omega)
  have h2 : -n < x.tmod n := by
    have := Int.tmod_lt_of_pos (-x) (show 0 < n by omega)
    rw [Int.neg_tmod] at this
    omega
  unfold below
  split <;> omega
theorem c_below (x n : Int) (hn : 1 ≤ n) (hn2 : n ≤ 4611686018427387904) : Pure Tryd.prog 63 [I x, I n] (I (below x n)) := by
  have h12 := below_ok x n hn
  unfold below at *
  refine Pure.enter (Fr.of 0 [I x, I n]) Tryd.func63 rfl (Fr.of_ok _) rfl rfl ?_
  repeat' (first | refine eo_x hΓ rfl rfl ?_ | refine eo_nil ?_ | refine eo_skip rfl rfl ?_ | refine eo_guard rfl ?_ | refine eo_gsplit rfl rfl (fun h => ?_) (fun h => ?_) | refine ew_seq ?_ | refine ew_region ?_ | refine ew_block ?_ | refine ew_skip ?_ | refine ew_exit ?_ | refine ew_ret ?_ | refine ew_condT rfl ?_ | refine ew_condF rfl ?_ | refine ew_cond rfl (fun h => ?_) (fun h => ?_) | refine eo_rem rfl rfl (show n ≠ 0 by omega) rfl ?_)
  all_goals (try simp only [decide_eq_true_eq, decide_eq_false_iff_not, Bool.not_eq_true', Bool.not_eq_false', Bool.not_eq_true, Bool.not_eq_false, beq_iff_eq, beq_eq_false_iff_ne, bne_iff_ne, bne_eq_false_iff_eq, size_S, toList_S, Bool.and_eq_true, Bool.or_eq_true, Bool.and_eq_false_iff, Bool.or_eq_false_iff] at *)
  all_goals first
    | omega
    | (refine ⟨by simp, res_all hΓ rfl ?_⟩
       simp only [retG]
       first
         | (rw [if_pos (by assumption)] at h12 ⊢; rw [w64 (by omega)])
         | rw [if_neg (by assumption)])

theorem c_next (l : List Int) (a n : Int) (hl : l.length ≤ 9223372036854775807) (h0 : 0 ≤ a) (h1 : a < 4611686018427387904) (hn : 1 ≤ n) (hn2 : n ≤ 4611686018427387904) :
    EC Tryd.prog 37 [.ptr 0 0, I n] [strm l a] fun g hp' => ∃ r : Int, 0 ≤ r ∧ r < n ∧ g = I r ∧ hp' = [strm l (a + 1)] := by
  refine ec_enter (Fr.of 0 [.ptr 0 0, I n]) Tryd.func37 rfl (Fr.of_ok _) (Nat.le_of_ble_eq_true rfl) fun _ => ?_
  have hw : IntKind.i64.wrap (a + 1) = a + 1 := w64 (by omega)
  have hw1 : IntKind.i64.wrap (IntKind.i64.wrap (a + 1) - 1) = a := by rw [hw, w64 (by omega)]; omega
  by_cases hne : l.length = 0
  · repeat' (first | refine eo_x hΓ rfl rfl ?_ | refine eo_nil ?_ | refine eo_skip rfl rfl ?_ | refine eo_guard rfl ?_ | refine eo_gsplit rfl rfl (fun h => ?_) (fun h => ?_) | refine ew_seq ?_ | refine ew_region ?_ | refine ew_block ?_ | refine ew_skip ?_ | refine ew_exit ?_ | refine ew_ret ?_ | refine ew_condT rfl ?_ | refine ew_condF rfl ?_ | refine ew_cond rfl (fun h => ?_) (fun h => ?_) | (refine eo_store hΓ rfl rfl rfl rfl rfl rfl rfl rfl (Nat.le_refl _) ?_) | refine eo_pure rfl (Nat.le_refl _) rfl rfl (callable Tryd.func63 rfl rfl) (c_below _ n hn hn2) rfl rfl ?_)
    all_goals (try simp only [decide_eq_true_eq, decide_eq_false_iff_not, Bool.not_eq_true', Bool.not_eq_false', Bool.not_eq_true, Bool.not_eq_false, beq_iff_eq, beq_eq_false_iff_ne, bne_iff_ne, bne_eq_false_iff_eq, size_S, toList_S, Bool.and_eq_true, Bool.or_eq_true, Bool.and_eq_false_iff, Bool.or_eq_false_iff] at *)
    all_goals first
      | omega
      | (refine ⟨by simp, [_], [], _, (List.append_nil _).symm, ⟨_, (below_ok _ n hn).1, (below_ok _ n hn).2, rfl, ?_⟩, Nat.le_refl _, .inl rfl, res_all hΓ rfl rfl⟩
         simp [strm, setAt, hw])
  · have hk : a.toNat % l.length < l.length := Nat.mod_lt _ (by omega)
    have hkk : (IntKind.i64.wrap (IntKind.i64.wrap (a + 1) - 1)).tmod (l.length : Int) = ((a.toNat % l.length : Nat) : Int) := by
      rw [hw1, Int.tmod_eq_emod_of_nonneg h0, Int.natCast_emod, Int.toNat_of_nonneg h0]
    have hz := List.getElem?_eq_getElem hk
    generalize l[a.toNat % l.length] = z at hz
    have hne' : (l.length : Int) ≠ 0 := by omega
    repeat' (first | refine eo_x hΓ rfl rfl ?_ | refine eo_nil ?_ | refine eo_skip rfl rfl ?_ | refine eo_guard rfl ?_ | refine eo_gsplit rfl rfl (fun h => ?_) (fun h => ?_) | refine ew_seq ?_ | refine ew_region ?_ | refine ew_block ?_ | refine ew_skip ?_ | refine ew_exit ?_ | refine ew_ret ?_ | refine ew_condT rfl ?_ | refine ew_condF rfl ?_ | refine ew_cond rfl (fun h => ?_) (fun h => ?_) | (refine eo_store hΓ rfl rfl rfl rfl rfl rfl rfl rfl (Nat.le_refl _) ?_) | refine gl_x hΓ rfl rfl ?_ | refine gl_nil ?_ | refine gl_skip rfl rfl ?_ | refine gl_xg hΓ rfl rfl rfl ?_ | refine gl_gsplit rfl rfl (fun h => ?_) (fun h => ?_) | refine ew_draw rfl (by kernel_rfl) ?_ | refine gl_o rfl (by exact op_rem rfl rfl hne') ?_ | refine gl_o rfl (by exact op_quo rfl rfl hne') ?_ | refine eo_pure rfl (Nat.le_refl _) rfl rfl (callable Tryd.func63 rfl rfl) (c_below _ 1073741824 (by decide) (by decide)) rfl rfl ?_ | refine eo_pure rfl (Nat.le_refl _) rfl rfl (callable Tryd.func63 rfl rfl) (c_below _ n hn hn2) rfl rfl ?_ | refine eo_elem (ys := eI z) hΓ (a.toNat % l.length) rfl rfl rfl rfl rfl hkk hk (fun j d hd => flat_elem (sz := 1) (fun _ _ => rfl) hz j d hd) (by simp) rfl ?_)
    all_goals (try simp only [decide_eq_true_eq, decide_eq_false_iff_not, Bool.not_eq_true', Bool.not_eq_false', Bool.not_eq_true, Bool.not_eq_false, beq_iff_eq, beq_eq_false_iff_ne, bne_iff_ne, bne_eq_false_iff_eq, size_S, toList_S, Bool.and_eq_true, Bool.or_eq_true, Bool.and_eq_false_iff, Bool.or_eq_false_iff] at *)
    all_goals first
      | omega
      | (refine ⟨by simp, [_], [], _, (List.append_nil _).symm, ⟨_, (below_ok _ n hn).1, (below_ok _ n hn).2, rfl, ?_⟩, Nat.le_refl _, .inl rfl, res_all hΓ rfl rfl⟩
         simp [strm, setAt, hw])
theorem c_flip (l : List Int) (a n : Int) (hl : l.length ≤ 9223372036854775807) (h0 : 0 ≤ a) (h1 : a < 4611686018427387904) (hn : 1 ≤ n) (hn2 : n ≤ 4611686018427387904) :
    EC Tryd.prog 25 [.ptr 0 0, I n] [strm l a] fun g hp' => ∃ b : Bool, g = B b ∧ hp' = [strm l (a + 1)] := by
  refine ec_enter (Fr.of 0 [.ptr 0 0, I n]) Tryd.func25 rfl (Fr.of_ok _) (Nat.le_of_ble_eq_true rfl) fun _ => ?_
  repeat' (first | refine eo_x hΓ rfl rfl ?_ | refine eo_nil ?_ | refine eo_skip rfl rfl ?_ | refine eo_guard rfl ?_ | refine eo_gsplit rfl rfl (fun h => ?_) (fun h => ?_) | refine ew_seq ?_ | refine ew_region ?_ | refine ew_block ?_ | refine ew_skip ?_ | refine ew_exit ?_ | refine ew_ret ?_ | refine ew_condT rfl ?_ | refine ew_condF rfl ?_ | refine ew_cond rfl (fun h => ?_) (fun h => ?_))
  refine eo_call rfl (Nat.le_refl _) rfl rfl (callable Tryd.func37 rfl rfl) (c_next l a n hl h0 h1 hn hn2) ?_
  rintro _ _ ⟨r, r0, r1, rfl, rfl⟩
  repeat' (first | refine eo_x hΓ rfl rfl ?_ | refine eo_nil ?_ | refine eo_skip rfl rfl ?_ | refine eo_guard rfl ?_ | refine eo_gsplit rfl rfl (fun h => ?_) (fun h => ?_) | refine ew_seq ?_ | refine ew_region ?_ | refine ew_block ?_ | refine ew_skip ?_ | refine ew_exit ?_ | refine ew_ret ?_ | refine ew_condT rfl ?_ | refine ew_condF rfl ?_ | refine ew_cond rfl (fun h => ?_) (fun h => ?_))
  exact ⟨by simp, [_], [], _, (List.append_nil _).symm, ⟨_, rfl, rfl⟩, Nat.le_refl _, .inl rfl, res_all hΓ rfl rfl⟩
theorem c_some (l : List Int) (a : Int) (xs : List (List UInt8)) (hl : l.length ≤ 9223372036854775807) (h0 : 0 ≤ a) (h1 : a < 4611686018427387904) (hn : 1 ≤ xs.length) (hn2 : xs.length ≤ 4611686018427387904) :
    EC Tryd.prog 26 [.ptr 0 0, .d (Sl eS xs)] [strm l a] fun g hp' => ∃ x, x ∈ xs ∧ g = S x ∧ hp' = [strm l (a + 1)] := by
  refine ec_enter (Fr.of 0 [.ptr 0 0, .d (Sl eS xs)]) Tryd.func26 rfl (Fr.of_ok _) (Nat.le_of_ble_eq_true rfl) fun _ => ?_
  repeat' (first | refine eo_x hΓ rfl rfl ?_ | refine eo_nil ?_ | refine eo_skip rfl rfl ?_ | refine eo_guard rfl ?_ | refine eo_gsplit rfl rfl (fun h => ?_) (fun h => ?_) | refine ew_seq ?_ | refine ew_region ?_ | refine ew_block ?_ | refine ew_skip ?_ | refine ew_exit ?_ | refine ew_ret ?_ | refine ew_condT rfl ?_ | refine ew_condF rfl ?_ | refine ew_cond rfl (fun h => ?_) (fun h => ?_))
  refine eo_call rfl (Nat.le_refl _) rfl rfl (callable Tryd.func37 rfl rfl) (c_next l a xs.length hl h0 h1 (by omega) (by omega)) ?_
  rintro _ _ ⟨r, r0, r1, rfl, rfl⟩
  obtain ⟨k, rfl⟩ := Int.eq_ofNat_of_zero_le r0
  have hk : k < xs.length := by omega
  have hz := List.getElem?_eq_getElem hk
  have hm := List.getElem_mem hk
  generalize xs[k] = z at hz hm
  repeat' (first | refine eo_x hΓ rfl rfl ?_ | refine eo_nil ?_ | refine eo_skip rfl rfl ?_ | refine eo_guard rfl ?_ | refine eo_gsplit rfl rfl (fun h => ?_) (fun h => ?_) | refine ew_seq ?_ | refine ew_region ?_ | refine ew_block ?_ | refine ew_skip ?_ | refine ew_exit ?_ | refine ew_ret ?_ | refine ew_condT rfl ?_ | refine ew_condF rfl ?_ | refine ew_cond rfl (fun h => ?_) (fun h => ?_) | refine eo_elem (ys := eS z) hΓ k rfl rfl rfl rfl rfl rfl hk (fun j d hd => flat_elem (sz := 1) (fun _ _ => rfl) hz j d hd) (by simp) rfl ?_)
  exact ⟨by simp, [_], [], _, (List.append_nil _).symm, ⟨z, hm, rfl, rfl⟩, Nat.le_refl _, .inl rfl, res_all hΓ rfl rfl⟩
end Go.Proofs.YtjhoahdlehkfaaaDoor
