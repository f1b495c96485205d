/-
  lanemake.Stream.Domain: some string that is not long.
-/
import Derived.Test.YtjhoahdlehkfaaaDoorDraw
import Derived.Test.YtjhoahdlehkfaaaDoorStr
set_option linter.unusedVariables false
set_option linter.unusedSimpArgs false
set_option maxRecDepth 100000
namespace Go.Proofs.YtjhoahdlehkfaaaDoor
open Go.Gh

def dom1 : List (List UInt8) := [[], [46], [97, 46, 46, 98], [45, 97], [65, 46, 98], [97, 95, 98], [95, 120, 46, 121], Lib.repeatL [97] 64, Lib.repeatL [97, 98, 99, 46] 63 ++ [120], Lib.repeatL [97, 98, 99, 46] 63 ++ [120, 121], [97, 46]]
theorem c_domain (l : List Int) (a : Int) (hl : l.length ≤ 9223372036854775807) (h0 : 0 ≤ a) (h1 : a < 4611686018427387900) :
    EC Tryd.prog 5 [.ptr 0 0] [strm l a] fun g hp' => ∃ s : List UInt8, s.length ≤ 300 ∧ g = S s ∧ hp' = [strm l (a + 2)] := by
  refine ec_enter (Fr.of 0 [.ptr 0 0]) Tryd.func5 rfl (Fr.of_ok _) (Nat.le_of_ble_eq_true rfl) fun _ => ?_
  repeat' (first | refine eo_x hΓ rfl rfl ?_ | refine eo_nil ?_ | refine eo_skip rfl rfl ?_ | refine eo_guard rfl ?_ | refine eo_gsplit rfl rfl (fun h => ?_) (fun h => ?_) | refine ew_seq ?_ | refine ew_region ?_ | refine ew_block ?_ | refine ew_skip ?_ | refine ew_exit ?_ | refine ew_ret ?_ | refine ew_condT rfl ?_ | refine ew_condF rfl ?_ | refine ew_cond rfl (fun h => ?_) (fun h => ?_))
  refine eo_call rfl (Nat.le_refl _) rfl rfl (callable Tryd.func25 rfl rfl) (c_flip l a 12 hl h0 (by omega) (by decide) (by decide)) ?_
  rintro _ _ ⟨b, rfl, rfl⟩
  have e2 : a + 1 + 1 = a + 2 := by omega
  repeat' (first | refine eo_x hΓ rfl rfl ?_ | refine eo_nil ?_ | refine eo_skip rfl rfl ?_ | refine eo_guard rfl ?_ | refine eo_gsplit rfl rfl (fun h => ?_) (fun h => ?_) | refine ew_seq ?_ | refine ew_region ?_ | refine ew_block ?_ | refine ew_skip ?_ | refine ew_exit ?_ | refine ew_ret ?_ | refine ew_condT rfl ?_ | refine ew_condF rfl ?_ | refine ew_cond rfl (fun h => ?_) (fun h => ?_) | refine eo_pure rfl (Nat.le_refl _) rfl rfl (callable Tryd.func27 rfl rfl) (c_repeat _ 64 (by decide) (by decide)) rfl rfl ?_ | refine eo_pure rfl (Nat.le_refl _) rfl rfl (callable Tryd.func27 rfl rfl) (c_repeat _ 63 (by decide) (by decide)) rfl rfl ?_ | refine eo_cat rfl rfl (by decide +kernel) rfl ?_ | refine eo_lit hΓ rfl rfl rfl rfl rfl rfl rfl rfl rfl rfl rfl (Nat.le_refl _) ?_)
  · refine eo_call rfl (Nat.le_refl _) rfl rfl (callable Tryd.func26 rfl rfl) (c_some l (a + 1) dom1 hl (by omega) (by omega) (by decide) (by decide)) ?_
    rintro _ _ ⟨x, hx, rfl, rfl⟩
    rw [e2]
    repeat' (first | refine eo_x hΓ rfl rfl ?_ | refine eo_nil ?_ | refine eo_skip rfl rfl ?_ | refine eo_guard rfl ?_ | refine eo_gsplit rfl rfl (fun h => ?_) (fun h => ?_) | refine ew_seq ?_ | refine ew_region ?_ | refine ew_block ?_ | refine ew_skip ?_ | refine ew_exit ?_ | refine ew_ret ?_ | refine ew_condT rfl ?_ | refine ew_condF rfl ?_ | refine ew_cond rfl (fun h => ?_) (fun h => ?_))
    exact ⟨by simp, [_], [], _, (List.append_nil _).symm, ⟨x, (by decide +kernel : ∀ x ∈ dom1, x.length ≤ 300) x hx, rfl, rfl⟩, Nat.le_refl _, .inl rfl, res_all hΓ rfl rfl⟩
  · refine eo_call rfl (Nat.le_refl _) rfl rfl (callable Tryd.func26 rfl rfl) (c_some l (a + 1) [_, _, _, _, _, _, _, _, _, _, _, _] hl (by omega) (by omega) (by simp) (by simp)) ?_
    rintro _ _ ⟨x, hx, rfl, rfl⟩
    rw [e2]
    repeat' (first | refine eo_x hΓ rfl rfl ?_ | refine eo_nil ?_ | refine eo_skip rfl rfl ?_ | refine eo_guard rfl ?_ | refine eo_gsplit rfl rfl (fun h => ?_) (fun h => ?_) | refine ew_seq ?_ | refine ew_region ?_ | refine ew_block ?_ | refine ew_skip ?_ | refine ew_exit ?_ | refine ew_ret ?_ | refine ew_condT rfl ?_ | refine ew_condF rfl ?_ | refine ew_cond rfl (fun h => ?_) (fun h => ?_))
    exact ⟨by simp, [_], [], _, (List.append_nil _).symm, ⟨x, (by decide +kernel : ∀ x ∈ [_, _, _, _, _, _, _, _, _, _, _, _], x.length ≤ 300) x hx, rfl, rfl⟩, Nat.le_refl _, .inl rfl, res_all hΓ rfl rfl⟩
end Go.Proofs.YtjhoahdlehkfaaaDoor
