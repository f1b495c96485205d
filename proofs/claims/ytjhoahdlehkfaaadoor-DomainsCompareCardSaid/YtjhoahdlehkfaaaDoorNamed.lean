/-
  lanelaw1.named: it is true.
-/
import Derived.Test.YtjhoahdlehkfaaaDoorName
import Derived.Test.YtjhoahdlehkfaaaDoorGh18
import Derived.Test.YtjhoahdlehkfaaaDoorLabelRun
set_option linter.unusedVariables false
set_option linter.unusedSimpArgs false
set_option maxRecDepth 100000
namespace Go.Proofs.YtjhoahdlehkfaaaDoor
open Go.Gh

theorem c_named : Pure Tryd.prog 11 [] (B true) := by
  have hd : Pure Tryd.prog 8 [S [97, 46, 46, 98]] (I 5) := by
    have := c_checkDomain [97, 46, 46, 98] (by decide)
    have e : domF [97, 46, 46, 98] = 5 := by decide +kernel
    rwa [e] at this
  refine Pure.enter (Fr.of 0 []) Tryd.func11 rfl (Fr.of_ok _) rfl rfl ?_
  repeat' (first | refine eo_x hΓ rfl rfl ?_ | refine eo_nil ?_ | refine eo_skip rfl rfl ?_ | refine eo_guard rfl ?_ | refine eo_gsplit rfl rfl (fun h => ?_) (fun h => ?_) | refine ew_seq ?_ | refine ew_region ?_ | refine ew_block ?_ | refine ew_skip ?_ | refine ew_exit ?_ | refine ew_ret ?_ | refine ew_condT rfl ?_ | refine ew_condF rfl ?_ | refine ew_cond rfl (fun h => ?_) (fun h => ?_) | refine eo_pure rfl (Nat.zero_le _) rfl rfl (callable Tryd.func35 rfl rfl) c_label rfl rfl ?_ | refine eo_pure rfl (Nat.zero_le _) rfl rfl (callable Tryd.func8 rfl rfl) hd rfl rfl ?_)
  · exact ⟨by simp, res_all hΓ rfl (by simp [retG, toList_S])⟩
  · exact absurd h (by simp)
end Go.Proofs.YtjhoahdlehkfaaaDoor
