/-
  lanelaw1.named: it is true.
-/
import Derived.Test.YtjhoahdlehkfaaaDoorName
import Derived.Test.YtjhoahdlehkfaaaDoorGh18
set_option linter.unusedVariables false
set_option linter.unusedSimpArgs false
set_option maxRecDepth 100000
namespace Go.Proofs.YtjhoahdlehkfaaaDoor
open Go.Gh

set_option maxHeartbeats 4000000 in
theorem c_label : Pure Tryd.prog 35 [S [65, 32, 98]] (S [97, 45, 98]) := by
  have ht : Pure Tryd.prog 61 [S [97, 45, 98], S [45]] (S [97, 45, 98]) := c_trim [97, 45, 98] [45] (by decide) (by decide) (by decide)
  refine Pure.enter (Fr.of 0 [S [65, 32, 98]]) Tryd.func35 rfl (Fr.of_ok _) rfl rfl ?_
  repeat' (first | refine eo_ownNil 5 1 3 rfl (Nat.zero_le _) ?_ | refine eo_x hΓ rfl rfl ?_ | refine eo_nil ?_ | refine eo_skip rfl rfl ?_ | refine eo_guard rfl ?_ | refine eo_gsplit rfl rfl (fun h => ?_) (fun h => ?_) | refine ew_seq ?_ | refine ew_region ?_ | refine ew_block ?_ | refine ew_skip ?_ | refine ew_exit ?_ | refine ew_ret ?_ | refine ew_condT rfl ?_ | refine ew_condF rfl ?_ | refine ew_cond rfl (fun h => ?_) (fun h => ?_))
  refine ew_rounds 4 ?_
  repeat' (first | refine eo_x hΓ rfl rfl ?_ | refine eo_nil ?_ | refine eo_skip rfl rfl ?_ | refine eo_guard rfl ?_ | refine eo_gsplit rfl rfl (fun h => ?_) (fun h => ?_) | refine ew_seq ?_ | refine ew_region ?_ | refine ew_block ?_ | refine ew_skip ?_ | refine ew_exit ?_ | refine ew_ret ?_ | refine ew_condT rfl ?_ | refine ew_condF rfl ?_ | refine ew_cond rfl (fun h => ?_) (fun h => ?_) | refine er_succ ?_ | refine eo_byte hΓ 0 rfl rfl rfl rfl rfl rfl rfl ?_ | refine eo_byte hΓ 1 rfl rfl rfl rfl rfl rfl rfl ?_ | refine eo_byte hΓ 2 rfl rfl rfl rfl rfl rfl rfl ?_ | refine eo_pure rfl (Nat.zero_le _) rfl rfl (callable Tryd.func59 rfl rfl) (c_isLetter 97) rfl rfl ?_ | refine eo_pure rfl (Nat.zero_le _) rfl rfl (callable Tryd.func59 rfl rfl) (c_isLetter 98) rfl rfl ?_ | refine eo_pure rfl (Nat.zero_le _) rfl rfl (callable Tryd.func59 rfl rfl) (c_isLetter 32) rfl rfl ?_ | refine eo_lit hΓ rfl rfl rfl rfl rfl rfl rfl rfl rfl rfl rfl (Nat.zero_le _) ?_ | refine eo_append hΓ rfl rfl rfl rfl rfl rfl rfl rfl rfl (by decide) (by decide) rfl rfl rfl ?_ | refine eo_elemRow hΓ 0 rfl rfl rfl rfl rfl rfl (by decide) rfl ?_ | refine eo_loadRow (ys := [.v (.int .u8 97)]) hΓ rfl rfl rfl (fun j d h => by cases j with | zero => exact h | succ j => simp at h) rfl rfl ?_ | refine eo_subRow hΓ 3 rfl rfl rfl rfl rfl rfl (by decide) rfl ?_ | refine eo_o rfl (by exact op_strRow hΓ [97, 45, 98] rfl rfl rfl rfl rfl rfl rfl rfl rfl (fun j b h => by match j with | 0 => cases h; rfl | 1 => cases h; rfl | 2 => cases h; rfl | j + 3 => simp at h)) ?_ | refine eo_pure rfl (Nat.zero_le _) rfl rfl (callable Tryd.func61 rfl rfl) ht rfl rfl ?_)
  all_goals first
    | exact ⟨by simp, res_all hΓ rfl rfl⟩
    | (exfalso; simp [toList_S] at h)

end Go.Proofs.YtjhoahdlehkfaaaDoor
