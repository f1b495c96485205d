import Derived.Test.YthhdojhbohfmnaaGreatDoorGk53
import Derived.Test.YthhdojhbohfmnaaGreatDoorItLays
import Derived.WalkKit
import Derived.ProofKit
set_option linter.unusedVariables false
set_option maxRecDepth 100000
namespace Go.Proofs.YthhdojhbohfmnaaGreatDoor
open Go.Gk Go.RowKit Go.Maps Go.Sort Go.Shelf
theorem Lla(m:Nat):AnyZ.SortsIn Tryz.prog Tryz.sorted136_ren Fence.wide m:=
 ⟨fun blk off cap ss W hH hblk hsz=>callsIn_wide.2 (AnyM.slices_Sort_string Tryz.sort199 blk off cap ss W hH hblk hsz),
  fun p cap W=>callsIn_wide.2 (AnyM.slices_Sort_string_none Tryz.sort199 p cap W)⟩
theorem Llb:SortsKeys Tryz.prog 136 200 9:=fun W Bm b nn D0 hB hc hown hsz=>
 (callsIn_wide.1 (AnyZ.sorted_in Tryz.sorted136 Fence.wide 5 trivial trivial trivial trivial rfl (by omega) (Lla _) (enters_of Tryz.func199 (by kernel_rfl) rfl) 200 #[.pointer (some ⟨Bm,0,none⟩)] trivial (enters_of Tryz.func200 (by kernel_rfl) rfl) _ _ (Nat.le_trans hsz (by decide)) (by omega) W
  (AnyZ.keys_gives (ρ:=Tryz.keys137_ren) { Tryz.keys137 with } Fence.wide _ trivial rfl (by omega) Bm b nn D0 W hB hc hown))).mono fun e w' ⟨v,ss,h1,h2,h3,_,h5⟩=>⟨v,ss,h1,h2,h3,h5⟩
theorem Llc:BoxesMap Tryz.prog 137 200 184:=fun mb W=>callsIn_wide.1 (AnyZ.keys_in Tryz.keys137 Fence.wide 5 trivial rfl mb W)
theorem str9:Tryz.prog.underlying 9=some .string:=by kernel_rfl
end Go.Proofs.YthhdojhbohfmnaaGreatDoor
