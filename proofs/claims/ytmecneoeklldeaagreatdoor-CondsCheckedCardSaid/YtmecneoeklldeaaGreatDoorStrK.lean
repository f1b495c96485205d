import Derived.Test.YtmecneoeklldeaaGreatDoorGk53
import Derived.Test.YtmecneoeklldeaaGreatDoorItLays
import Derived.WalkKit
import Derived.ProofKit
set_option linter.unusedVariables false
set_option maxRecDepth 100000
namespace Go.Proofs.YtmecneoeklldeaaGreatDoor
open Go.Gk Go.RowKit Go.Maps Go.Sort Go.Shelf
theorem Lbk(m:Nat):AnyZ.SortsIn Tryz.prog Tryz.sorted54_ren Fence.wide m:=
 ⟨fun blk off cap ss W hH hblk hsz=>callsIn_wide.2 (AnyM.slices_Sort_string Tryz.sort63 blk off cap ss W hH hblk hsz),
  fun p cap W=>callsIn_wide.2 (AnyM.slices_Sort_string_none Tryz.sort63 p cap W)⟩
theorem sk55:SortsKeys Tryz.prog 54 98 9:=fun W Bm b nn D0 hB hc hown hsz=>
 (callsIn_wide.1 (AnyZ.sorted_in Tryz.sorted54 Fence.wide 5 trivial trivial trivial trivial rfl (by omega) (Lbk _) (enters_of Tryz.func63 (by kernel_rfl) rfl) 98 #[.pointer (some ⟨Bm,0,none⟩)] trivial (enters_of Tryz.func98 (by kernel_rfl) rfl) _ _ (Nat.le_trans hsz (by decide)) (by omega) W
  (AnyZ.keys_gives (ρ:=Tryz.keys55_ren) { Tryz.keys55 with } Fence.wide _ trivial rfl (by omega) Bm b nn D0 W hB hc hown))).mono fun e w' ⟨v,ss,h1,h2,h3,_,h5⟩=>⟨v,ss,h1,h2,h3,h5⟩
theorem bm55:BoxesMap Tryz.prog 55 98 92:=fun mb W=>callsIn_wide.1 (AnyZ.keys_in Tryz.keys55 Fence.wide 5 trivial rfl mb W)
theorem str9:Tryz.prog.underlying 9=some .string:=by kernel_rfl
end Go.Proofs.YtmecneoeklldeaaGreatDoor
