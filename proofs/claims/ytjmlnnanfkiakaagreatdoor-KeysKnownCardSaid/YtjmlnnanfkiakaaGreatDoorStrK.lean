import Derived.Test.YtjmlnnanfkiakaaGreatDoorGk53
import Derived.Test.YtjmlnnanfkiakaaGreatDoorItLays
import Derived.WalkKit
import Derived.ProofKit
set_option linter.unusedVariables false
set_option maxRecDepth 100000
namespace Go.Proofs.YtjmlnnanfkiakaaGreatDoor
open Go.Gk Go.RowKit Go.Maps Go.Sort Go.Shelf
theorem Lov(m:Nat):AnyZ.SortsIn Tryz.prog Tryz.sorted141_ren Fence.wide m:=
 ⟨fun blk off cap ss W hH hblk hsz=>callsIn_wide.2 (AnyM.slices_Sort_string Tryz.sort232 blk off cap ss W hH hblk hsz),
  fun p cap W=>callsIn_wide.2 (AnyM.slices_Sort_string_none Tryz.sort232 p cap W)⟩
theorem Low:SortsKeys Tryz.prog 141 305 9:=fun W Bm b nn D0 hB hc hown hsz=>
 (callsIn_wide.1 (AnyZ.sorted_in Tryz.sorted141 Fence.wide 5 trivial trivial trivial trivial rfl (by omega) (Lov _) (enters_of Tryz.func232 (by kernel_rfl) rfl) 305 #[.pointer (some ⟨Bm,0,none⟩)] trivial (enters_of Tryz.func305 (by kernel_rfl) rfl) _ _ (Nat.le_trans hsz (by decide)) (by omega) W
  (AnyZ.keys_gives (ρ:=Tryz.keys230_ren) { Tryz.keys230 with } Fence.wide _ trivial rfl (by omega) Bm b nn D0 W hB hc hown))).mono fun e w' ⟨v,ss,h1,h2,h3,_,h5⟩=>⟨v,ss,h1,h2,h3,h5⟩
theorem Lox:BoxesMap Tryz.prog 230 305 203:=fun mb W=>callsIn_wide.1 (AnyZ.keys_in Tryz.keys230 Fence.wide 5 trivial rfl mb W)
theorem str9:Tryz.prog.underlying 9=some .string:=by kernel_rfl
end Go.Proofs.YtjmlnnanfkiakaaGreatDoor
