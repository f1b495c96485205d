import Derived.Test.YtcihhlhmkcaeeaaGreatDoorGt
import Derived.Test.YtcihhlhmkcaeeaaGreatDoorMStr3
import Derived.Test.YtcihhlhmkcaeeaaGreatDoorLays
set_option linter.unusedVariables false
set_option maxRecDepth 100000
namespace Go.Proofs.YtcihhlhmkcaeeaaGreatDoor
open Go.Gk Go.Shelf
theorem Ktk{a b:Str}{r:Int}(h:Kri a b=some r):Pure Tryz.prog 53 [S a,S b] (I r):=by
 cases h
 exact Pure.of_same rfl rfl fun w=>Tryz.strings_Compare ⟨a.toArray⟩ ⟨b.toArray⟩ w
end Go.Proofs.YtcihhlhmkcaeeaaGreatDoor
