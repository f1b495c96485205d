import Derived.Test.YtmecneoeklldeaaGreatDoorGt
import Derived.Test.YtmecneoeklldeaaGreatDoorMStr3
import Derived.Test.YtmecneoeklldeaaGreatDoorLays
set_option linter.unusedVariables false
set_option maxRecDepth 100000
namespace Go.Proofs.YtmecneoeklldeaaGreatDoor
open Go.Gk Go.Shelf
theorem Kso{a b:Str}{r:Int}(h:Kpo a b=some r):Pure Tryz.prog 82 [S a,S b] (I r):=by
 cases h
 exact Pure.of_same rfl rfl fun w=>Tryz.strings_Compare ⟨a.toArray⟩ ⟨b.toArray⟩ w
end Go.Proofs.YtmecneoeklldeaaGreatDoor
