import Derived.Test.YthhdojhbohfmnaaGreatDoorGt
import Derived.Test.YthhdojhbohfmnaaGreatDoorMStr
import Derived.Test.YthhdojhbohfmnaaGreatDoorGk52
import Derived.Test.YthhdojhbohfmnaaGreatDoorLaysB
set_option linter.unusedVariables false
set_option maxRecDepth 100000
namespace Go.Proofs.YthhdojhbohfmnaaGreatDoor
open Go.Gk Go.Shelf
theorem Kuo{a b:Str}{r:Int}(h:Ktk a b=some r):Pure Tryz.prog 131 [S a,S b] (I r):=by
 cases h
 exact Pure.of_same rfl rfl fun w=>Tryz.strings_Compare ⟨a.toArray⟩ ⟨b.toArray⟩ w
end Go.Proofs.YthhdojhbohfmnaaGreatDoor
