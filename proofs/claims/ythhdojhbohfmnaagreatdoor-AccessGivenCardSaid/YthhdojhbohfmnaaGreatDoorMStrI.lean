import Derived.Test.YthhdojhbohfmnaaGreatDoorMStr
import Derived.Test.YthhdojhbohfmnaaGreatDoorGk52
set_option linter.unusedVariables false
namespace Go.Gk
def Kto(l:List Int):Option (List Int):=gd (Nat.ble l.length 4294967296) (some (l.mergeSort fun x y=>decide (x≤y)))
end Go.Gk
