import Derived.Test.YtmecneoeklldeaaGreatDoorMStr9
import Derived.Test.YtmecneoeklldeaaGreatDoorGk53
set_option linter.unusedVariables false
namespace Go.Gk
def Krc(l:List Str):Option (List Str):=gd (Nat.ble l.length 4294967296) (some (l.mergeSort fun x y=>decide (x≤y)))
end Go.Gk
