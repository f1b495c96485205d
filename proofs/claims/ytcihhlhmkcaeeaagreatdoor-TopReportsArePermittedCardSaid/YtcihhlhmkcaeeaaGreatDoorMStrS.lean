import Derived.Test.YtcihhlhmkcaeeaaGreatDoorMStr3
import Derived.Test.YtcihhlhmkcaeeaaGreatDoorGk49
import Derived.Test.YtcihhlhmkcaeeaaGreatDoorGk53
set_option linter.unusedVariables false
namespace Go.Gk
def Krq(l:List Str):Option (List Str):=gd (Nat.ble l.length 4294967296) (some (l.mergeSort fun x y=>decide (x≤y)))
end Go.Gk
