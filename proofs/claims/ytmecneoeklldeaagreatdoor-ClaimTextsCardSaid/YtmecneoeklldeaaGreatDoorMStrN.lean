import Derived.Test.YtmecneoeklldeaaGreatDoorMStr9
set_option linter.unusedVariables false
namespace Go.Gk
def Kpx(s sep:Str)(n:Int):Option (List Str):=match sep,n with
 | [c],.ofNat k=>gd (Nat.blt s.length 4294967281&&(Nat.ble 1 k&&Nat.ble k 9223372036854775807)) (some (Lib.splitN s [c] k))
 | _,_=>none
end Go.Gk
