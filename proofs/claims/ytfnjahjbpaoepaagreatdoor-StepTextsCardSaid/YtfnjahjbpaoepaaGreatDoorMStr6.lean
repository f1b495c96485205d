import Derived.Test.YtfnjahjbpaoepaaGreatDoorMStr
import Derived.Test.YtfnjahjbpaoepaaGreatDoorMStr
import Derived.Lib.Atoi
set_option linter.unusedVariables false
namespace Go.Gk
def Ksn(s p:Str):Option Int:=gd (Nat.blt s.length 4294967281) (some (Lib.index s p))
def Kso(s:Str):Option Int:=gd (Nat.ble s.length 18) (Lib.atoi s)
end Go.Gk
