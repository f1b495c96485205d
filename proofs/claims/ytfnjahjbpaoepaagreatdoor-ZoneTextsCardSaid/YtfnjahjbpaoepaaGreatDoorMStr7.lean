import Derived.Test.YtfnjahjbpaoepaaGreatDoorMStr6
import Derived.Test.YtfnjahjbpaoepaaGreatDoorMStr3
import Derived.Test.YtfnjahjbpaoepaaGreatDoorGk58
import Derived.Test.YtfnjahjbpaoepaaGreatDoorGk60
import Derived.Lib.AtoiAll
set_option linter.unusedVariables false
namespace Go.Gk
def Kuh(s:Str):Option (Int×Bool):=gd (Nat.ble s.length 281474976710656) (match Lib.atoiAll s with
 | .ok v=>some (v,true)
 | .range=>some (Lib.atoiSat s,false)
 | _=>some (0,false))
end Go.Gk
