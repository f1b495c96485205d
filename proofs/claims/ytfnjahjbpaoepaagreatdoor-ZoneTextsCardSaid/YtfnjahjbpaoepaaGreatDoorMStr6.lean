import Derived.Test.YtfnjahjbpaoepaaGreatDoorPUM
import Derived.Test.YtfnjahjbpaoepaaGreatDoorMStr
import Derived.Lib.Atoi
set_option linter.unusedVariables false
namespace Go.Gk
def Kue(s:Str)(b k:Int):Option (Option Int):=bi (Kul 0 s b k) fun y=>match y with
 | (n,.nilIface)=>some (some n)
 | (_,.iface 317 (.int .i64 1))=>gd (Nat.ble s.length 281474976710656) (some none)
 | (_,.iface 317 (.int .i64 2))=>gd (Nat.ble s.length 281474976710656) (some none)
 | _=>none
def Kuf(s p:Str):Option Int:=gd (Nat.blt s.length 4294967281) (some (Lib.index s p))
def Kug(s:Str):Option Int:=gd (Nat.ble s.length 18) (Lib.atoi s)
end Go.Gk
