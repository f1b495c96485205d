import Derived.Test.YtcihhlhmkcaeeaaGreatDoorMStrS
import Derived.Test.YtcihhlhmkcaeeaaGreatDoorGk65
import Derived.Test.YtcihhlhmkcaeeaaGreatDoorGk53
set_option linter.unusedVariables false
namespace Go.Gk
def Kro(x y c:Int):Option (Int×Int):=gd (decide (0≤x)&&(decide (0≤y)&&(decide (0≤c)&&decide (c≤1)))) (some ((x+y+c) % 18446744073709551616,(x+y+c) / 18446744073709551616))
def Krp(x y c:Int):Option (Int×Int):=gd (decide (0≤x)&&(decide (0≤y)&&(decide (0≤c)&&decide (c≤1)))) (some (((x.toNat+18446744073709551616 - y.toNat - c.toNat) % 18446744073709551616:Nat),((if x.toNat<y.toNat+c.toNat then 1 else 0:Nat):Int)))
end Go.Gk
