import Derived.Test.YtcihhlhmkcaeeaaGreatDoorMStr
import Derived.Test.YtcihhlhmkcaeeaaGreatDoorGk49
import Derived.Lib.Join
import Derived.Lib.ItoaNum
import Derived.Lib.Case
set_option linter.unusedVariables false
namespace Go.Gk
def Krj(s:Str)(c:Int):Option Int:=some (Lib.indexByte s c.toNat.toUInt8)
def Krk(n:Int):Option Str:=gd (decide (-9223372036854775808≤n)&&decide (n≤9223372036854775807)) (some (Lib.itoa n))
def hexB(n:Nat):UInt8:=if n<10 then(48+n).toUInt8 else(87+n).toUInt8
def hexS(u:Nat):Str:=if u<16 then[hexB u] else if u<256 then[hexB (u / 16),hexB (u % 16)] else if u<4096 then[hexB (u / 16 / 16),hexB (u / 16 % 16),hexB (u % 16)] else[hexB (u / 16 / 16 / 16),hexB (u / 16 / 16 % 16),hexB (u / 16 % 16),hexB (u % 16)]
def Krl(n base:Int):Option Str:=match n with
 | .ofNat u=>bif decide (base=16) then gd (Nat.blt u 65536) (some (hexS u)) else none
 | _=>none
def Krm(n base:Int):Option Str:=match n with
 | .ofNat u=>bif decide (base=10) then gd (Nat.blt u 18446744073709551616) (some (Lib.decDigits u)) else bif decide (base=16) then gd (Nat.blt u 65536) (some (hexS u)) else none
 | _=>none
def Krn(l:List Str)(sep:Str):Option Str:=gd (Nat.ble l.length 4294967296&&Nat.ble (Lib.join l sep).length 1099511627776) (some (Lib.join l sep))
end Go.Gk
