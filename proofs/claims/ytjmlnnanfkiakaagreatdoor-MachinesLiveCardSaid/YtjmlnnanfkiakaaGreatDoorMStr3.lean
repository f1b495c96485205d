import Derived.Test.YtjmlnnanfkiakaaGreatDoorMStr
import Derived.Test.YtjmlnnanfkiakaaGreatDoorGk52
import Derived.Lib.Join
import Derived.Lib.ItoaNum
import Derived.Lib.Case
set_option linter.unusedVariables false
namespace Go.Gk
def Kqz(s:Str)(c:Int):Option Int:=some (Lib.indexByte s c.toNat.toUInt8)
def Kra(n:Int):Option Str:=match n with
 | .ofNat k=>gd (Nat.blt k 100) (some (Lib.decDigits k))
 | _=>none
def Krb(l:List Str)(sep:Str):Option Str:=gd (Nat.ble l.length 4294967296&&Nat.ble (Lib.join l sep).length 1099511627776) (some (Lib.join l sep))
def Krc(s:Str):Option Str:=gd (s.all fun b=>Nat.blt b.toNat 128) (gd (Nat.ble s.length 140737488355328) (some (Lib.toLowerA s)))
def Krd(l:List Int):Option (List Int):=gd (Nat.ble l.length 4294967296) (some (l.mergeSort fun x y=>decide (x≤y)))
end Go.Gk
