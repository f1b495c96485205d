import Derived.Test.YtcihhlhmkcaeeaaGreatDoorGk24
import Derived.Lib.Strings
import Derived.Lib.Split
import Derived.Lib.Repeat
import Derived.Lib.SlTrimSet
import Derived.Lib.Bytealg
import Derived.Lib.IndexMore
import Derived.Lib.ValidU
set_option linter.unusedVariables false
namespace Go.Gk
def Kqx(s p:Str):Option Bool:=some (Lib.hasPrefix s p)
def Kqy(s p:Str):Option Str:=some (Lib.trimPrefix s p)
def Kqz(s p:Str):Option (Str×Bool):=some (Lib.trimPrefix s p,Lib.hasPrefix s p)
def Kra(s p:Str):Option Bool:=gd (Nat.ble s.length 1099511627776) (some (Lib.hasSuffix s p))
def Krb(s cs:Str):Option Str:=gd (Nat.ble s.length 1099511627776&&(Nat.blt cs.length 4294967281&&cs.all fun b=>Nat.blt b.toNat 128)) (some (Lib.trimS s cs))
def Krc(s sep:Str):Option (List Str):=match sep with
 | [c]=>gd (Nat.blt s.length 4294967281) (some (Lib.split s [c]))
 | _=>none
def Krd(s:Str)(n:Int):Option Str:=match n with
 | .ofNat k=>gd (Nat.ble k 9223372036854775807&&Nat.ble (s.length * k) 140737488355328) (some (Lib.repeatL s k))
 | _=>none
def cut1(s:Str)(c:UInt8):Str×Str×Bool:=if 0≤Lib.indexByte s c then(s.take (Lib.indexByte s c).toNat,s.drop ((Lib.indexByte s c).toNat+1),true) else(s,[],false)
def Kre(s sep:Str):Option (Str×Str×Bool):=match sep with
 | [c]=>gd (Nat.ble s.length 1099511627776) (some (cut1 s c))
 | sep=>gd (Nat.blt s.length 4294967281) (some (Lib.cut s sep))
def Krf(s sep:Str):Option Int:=match sep with
 | [c]=>some (Lib.countByte s c)
 | _=>none
def Krg(s:Str):Option Bool:=gd (Nat.ble s.length 9223372036854775807) (some (Lib.validD s))
def Krh(s p:Str):Option Bool:=gd (Nat.blt s.length 4294967281) (some (Lib.contains s p))
def Kri(a b:Str):Option Int:=some (Lib.compareBytes a b)
end Go.Gk
