import Derived.Test.YtmecneoeklldeaaGreatDoorMStr3
import Derived.Test.YtmecneoeklldeaaGreatDoorGk62
import Derived.Lib.Atoi
import Derived.Lib.ReplaceLaws
set_option linter.unusedVariables false
namespace Go.Gk
def Kqz(s:Str):Option Int:=gd (Nat.ble s.length 18) (Lib.atoi s)
def Kra(s cs:Str):Option Str:=gd (Nat.ble s.length 1099511627776&&(Nat.blt cs.length 4294967281&&cs.all fun b=>Nat.blt b.toNat 128)) (some (Lib.trimLeftS s cs))
def Krb(s old new:Str):Option Str:=gd (Nat.ble 1 old.length&&(Nat.blt s.length 4294967281&&Nat.ble (s.length+s.length * new.length) 140737488355328)) (some (Lib.replaceAll s old new))
end Go.Gk
