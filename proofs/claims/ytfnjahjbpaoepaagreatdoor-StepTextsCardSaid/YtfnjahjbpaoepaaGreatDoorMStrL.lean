import Derived.Test.YtfnjahjbpaoepaaGreatDoorMStr3
import Derived.Lib.Case
import Derived.Test.YtfnjahjbpaoepaaGreatDoorGk69
set_option linter.unusedVariables false
namespace Go.Gk
abbrev kBo(b:Bool):Value:=.bool b
instance:KLt Bool:=⟨fun a b=>!a&&b⟩
open Go.Instr in
theorem Ksq:KeyOk (K:=Bool) .bool kBo:=⟨fun a b=>by simp[Instr.sameNow,kBo],fun a b h=>by
  obtain rfl:a=b:=by simpa using h
  simp[Instr.sameBits,kBo],fun a=>by simp[MapKept.IsKey,kBo],fun a b h=>by simpa using h,fun a=>by simp⟩
def Ksp(s:Str):Option Str:=gd (s.all fun b=>Nat.blt b.toNat 128) (gd (Nat.ble s.length 140737488355328) (some (Lib.toLowerA s)))
end Go.Gk
