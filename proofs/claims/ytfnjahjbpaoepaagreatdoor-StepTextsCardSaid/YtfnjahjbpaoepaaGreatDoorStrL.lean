import Derived.Test.YtfnjahjbpaoepaaGreatDoorGt
import Derived.Test.YtfnjahjbpaoepaaGreatDoorMStrL
import Derived.Test.YtfnjahjbpaoepaaGreatDoorLays
import Derived.Shelf.Strings.SlTrimAscii
set_option linter.all false
set_option maxRecDepth 100000
namespace Go.Proofs.YtfnjahjbpaoepaaGreatDoor
open Go.Gk Go.Shelf
theorem Kxn{s:Str}{c r:Int}(h:Ksi s c=some r):Pure Tryz.prog 210 [S s,.d (.v (.int .u8 c))] (I r):=by
 cases h
 exact Pure.of_same rfl rfl fun w=>Tryz.strings_IndexByte ⟨s.toArray⟩ c w
theorem Kxo{s r:Str}(h:Ksp s=some r):Pure Tryz.prog 209 [S s] (S r):=by
 obtain⟨h1,h⟩:=Kgr h
 obtain⟨h2,h⟩:=Kgr h
 cases h
 exact Pure.of_below rfl rfl fun w=>Tryz.strings_ToLower_ascii ⟨s.toArray⟩ w (by have:=Nat.le_of_ble_eq_true h2;simpa using this) (fun j b hb=>nblt.1 (List.all_eq_true.1 h1 b (List.mem_of_getElem? (by simpa using hb))))
end Go.Proofs.YtfnjahjbpaoepaaGreatDoor
