import Derived.Test.YtjmlnnanfkiakaaGreatDoorGt
import Derived.Test.YtjmlnnanfkiakaaGreatDoorMStr3
import Derived.Test.YtjmlnnanfkiakaaGreatDoorLays
import Derived.Shelf.Strings.SlTrimAscii
set_option linter.all false
set_option maxRecDepth 100000
namespace Go.Proofs.YtjmlnnanfkiakaaGreatDoor
open Go.Gk Go.Shelf
theorem Lfs(s cs:List UInt8)(hs:s.length≤1099511627776)(hc:cs.length<4294967281)(ha:∀ b∈cs,b.toNat<128):Pure Tryz.prog 153 [S s,S cs] (S (Lib.trimS s cs)):=
 Pure.of_below rfl rfl fun w=>Any.strings_Trim_laid Tryz.lays160 (by kernel_rfl) ⟨s.toArray⟩ ⟨cs.toArray⟩ w (by simp;omega) (by simpa using hc) (fun j b hb=>ha b (List.mem_of_getElem? hb))
theorem Lft{s cs r:Str}(h:Kzm s cs=some r):Pure Tryz.prog 153 [S s,S cs] (S r):=by
 obtain⟨h1,h⟩:=Kjv h
 simp only[Bool.and_eq_true] at h1
 cases h;exact Lfs s cs (Nat.le_of_ble_eq_true h1.1) (nblt.1 h1.2.1) fun b hb=>nblt.1 (List.all_eq_true.1 h1.2.2 b hb)
theorem Lfu{a b:Str}{r:Int}(h:Kzt a b=some r):Pure Tryz.prog 147 [S a,S b] (I r):=by
 cases h
 exact Pure.of_same rfl rfl fun w=>Tryz.strings_Compare ⟨a.toArray⟩ ⟨b.toArray⟩ w
theorem Lfv(s:List UInt8)(n:Nat)(h1:n≤9223372036854775807)(h2:s.length * n≤140737488355328):Pure Tryz.prog 100 [S s,I n] (S (Lib.repeatL s n)):=
 Pure.of_below rfl rfl fun w=>Tryz.strings_Repeat ⟨s.toArray⟩ n w h1 (by simpa using h2)
theorem Lfw{s:Str}{n:Int}{r:Str}(h:Kzo s n=some r):Pure Tryz.prog 100 [S s,I n] (S r):=by
 unfold Kzo at h
 split at h
 ·obtain⟨h1,h⟩:=Kjv h
  simp only[Bool.and_eq_true] at h1
  cases h;exact Lfv s _ (Nat.le_of_ble_eq_true h1.1) (Nat.le_of_ble_eq_true h1.2)
 cases h
theorem Lfx{s:Str}{c r:Int}(h:Kzu s c=some r):Pure Tryz.prog 201 [S s,.d (.v (.int .u8 c))] (I r):=by
 cases h
 exact Pure.of_same rfl rfl fun w=>Tryz.strings_IndexByte ⟨s.toArray⟩ c w
theorem Lfy{s r:Str}(h:Kzx s=some r):Pure Tryz.prog 200 [S s] (S r):=by
 obtain⟨h1,h⟩:=Kjv h
 obtain⟨h2,h⟩:=Kjv h
 cases h
 exact Pure.of_below rfl rfl fun w=>Tryz.strings_ToLower_ascii ⟨s.toArray⟩ w (by have:=Nat.le_of_ble_eq_true h2;simpa using this) (fun j b hb=>nblt.1 (List.all_eq_true.1 h1 b (List.mem_of_getElem? (by simpa using hb))))
end Go.Proofs.YtjmlnnanfkiakaaGreatDoor
