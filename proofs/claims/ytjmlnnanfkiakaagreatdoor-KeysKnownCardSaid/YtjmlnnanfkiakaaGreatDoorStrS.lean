import Derived.Test.YtjmlnnanfkiakaaGreatDoorGt
import Derived.Test.YtjmlnnanfkiakaaGreatDoorMStr3
import Derived.Test.YtjmlnnanfkiakaaGreatDoorLays
import Derived.Shelf.Strings.SlTrimAscii
set_option linter.all false
set_option maxRecDepth 100000
namespace Go.Proofs.YtjmlnnanfkiakaaGreatDoor
open Go.Gk Go.Shelf
theorem Lct(s cs:List UInt8)(hs:s.length≤1099511627776)(hc:cs.length<4294967281)(ha:∀ b∈cs,b.toNat<128):Pure Tryz.prog 153 [S s,S cs] (S (Lib.trimS s cs)):=
 Pure.of_below rfl rfl fun w=>Any.strings_Trim_laid Tryz.lays160 (by kernel_rfl) ⟨s.toArray⟩ ⟨cs.toArray⟩ w (by simp;omega) (by simpa using hc) (fun j b hb=>ha b (List.mem_of_getElem? hb))
theorem Lcu{s cs r:Str}(h:Kqo s cs=some r):Pure Tryz.prog 153 [S s,S cs] (S r):=by
 obtain⟨h1,h⟩:=Kcp h
 simp only[Bool.and_eq_true] at h1
 cases h;exact Lct s cs (Nat.le_of_ble_eq_true h1.1) (nblt.1 h1.2.1) fun b hb=>nblt.1 (List.all_eq_true.1 h1.2.2 b hb)
theorem Lcv{a b:Str}{r:Int}(h:Kqv a b=some r):Pure Tryz.prog 147 [S a,S b] (I r):=by
 cases h
 exact Pure.of_same rfl rfl fun w=>Tryz.strings_Compare ⟨a.toArray⟩ ⟨b.toArray⟩ w
theorem Lcw(s:List UInt8)(n:Nat)(h1:n≤9223372036854775807)(h2:s.length * n≤140737488355328):Pure Tryz.prog 100 [S s,I n] (S (Lib.repeatL s n)):=
 Pure.of_below rfl rfl fun w=>Tryz.strings_Repeat ⟨s.toArray⟩ n w h1 (by simpa using h2)
theorem Lcx{s:Str}{n:Int}{r:Str}(h:Kqq s n=some r):Pure Tryz.prog 100 [S s,I n] (S r):=by
 unfold Kqq at h
 split at h
 ·obtain⟨h1,h⟩:=Kcp h
  simp only[Bool.and_eq_true] at h1
  cases h;exact Lcw s _ (Nat.le_of_ble_eq_true h1.1) (Nat.le_of_ble_eq_true h1.2)
 cases h
theorem Lcy{s:Str}{c r:Int}(h:Kqw s c=some r):Pure Tryz.prog 201 [S s,.d (.v (.int .u8 c))] (I r):=by
 cases h
 exact Pure.of_same rfl rfl fun w=>Tryz.strings_IndexByte ⟨s.toArray⟩ c w
theorem Lcz{s r:Str}(h:Kqz s=some r):Pure Tryz.prog 200 [S s] (S r):=by
 obtain⟨h1,h⟩:=Kcp h
 obtain⟨h2,h⟩:=Kcp h
 cases h
 exact Pure.of_below rfl rfl fun w=>Tryz.strings_ToLower_ascii ⟨s.toArray⟩ w (by have:=Nat.le_of_ble_eq_true h2;simpa using this) (fun j b hb=>nblt.1 (List.all_eq_true.1 h1 b (List.mem_of_getElem? (by simpa using hb))))
end Go.Proofs.YtjmlnnanfkiakaaGreatDoor
