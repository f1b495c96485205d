import Derived.Test.YtfnjahjbpaoepaaGreatDoorStr
import Derived.Test.YtfnjahjbpaoepaaGreatDoorLays2
import Derived.Shelf.Unicode.ValidAny
set_option linter.all false
set_option maxRecDepth 100000
namespace Go.Proofs.YtfnjahjbpaoepaaGreatDoor
open Go.Gk Go.Shelf
theorem Kvi{a b:Str}{r:Int}(h:Kty a b=some r):Pure Tryz.prog 64 [S a,S b] (I r):=by
 cases h
 exact Pure.of_same rfl rfl fun w=>Tryz.strings_Compare ⟨a.toArray⟩ ⟨b.toArray⟩ w
theorem Kvj{s:Str}{r:Bool}(h:Ktw s=some r):Pure Tryz.prog 251 [S s] (B r):=by
 obtain⟨h1,h⟩:=Kcz h
 cases h
 exact Pure.of_belowX rfl rfl fun w hT=>Any.utf8_ValidString YtfnjahjbpaoepaaGreatDoor.l196 ⟨s.toArray⟩ w (by have:=Nat.le_of_ble_eq_true h1;simpa using this) hT.1
theorem Kvk{s p:Str}{r:Bool}(h:Ktx s p=some r):Pure Tryz.prog 189 [S s,S p] (B r):=by
 obtain⟨h1,h⟩:=Kcz h
 cases h
 refine Pure.of_belowX rfl rfl fun w hT=>?_
 obtain⟨m,hm⟩:=hT.2.1
 exact(Tryz.strings_Contains ⟨s.toArray⟩ ⟨p.toArray⟩ m w (by have:=nblt.1 h1;simpa using this) hm).mono fun e w' ⟨he,hw⟩=>⟨he,by subst hw;exact RowKit.Below.refl _ _⟩
end Go.Proofs.YtfnjahjbpaoepaaGreatDoor
