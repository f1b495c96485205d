import Derived.Test.YtfnjahjbpaoepaaGreatDoorStr
import Derived.Test.YtfnjahjbpaoepaaGreatDoorLays2
import Derived.Shelf.Unicode.ValidAny
set_option linter.all false
set_option maxRecDepth 100000
namespace Go.Proofs.YtfnjahjbpaoepaaGreatDoor
open Go.Gk Go.Shelf
theorem Kuu{a b:Str}{r:Int}(h:Ktj a b=some r):Pure Tryz.prog 64 [S a,S b] (I r):=by
 cases h
 exact Pure.of_same rfl rfl fun w=>Tryz.strings_Compare ⟨a.toArray⟩ ⟨b.toArray⟩ w
theorem Kuv{s p:Str}{r:Bool}(h:Kti s p=some r):Pure Tryz.prog 189 [S s,S p] (B r):=by
 obtain⟨h1,h⟩:=Kcu h
 cases h
 refine Pure.of_belowX rfl rfl fun w hT=>?_
 obtain⟨m,hm⟩:=hT.2.1
 exact(Tryz.strings_Contains ⟨s.toArray⟩ ⟨p.toArray⟩ m w (by have:=nblt.1 h1;simpa using this) hm).mono fun e w' ⟨he,hw⟩=>⟨he,by subst hw;exact RowKit.Below.refl _ _⟩
end Go.Proofs.YtfnjahjbpaoepaaGreatDoor
