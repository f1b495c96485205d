import Derived.Test.YtfnjahjbpaoepaaGreatDoorMStr6
import Derived.Test.YtfnjahjbpaoepaaGreatDoorStr6
import Derived.Test.YtfnjahjbpaoepaaGreatDoorStr
set_option linter.all false
set_option maxRecDepth 100000
namespace Go.Proofs.YtfnjahjbpaoepaaGreatDoor
open Go.Gk Go.Shelf Go.RowKit Go.Sort Go.Lib
theorem Kxm{s sep:Str}{r:Str×Str×Bool}(h:Ksd s sep=some r):Pure Tryz.prog 165 [S s,S sep] (.tup [S r.1,S r.2.1,B r.2.2]):=by
 unfold Ksd at h
 split at h
 ·rename_i c
  obtain⟨h1,h⟩:=Kgr h
  cases h;exact Kwy s c (Nat.le_of_ble_eq_true h1)
 obtain⟨h1,h⟩:=Kgr h
 cases h
 refine EC.of_belowX rfl fun w hT=>?_
 obtain⟨m,hm⟩:=hT.2.1
 refine(Tryz.strings_Cut ⟨s.toArray⟩ ⟨sep.toArray⟩ m w (by have:=nblt.1 h1;simpa using this) hm).mono fun e w' ⟨he,n,hw⟩=>⟨_,_,he,rfl,fun O M=>.tup rfl fun j g v hg hv=>?_,?_⟩
 ·match j with
  | 0=>cases hg;cases hv;exact .d (.v _ rfl)
  | 1=>cases hg;cases hv;exact .d (.v _ rfl)
  | 2=>cases hg;cases hv;exact .d (.v _ rfl)
  | j+3=>cases hg
 subst hw
 simpa using Lib.below_grow w.heap.size w (Nat.le_refl _) n #[]
end Go.Proofs.YtfnjahjbpaoepaaGreatDoor
