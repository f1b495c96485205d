import Derived.Test.YtfnjahjbpaoepaaGreatDoorMStr7
import Derived.Test.YtfnjahjbpaoepaaGreatDoorStr6
import Derived.Test.YtfnjahjbpaoepaaGreatDoorStr
set_option linter.all false
set_option maxRecDepth 100000
namespace Go.Proofs.YtfnjahjbpaoepaaGreatDoor
open Go.Gk Go.Shelf Go.RowKit Go.Sort Go.Lib
theorem Kwg{s:Str}{z:Int}(h:Kuh s=some (z,true)):Pure Tryz.prog 168 [S s] (.tup [I z,.d (.v .nilIface)]):=by
 obtain⟨h1,h⟩:=Kcz h
 have hs:=Nat.le_of_ble_eq_true h1
 split at h
 ·rename_i v heq
  cases h
  exact EC.of_belowX rfl fun w hT=>(Tryz.strconv_Atoi_ok ⟨s.toArray⟩ (by show s.length≤_;omega) z heq w).mono fun e w' ⟨he,hw⟩=>⟨_,_,he,rfl,fun O M=>Kwc rfl rfl,by
   rcases hw with rfl | ⟨t,rfl⟩
   ·exact Below.refl _ _
   exact Lib.bytesWorld_below _ _ _⟩
 ·cases h
 cases h
theorem Kwh{s:Str}{z:Int}(h:Kuh s=some (z,false)):ErrsT Tryz.prog 168 [S s] z:=by
 obtain⟨h1,h⟩:=Kcz h
 have hs:=Nat.le_of_ble_eq_true h1
 have vj:∀ (w':World) (O:Ow) (M:Mp) (n:Int) (t:TypeId) (x:Value),VR w' O M (.tup [I n,.d (.v (.iface t x))]) (.tuple #[.int .i64 n,.iface t x]):=fun w' O M n t x=>.tup rfl fun j g v hg hv=>by
  match j with
  | 0=>cases hg;cases hv;exact .d (.v _ rfl)
  | 1=>cases hg;cases hv;exact .d (.v _ rfl)
  | j+2=>cases hg
 rcases heq:Lib.atoiAll s with v | _ | _
 ·rw[heq] at h;cases h
 ·rw[heq] at h
  cases h
  refine EC.of_belowX rfl fun w hT=>?_
  obtain⟨t1,x1,h1⟩:=hT.2.2.2.2.1
  exact(Tryz.strconv_Atoi_syntax ⟨s.toArray⟩ (by simpa using hs) heq _ w h1 (.inr ⟨_,_,rfl⟩)).mono fun e w' ⟨N,he,_,_,hb⟩=>⟨_,.tup [I 0,.d (.v (.iface _ _))],he,⟨_,_,rfl⟩,fun O M=>vj _ _ _ _ _ _,hb⟩
 rw[heq] at h
 cases h
 refine EC.of_belowX rfl fun w hT=>?_
 obtain⟨t1,x1,h1⟩:=hT.2.2.2.2.2
 exact(Tryz.strconv_Atoi_range ⟨s.toArray⟩ (by simpa using hs) heq _ w h1 (.inr ⟨_,_,rfl⟩)).mono fun e w' ⟨N,he,_,_,hb⟩=>⟨_,.tup [I (Lib.atoiSat s),.d (.v (.iface _ _))],he,⟨_,_,rfl⟩,fun O M=>vj _ _ _ _ _ _,hb⟩
theorem Kwi{s sep:Str}{r:Str×Str×Bool}(h:Ktu s sep=some r):Pure Tryz.prog 165 [S s,S sep] (.tup [S r.1,S r.2.1,B r.2.2]):=by
 unfold Ktu at h
 split at h
 ·rename_i c
  obtain⟨h1,h⟩:=Kcz h
  cases h;exact Kuy s c (Nat.le_of_ble_eq_true h1)
 obtain⟨h1,h⟩:=Kcz h
 cases h
 refine EC.of_belowX rfl fun w hT=>?_
 obtain⟨m,hm⟩:=hT.2.1
 refine(Tryz.strings_Cut ⟨s.toArray⟩ ⟨sep.toArray⟩ m w (by have:=nblt.1 h1;simpa using this) hm).mono fun e w' ⟨he,n,hw⟩=>⟨_,_,he,rfl,fun O M=>.tup rfl fun j g v hg hv=>?_,?_⟩
 ·match j with
  | 0=>cases hg;cases hv;exact .d (.v _ rfl)
  | 1=>cases hg;cases hv;exact .d (.v _ rfl)
  | 2=>cases hg;cases hv;exact .d (.v _ rfl)
  | j+3=>cases hg
 subst hw
 simpa using Lib.below_grow w.heap.size w (Nat.le_refl _) n #[]
end Go.Proofs.YtfnjahjbpaoepaaGreatDoor
