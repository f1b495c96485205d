import Derived.Test.YtcihhlhmkcaeeaaGreatDoorMStr3
import Derived.Test.YtcihhlhmkcaeeaaGreatDoorGk49
import Derived.Test.YtcihhlhmkcaeeaaGreatDoorGt
import Derived.Test.YtcihhlhmkcaeeaaGreatDoorLays
import Derived.Test.YtcihhlhmkcaeeaaGreatDoorStr
import Derived.Test.YtcihhlhmkcaeeaaGreatDoorGk58
import Derived.Lib.AppendIntMem
set_option linter.all false
set_option maxRecDepth 100000
namespace Go.Proofs.YtcihhlhmkcaeeaaGreatDoor
open Go.Gk Go.Shelf Go.RowKit Go.Sort Go.Lib
theorem Ktl{s sep:Str}{r:Str×Str×Bool}(h:Kre s sep=some r):Pure Tryz.prog 172 [S s,S sep] (.tup [S r.1,S r.2.1,B r.2.2]):=by
 unfold Kre at h
 split at h
 ·rename_i c
  obtain⟨h1,h⟩:=Kdx h
  cases h;exact Ksp s c (Nat.le_of_ble_eq_true h1)
 obtain⟨h1,h⟩:=Kdx h
 cases h
 refine EC.of_belowX rfl fun w hT=>?_
 obtain⟨m,hm⟩:=hT.2.1
 refine(Tryz.strings_Cut ⟨s.toArray⟩ ⟨sep.toArray⟩ m w (by have:=nblt.1 h1;simpa using this) hm).mono fun e w' ⟨he,n,hw⟩=>⟨_,_,he,rfl,fun O M=>.tup rfl fun j g v hg hv=>?_,?_⟩
 ·match j with
  | 0=>cases hg;cases hv;exact .d (.v _ rfl)
  | 1=>cases hg;cases hv;exact .d (.v _ rfl)
  | 2=>cases hg;cases hv;exact .d (.v _ rfl)
  | j+3=>cases hg
 subst hw
 simpa using Lib.below_grow w.heap.size w (Nat.le_refl _) n #[]
theorem Pure_of_args{f:FuncId}{gs:List G}{r:Value}(h1:r.oneCell'=true)(h:∀ (w:World) (O:Ow) (M:Mp) (vs:Array Value),vs.size=gs.length→(∀ (j:Nat) (g:G) (v:Value),gs[j]?=some g→vs[j]?=some v→VR w O M g v)→Calls Tryz.prog f vs w fun e w'=>e=.returned r∧RowKit.Below w.heap.size w w'):Pure Tryz.prog f gs (.d (.v r)):=by
 intro Z w M vs hr hsz hvs
 refine(h w _ M vs hsz hvs).mono ?_
 rintro e w' ⟨rfl,hb⟩
 have hst:Stp w (own [] M) w' (own [] M):=.mk' hb.size (fun b hlt _=>hb.block b hlt) (fun _ _ h=>h) hb.os hb.tape hb.output rfl (fun g=>g) fun x hx _=>hb.block _ (hr.bags.tgs x hx).1
 have hr':RelH Z [] M w':=by
  refine⟨hr.len,fun i o m h=>by simp at h,hr.apart,fun b hz=>Nat.lt_of_lt_of_le (hr.old b hz) hb.size,hr.amb_stp hst,hr.inj,hr.bags.mono rfl hb.size (fun _ _ h=>h) (fun _ _ _ _ h=>h)⟩
 exact⟨r,.d (.v r),[],M,rfl,⟨rfl,rfl⟩,hr',.d (.v r h1),hst,⟨by simp,fun i hi=>by simp at hi⟩⟩
theorem Ktn(l:List Str):(l.map fun x=>(⟨x.toArray⟩:ByteArray)).map (·.data.toList)=l:=by
 induction l with
 | nil=>rfl
 | cons x l ih=>simp only[List.map_cons,ih]
theorem Kto(l:List Str)(j:Nat):(l.flatMap eS)[j]?=(l[j]?).map fun x=>D.v (.string ⟨x.toArray⟩):=by
 have:l.flatMap eS=l.map fun x=>D.v (.string ⟨x.toArray⟩):=by
  induction l with
  | nil=>rfl
  | cons x l ih=>simp only[List.flatMap_cons,List.map_cons,ih];rfl
 rw[this,List.getElem?_map]
theorem Ktm{l:List Str}{sep r:Str}(h:Krn l sep=some r):Pure Tryz.prog 116 [.d (Sl eS l),S sep] (S r):=by
 obtain⟨h1,h⟩:=Kdx h
 simp only[Bool.and_eq_true] at h1
 obtain⟨h1,h2⟩:=h1
 have h1:=Nat.le_of_ble_eq_true h1
 have h2:=Nat.le_of_ble_eq_true h2
 cases h
 refine Pure_of_args rfl fun w O M vs hsz hvs=>?_
 obtain⟨a,b,rfl⟩:∃ a b,vs=#[a,b]:=by
  obtain⟨vs⟩:=vs
  match vs,hsz with
  | [a,b],_=>exact⟨a,b,rfl⟩
 have ha:=hvs 0 _ _ rfl rfl
 have hb:=hvs 1 _ _ rfl rfl
 obtain rfl:=vr_v hb
 unfold Sl at ha
 cases ha with
 | d ha=>
  generalize hn:l.length=n at ha
  generalize hx:l.flatMap eS=xs at ha
  cases ha with
  | nil=>
   obtain rfl:l=[]:=List.eq_nil_of_length_eq_zero hn
   exact(Tryz.strings_Join_none none 0 ⟨sep.toArray⟩ w).mono fun e w' ⟨he,hw⟩=>⟨he,by subst hw;exact RowKit.Below.refl _ _⟩
  | ro n xs b off cap us hb' hO hnc hm hc hv=>
   subst hn;subst hx
   have key:=Tryz.strings_Join b off cap (l.map fun x=>(⟨x.toArray⟩:ByteArray)) ⟨sep.toArray⟩ w (fun j x hj=>by
    rw[List.getElem?_map] at hj
    obtain⟨y,hy,rfl⟩:=Option.map_eq_some_iff.1 hj
    have hd:(l.flatMap eS)[j]?=some (D.v (.string ⟨y.toArray⟩)):=by rw[Kto,hy];rfl
    have hcell:=hc j _ hd
    have hvv:=hv j _ hd
    generalize us j=u at hcell hvv
    cases hvv
    exact hcell) hb' (by simp;omega) (by simpa using hnc) (by rw[Ktn];simpa using (show(Lib.join l sep).length≤140737488355328 by omega))
   rw[Ktn,List.length_map] at key
   exact key.mono fun e w' ⟨he,hw⟩=>⟨by simpa using he,hw⟩
end Go.Proofs.YtcihhlhmkcaeeaaGreatDoor
