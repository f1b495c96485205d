import Derived.Test.YtcihhlhmkcaeeaaGreatDoorGt
import Derived.Below
import Derived.OpenShut
import Derived.ChangeSlices
set_option linter.unusedVariables false
set_option maxRecDepth 100000
namespace Go.Proofs.YtcihhlhmkcaeeaaGreatDoor
open Go.Gk Go.ChangeShapes Go.WideShapes Go.RowKit
def keepZ(b:Nat):Prop:=b=0∨b=1∨b=2∨b=3∨b=5∨b=6∨b=7
theorem Kus{w w':World}{b:Nat}(h:w'.heap[b]?=w.heap[b]?)(o:Nat):w'.cell? ⟨b,o,none⟩=w.cell? ⟨b,o,none⟩:=by
 unfold World.cell?
 simp only
 rw[h]
theorem Kut(w w':World)(h:∀ b,keepZ b→w'.heap[b]?=w.heap[b]?)(hx:TabX w):TabX w':=by
 obtain⟨⟨h1,h2⟩,⟨m,h3⟩,⟨t,e,h4⟩,h5,⟨t1,x1,h6⟩,⟨t2,x2,h7⟩⟩:=hx
 refine⟨⟨fun c hc=>?_,fun i hi=>⟨?_,?_⟩⟩,⟨m,?_⟩,⟨t,e,?_⟩,fun j hj=>?_,⟨t1,x1,?_⟩,⟨t2,x2,?_⟩⟩
 ·rw[Kus (h 2 (.inr (.inr (.inl rfl))))];exact h1 c hc
 ·rw[Kus (h 3 (.inr (.inr (.inr (.inl rfl)))))];exact(h2 i hi).1
 ·rw[Kus (h 3 (.inr (.inr (.inr (.inl rfl)))))];exact(h2 i hi).2
 ·rw[Kus (h 0 (.inl rfl))];exact h3
 ·rw[h 1 (.inr (.inl rfl))];exact h4
 ·rw[Kus (h 5 (.inr (.inr (.inr (.inr (.inl rfl))))))];exact h5 j hj
 ·rw[Kus (h 6 (.inr (.inr (.inr (.inr (.inr (.inl rfl)))))))];exact h6
 rw[Kus (h 7 (.inr (.inr (.inr (.inr (.inr (.inr rfl)))))))];exact h7
theorem Kuu{w:World}{b o:Nat}{v:Value}(h:w.cell? ⟨b,o,none⟩=some v):b<w.heap.size:=by
 rcases Nat.lt_or_ge b w.heap.size with hb | hb
 ·exact hb
 simp[World.cell?,Array.getElem?_eq_none hb] at h
theorem Kuv{w:World}(h:TabX w)(b:Nat)(hb:keepZ b):b<w.heap.size:=by
 obtain⟨⟨h1,h2⟩,⟨m,h3⟩,⟨t,e,h4⟩,h5,⟨t1,x1,h6⟩,⟨t2,x2,h7⟩⟩:=h
 rcases hb with rfl | rfl | rfl | rfl | rfl | rfl | rfl
 ·exact Kuu h3
 ·exact(Array.getElem?_eq_some_iff.1 h4).1
 ·exact Kuu (h1 0 (by decide))
 ·exact Kuu (h2 0 (by decide)).1
 ·exact Kuu (h5 0 (by decide))
 ·exact Kuu h6
 exact Kuu h7
def tabEnv:Env:=⟨keepZ,fun _=>False,fun _ h=>h.elim,TabX,Kut,fun _ h=>h⟩
theorem Kuw(w:World)(hT:TabX w):RelH tabEnv [] ⟨[],[]⟩ w:=⟨rfl,fun i o m h=>by simp at h,fun b h=>(Kob h).elim,fun b h=>Kuv hT b h,hT,fun i j oi oj b c c' h=>by simp at h,⟨fun x h=>by simp at h,fun i j a a' b b' c c' h=>by simp at h,fun i al ar lt h=>by simp at h,fun t t' x x' h=>by simp at h⟩⟩
theorem Kux{P:Program}{f:FuncId}{d:D}{v r:Value}{al:List Bool}{ar:List Ar}{lt:List (Nat×Nat)}(h:EC P f [.d d] [.bag [] [] []] fun g hp'=>g=.d (.v r)∧hp'=[.bag al ar lt])(w:World)(hT:TabX w)(hv:VD w (ownZ tabEnv [] ⟨[],[]⟩) d v):Calls P f #[v] w fun e w'=>e=.returned r∧Below w.heap.size w w':=by
 have hr:=Kuw w hT
 have hO:∀ b,own [.bag [] [] []] ⟨[none],[]⟩ b→False:=by
  rintro b (⟨i,o,c,h1,h2,h3⟩ | ⟨_,x,hx,_⟩)
  ·cases i with
   | zero=>simp at h3
   | succ i=>simp at h1
  simp at hx
 have hr0:RelH tabEnv [.bag [] [] []] ⟨[none],[]⟩ w:=by
  refine⟨rfl,fun i o m h1 h2=>?_,fun b hb=>(hO b hb).elim,hr.old,hr.amb,fun i j oi oj b c c' hi hj li lj mi mj=>?_,⟨fun x hx=>by simp at hx,fun i j a a' b b' c c' hi hj=>?_,fun i al ar lt hi t x hx=>by simp at hx,fun t t' x x' hx=>by simp at hx⟩⟩
  ·cases i with
   | zero=>simp at h1 h2;subst h1;subst h2;exact⟨rfl,fun t x h=>by simp at h,fun t t' x x' h=>by simp at h,fun a ha=>by simp at ha,List.Pairwise.nil,fun t id h=>by simp at h⟩
   | succ i=>simp at h1
  ·cases i with
   | zero=>simp at mi
   | succ i=>simp at hi
  cases i with
  | zero=>cases j with
   | zero=>rfl
   | succ j=>simp at hj
  | succ i=>simp at hi
 have he:ownZ tabEnv [.bag [] [] []] ⟨[none],[]⟩=ownZ tabEnv [] ⟨[],[]⟩:=Koh (fun b=>⟨fun h=>h.elim (fun h=>(hO b h).elim) .inr,fun h=>h.elim (fun h=>(Kob h).elim) .inr⟩) rfl
 refine(h tabEnv w ⟨[none],[]⟩ #[v] hr0 rfl (fun j g u hg hu=>?_)).mono ?_
 ·cases j with
  | zero=>cases hg;cases hu;exact .d (he▸hv)
  | succ j=>simp at hg
 rintro e w' ⟨u,g,hp',M',rfl,⟨rfl,rfl⟩,_,hvr,hst,_⟩
 exact⟨by rw[vr_v hvr],hst.os,hst.tape,hst.output,hst.size,fun k hk=>hst.keep k hk fun h=>hO k h⟩
theorem Kuy{W:World}{base:Nat}{a:Option Addr}{len cap:Nat}(hok:Value.okWide Tryz.prog W .any base 22 (.slice a len cap))
  (hrow:(a=none∧len=0∧cap=0)∨∃ (x:Addr) (zs:List Int),a=some x∧len≤cap∧cap≤maxLen∧zs.length=cap∧∀ i,i<zs.length→W.cell? (x.add i)=some (.int .i64 (zs.getD i 0))) :
  ∃ l:List Int,l.length≤9223372036854775807∧VD W (ownZ tabEnv [] ⟨[],[]⟩) (Sl (eN .i64) l) (.slice a len cap):=by
 rcases hrow with⟨rfl,rfl,rfl⟩ | ⟨x,zs,rfl,hl,hm,hz,hc⟩
 ·exact⟨[],by decide,.nil⟩
 ·have hok':Cell.ok Tryz.prog W .any base 22 (.slice (some x) len cap):=by
   simp only[Value.okWide,Tryz.underlying22,Cell.okWide] at hok
   exact hok
  simp only[Cell.ok,Tryz.underlying22] at hok'
  obtain⟨_,_,_,hspot,row,cells,hsh,_⟩:=hok'
  obtain⟨b,off,spot⟩:=x
  obtain rfl:spot=none:=hspot
  have hb:b<W.heap.size:=by
   rcases Nat.lt_or_ge b W.heap.size with h | h
   ·exact h
   ·simp[World.shape?,Array.getElem?_eq_none h] at hsh
  have hml:maxLen≤9223372036854775807:=by decide
  refine⟨zs.take len,by simp;omega,?_⟩
  have hlen:(zs.take len).length=len:=by simp;omega
  have hO:¬ ownZ tabEnv [] ⟨[],[]⟩ b:=by
   rintro(h | h)
   ·exact Kob h
   ·exact h
  have hfl:(zs.take len).flatMap (eN .i64)=(zs.take len).map fun z=>D.v (.int .i64 z):=by
   generalize zs.take len=l
   induction l with
   | nil=>rfl
   | cons x l ih=>simp only[List.flatMap_cons,List.map_cons,ih];rfl
  have key:∀ (j:Nat) (d:D),((zs.take len).flatMap (eN .i64))[j]?=some d→j<zs.length∧d=.v (.int .i64 (zs.getD j 0)):=fun j d hj=>by
   rw[hfl,List.getElem?_map] at hj
   obtain⟨z,hz',rfl⟩:=Option.map_eq_some_iff.1 hj
   rw[List.getElem?_take] at hz'
   split at hz'
   ·have:=(List.getElem?_eq_some_iff.1 hz').1
    refine⟨this,?_⟩
    simp[List.getD,hz']
   ·cases hz'
  unfold Sl
  rw[hlen]
  refine .ro len _ b off cap (fun j=>.int .i64 (zs.getD j 0)) hb (fun _ _ h=>(hO h).elim) hl hm (fun j d hj=>?_) (fun j d hj=>?_)
  ·have h1:=hc j (key j d hj).1
   have:(⟨b,off,none⟩:Addr).add j=⟨b,off+j,none⟩:=by unfold Addr.add;split<;>simp_all
   rwa [this] at h1
  ·rw[(key j d hj).2]
   exact .v _ rfl
end Go.Proofs.YtcihhlhmkcaeeaaGreatDoor
