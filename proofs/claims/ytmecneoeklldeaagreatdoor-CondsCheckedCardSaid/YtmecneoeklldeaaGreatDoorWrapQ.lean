import Derived.Test.YtmecneoeklldeaaGreatDoorGt
import Derived.Below
import Derived.OpenShut
import Derived.ChangeSlices
set_option linter.unusedVariables false
set_option maxRecDepth 100000
namespace Go.Proofs.YtmecneoeklldeaaGreatDoor
open Go.Gk Go.ChangeShapes Go.WideShapes Go.RowKit
def keepZ(b:Nat):Prop:=b=0∨b=1∨b=4∨b=5∨b=7∨b=2∨b=3
theorem Kui{w w':World}{b:Nat}(h:w'.heap[b]?=w.heap[b]?)(o:Nat):w'.cell? ⟨b,o,none⟩=w.cell? ⟨b,o,none⟩:=by
 unfold World.cell?
 simp only
 rw[h]
theorem Kuj(w w':World)(h:∀ b,keepZ b→w'.heap[b]?=w.heap[b]?)(hx:TabX w):TabX w':=by
 obtain⟨⟨h1,h2⟩,⟨m,h3⟩,⟨t,e,h4⟩,h5,⟨t1,x1,h6⟩,⟨t2,x2,h7⟩⟩:=hx
 refine⟨⟨fun c hc=>?_,fun i hi=>⟨?_,?_⟩⟩,⟨m,?_⟩,⟨t,e,?_⟩,fun j hj=>?_,⟨t1,x1,?_⟩,⟨t2,x2,?_⟩⟩
 ·rw[Kui (h 4 (.inr (.inr (.inl rfl))))];exact h1 c hc
 ·rw[Kui (h 5 (.inr (.inr (.inr (.inl rfl)))))];exact(h2 i hi).1
 ·rw[Kui (h 5 (.inr (.inr (.inr (.inl rfl)))))];exact(h2 i hi).2
 ·rw[Kui (h 0 (.inl rfl))];exact h3
 ·rw[h 1 (.inr (.inl rfl))];exact h4
 ·rw[Kui (h 7 (.inr (.inr (.inr (.inr (.inl rfl))))))];exact h5 j hj
 ·rw[Kui (h 2 (.inr (.inr (.inr (.inr (.inr (.inl rfl)))))))];exact h6
 rw[Kui (h 3 (.inr (.inr (.inr (.inr (.inr (.inr rfl)))))))];exact h7
theorem Kuk{w:World}{b o:Nat}{v:Value}(h:w.cell? ⟨b,o,none⟩=some v):b<w.heap.size:=by
 rcases Nat.lt_or_ge b w.heap.size with hb | hb
 ·exact hb
 simp[World.cell?,Array.getElem?_eq_none hb] at h
theorem Kul{w:World}(h:TabX w)(b:Nat)(hb:keepZ b):b<w.heap.size:=by
 obtain⟨⟨h1,h2⟩,⟨m,h3⟩,⟨t,e,h4⟩,h5,⟨t1,x1,h6⟩,⟨t2,x2,h7⟩⟩:=h
 rcases hb with rfl | rfl | rfl | rfl | rfl | rfl | rfl
 ·exact Kuk h3
 ·exact(Array.getElem?_eq_some_iff.1 h4).1
 ·exact Kuk (h1 0 (by decide))
 ·exact Kuk (h2 0 (by decide)).1
 ·exact Kuk (h5 0 (by decide))
 ·exact Kuk h6
 exact Kuk h7
def tabEnv:Env:=⟨keepZ,fun _=>False,fun _ h=>h.elim,TabX,Kuj,fun _ h=>h⟩
theorem Kum(w:World)(hT:TabX w):RelH tabEnv [] ⟨[],[]⟩ w:=⟨rfl,fun i o m h=>by simp at h,fun b h=>(Kno h).elim,fun b h=>Kul hT b h,hT,fun i j oi oj b c c' h=>by simp at h,⟨fun x h=>by simp at h,fun i j a a' b b' c c' h=>by simp at h,fun i al ar lt h=>by simp at h,fun t t' x x' h=>by simp at h⟩⟩
theorem Kun{P:Program}{f:FuncId}{d:D}{v r:Value}(h:Pure P f [.d d] (.d (.v r)))(w:World)(hT:TabX w)(hv:VD w (ownZ tabEnv [] ⟨[],[]⟩) d v):Calls P f #[v] w fun e w'=>e=.returned r∧Below w.heap.size w w':=by
 refine(h tabEnv w ⟨[],[]⟩ #[v] (Kum w hT) rfl (fun j g u hg hu=>?_)).mono ?_
 ·cases j with
  | zero=>cases hg;cases hu;exact .d hv
  | succ j=>simp at hg
 rintro e w' ⟨u,g,hp',M',rfl,⟨rfl,rfl⟩,_,hvr,hst,_⟩
 exact⟨by rw[vr_v hvr],hst.os,hst.tape,hst.output,hst.size,fun k hk=>hst.keep k hk Kno⟩
theorem Kuo{W:World}{base:Nat}{a:Option Addr}{len cap:Nat}(hok:Value.okWide Tryz.prog W .any base 22 (.slice a len cap))
  (hrow:(a=none∧len=0∧cap=0)∨∃ (x:Addr) (zs:List Int),a=some x∧len≤cap∧cap≤maxLen∧zs.length=cap∧∀ i,i<zs.length→W.cell? (x.add i)=some (.int .i64 (zs.getD i 0))) :
  ∃ l:List Int,l.length≤9223372036854775807∧VD W (ownZ tabEnv [] ⟨[],[]⟩) (Sl (eN .i64) l) (.slice a len cap):=by
 rcases hrow with⟨rfl,rfl,rfl⟩ | ⟨x,zs,rfl,hl,hm,hz,hc⟩
 ·exact⟨[],by decide,.nil⟩
 ·have hok':Cell.ok Tryz.prog W .any base 22 (.slice (some x) len cap):=by
   simp only[Value.okWide,Tryz.underlying22,Cell.okWide] at hok
   exact hok
  simp only[Cell.ok,Tryz.underlying22] at hok'
  obtain⟨_,_,_,hspot,row,cells,hsh,_⟩:=hok'
  obtain⟨b,off,spot⟩:=x
  obtain rfl:spot=none:=hspot
  have hb:b<W.heap.size:=by
   rcases Nat.lt_or_ge b W.heap.size with h | h
   ·exact h
   ·simp[World.shape?,Array.getElem?_eq_none h] at hsh
  have hml:maxLen≤9223372036854775807:=by decide
  refine⟨zs.take len,by simp;omega,?_⟩
  have hlen:(zs.take len).length=len:=by simp;omega
  have hO:¬ ownZ tabEnv [] ⟨[],[]⟩ b:=by
   rintro(h | h)
   ·exact Kno h
   ·exact h
  have hfl:(zs.take len).flatMap (eN .i64)=(zs.take len).map fun z=>D.v (.int .i64 z):=by
   generalize zs.take len=l
   induction l with
   | nil=>rfl
   | cons x l ih=>simp only[List.flatMap_cons,List.map_cons,ih];rfl
  have key:∀ (j:Nat) (d:D),((zs.take len).flatMap (eN .i64))[j]?=some d→j<zs.length∧d=.v (.int .i64 (zs.getD j 0)):=fun j d hj=>by
   rw[hfl,List.getElem?_map] at hj
   obtain⟨z,hz',rfl⟩:=Option.map_eq_some_iff.1 hj
   rw[List.getElem?_take] at hz'
   split at hz'
   ·have:=(List.getElem?_eq_some_iff.1 hz').1
    refine⟨this,?_⟩
    simp[List.getD,hz']
   ·cases hz'
  unfold Sl
  rw[hlen]
  refine .ro len _ b off cap (fun j=>.int .i64 (zs.getD j 0)) hb (fun _ _ h=>(hO h).elim) hl hm (fun j d hj=>?_) (fun j d hj=>?_)
  ·have h1:=hc j (key j d hj).1
   have:(⟨b,off,none⟩:Addr).add j=⟨b,off+j,none⟩:=by unfold Addr.add;split<;>simp_all
   rwa [this] at h1
  ·rw[(key j d hj).2]
   exact .v _ rfl
end Go.Proofs.YtmecneoeklldeaaGreatDoor
