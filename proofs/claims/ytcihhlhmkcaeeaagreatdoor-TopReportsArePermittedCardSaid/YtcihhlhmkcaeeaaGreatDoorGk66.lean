import Derived.Test.YtcihhlhmkcaeeaaGreatDoorGk57
import Derived.Test.YtcihhlhmkcaeeaaGreatDoorGk65
set_option linter.all false
namespace Go.Gk
open Go.Sort Go.Proofs Go.Shelf
section
variable{P:Program}{ρ:Ren}{Γ:TypeId→Option TI}{α:Type}[Inhabited α]
theorem EC.sortFuncDX{f ti:Nat}(hnone:∀ (p:Option Addr) (cap:Nat) (fv:Value) (w:World),Calls P f #[.slice p 0 cap,fv] w fun e w'=>e=.returned (.tuple #[])∧w'=w)
  (hΓ:TOK P Γ) {i:TI} (hi:Γ ti=some i) {te:TypeId} (enc:α→List Value) (ed:α→List D) (hed:∀ x,ed x=(enc x).map .v) (hk:∀ x,(enc x).length=i.size) (h1:∀ x,((enc x).all fun v=>v.oneCell')=true)
  (hkey:∀ (cf:α→α→Int) (hO:SWO (ltOf cf)) (g:Nat) (blk off cap:Nat) (d:Array α) (w:World) (eg:∀ args w,(callFunc g args).run P w=.ok (.enter g args) w) (hcmp:CmpLays P g #[] enc i.size cf blk off d.size w) (hH:HoldsK enc i.size w blk off d) (hblk:blk<w.heap.size) (hsz:d.size<4611686018427387904),
   Calls P f #[.slice (some ⟨blk,off,none⟩) d.size cap,.func (.func g) #[] #[]] w fun e w'=>e=.returned (.tuple #[])∧∃ d' n os,PermIn 0 d.size d d'∧SortedIn (ltOf cf) 0 d.size d'∧w'=sortWorldK enc i.size w blk off n d' os)
  {cf:α→α→Option Int} {g:Nat} (eg:∀ args w,(callFunc g args).run P w=.ok (.enter g args) w) (hcmp:∀ {x y:α} {r:Int},cf x y=some r→Pure P g [.agg ((ed x).map .d),.agg ((ed y).map .d)] (I r)) {l:List α} (ok:CmpT cf) (hll:l.length<4611686018427387904) :
  EC P f [.sl 0 l.length,.fn (.func g) [] []] [.row te i.size l.length (l.flatMap ed)] fun g' hp'=>∃ r,SrtP cf l r∧g'=.tup []∧hp'=[.row te i.size r.length (r.flatMap ed)]:=by
 have h1':∀ x,∀ v∈enc x,v.oneCell'=true:=fun x=>lAe.1 (h1 x)
 have hfl:∀ l:List α,l.flatMap ed=(l.flatMap enc).map .v:=fun l=>by
  induction l with
  | nil=>rfl
  | cons x l ih=>rw[List.flatMap_cons,List.flatMap_cons,List.map_append,ih,hed]
 rw[hfl]
 intro Z w M vs hr hsz hvs
 obtain⟨v,u,rfl⟩:∃ v u,vs=#[v,u]:=by
  obtain⟨vs⟩:=vs
  match vs,hsz with
  | [v,u],_=>exact⟨v,u,rfl⟩
 have hv:=hvs 0 _ v rfl rfl
 have hu:=hvs 1 _ u rfl rfl
 obtain rfl:u=.func (.func g) #[] #[]:=by
  cases hu with
  | fn l1 l2 h1 h2=>
   have e1:=Array.eq_empty_of_size_eq_zero l1
   have e2:=Array.eq_empty_of_size_eq_zero l2
   rw[e1,e2]
 generalize hn:l.length=n at hv hr
 cases hv with
 | slnil hM=>
  obtain rfl:l=[]:=List.eq_nil_of_length_eq_zero hn
  refine(hnone none 0 _ w).mono ?_
  rintro e w' ⟨rfl,rfl⟩
  exact⟨_,.tup [],_,M,rfl,⟨[],⟨.refl _,.nil⟩,rfl,rfl⟩,hr,.tup rfl (fun j g v hg=>by simp at hg),Stp.refl _ _,⟨by rw[hr.len];exact Nat.le_refl _,fun _ _=>rfl⟩⟩
 | sl hM hle hm=>
  rename_i b c
  obtain⟨hlen0,cs,hb,hcs,hnc,hcm,hdata⟩:=hr.obj 0 _ _ rfl hM
  have hblk:b<w.heap.size:=(aEs.1 hb).1
  have hFl:=Kng enc i.size hk l
  have hF:∀ j,(Sort.flatK enc i.size l.toArray)[j]?=(l.flatMap enc)[j]?:=fun j=>by rw[←hFl,Array.getElem?_toList]
  have hH:HoldsK enc i.size w b 0 l.toArray:=fun j hj=>by
   have hj':j<(Sort.flatK enc i.size l.toArray).size:=hj
   have e0:(l.flatMap enc)[j]?=some ((Sort.flatK enc i.size l.toArray)[j]):=by rw[←hF,Array.getElem?_eq_getElem hj']
   obtain⟨v,e1,e2⟩:=hdata j (.v ((Sort.flatK enc i.size l.toArray)[j])) (by rw[gMp,e0];rfl)
   cases e2
   refine⟨?_,?_⟩
   ·have:j<cs.size:=(aEs.1 e1).1
    simp only[World.cell?,Nat.zero_add,hb]
    rw[getElem!_pos _ j hj]
    simpa using e1
   ·simp only[World.frozen?,hb]
    simp
  have hput:∀ (q:Nat) (d:Array α) (os:Array Obj),d.size=n→RelH Z [.row te i.size n (((Sort.flatK enc i.size d).toList).map .v)] M (Sort.grow (putRow id (Sort.ahead w q) b 0 (Sort.flatK enc i.size d)) os)∧
    Stp w (own [.row te i.size n ((l.flatMap enc).map .v)] M) (Sort.grow (putRow id (Sort.ahead w q) b 0 (Sort.flatK enc i.size d)) os) (own [.row te i.size n (((Sort.flatK enc i.size d).toList).map .v)] M):=by
   intro q d os hd
   have hone:∀ j,j<(Sort.flatK enc i.size d).size→((Sort.flatK enc i.size d)[j]!).oneCell'=true:=fun j hj=>by
    rw[Sort.get_flatK _ _ _ j (by simpa using hj)]
    have k0:0<i.size:=by
     rcases Nat.eq_zero_or_pos i.size with h0 | h0
     ·rw[Sort.size_flatK,h0,Nat.mul_zero] at hj;exact absurd hj (Nat.not_lt_zero _)
     ·exact h0
    have hjk:j % i.size<(enc d[j / i.size]!).length:=by rw[hk];exact Nat.mod_lt _ k0
    rw[getElem!_pos (enc d[j / i.size]!) (j % i.size) hjk]
    exact h1' _ _ (List.getElem_mem hjk)
   have hblk':(putRow id (Sort.ahead w q) b 0 (Sort.flatK enc i.size d)).heap[b]?=some (.cells (Sort.putCells id 0 (Sort.flatK enc i.size d) cs) te (0,0)):=by
    simp only[Sort.putRow,Sort.mapBlock,Sort.heap_ahead,Array.getElem?_modify,if_true,hb]
    rfl
   obtain⟨r1,r2⟩:=Kdc hr (id:=0) (o':=.row te i.size n (((Sort.flatK enc i.size d).toList).map .v)) rfl rfl hM (w':=putRow id (Sort.ahead w q) b 0 (Sort.flatK enc i.size d)) (by simp[Sort.putRow,Sort.mapBlock]) (fun j hj=>by
    simp only[Sort.putRow,Sort.mapBlock,Sort.heap_ahead,Array.getElem?_modify]
    simp[Ne.symm hj]) rfl rfl rfl (fun hst=>⟨by simp[hd],_,hblk',by simp[Sort.putCells];omega,hnc,hcm,fun j dd hj=>by
     rw[gMp] at hj
     obtain⟨x,hx,rfl⟩:=oMs.1 hj
     have hjd:j<(Sort.flatK enc i.size d).size:=by
      have:=(gEs.1 hx).1
      simpa using this
     have hxe:(Sort.flatK enc i.size d)[j]! = x:=by
      rw[getElem!_pos _ j hjd]
      have e:=(gEs.1 hx).2
      simpa using e
     refine⟨x,?_,.v _ (by rw[←hxe];exact hone j hjd)⟩
     have hcj:j<cs.size:=by
      have:j<d.size * i.size:=by simpa using hjd
      rw[hd] at this
      have:=Nat.mul_le_mul_right i.size hnc
      omega
     simp only[Sort.putCells,Array.getElem?_mapIdx,Array.getElem?_eq_getElem hcj,Option.map_some]
     rw[if_pos ⟨Nat.zero_le _,by omega⟩,Nat.sub_zero,hxe]
     rfl⟩) rfl
   obtain⟨q1,q2⟩:=Kkj r1 os
   exact⟨q1,r2.trans q2⟩
  have hcmp':CmpLays P g #[] enc i.size (fun x y=>(cf x y).getD 0) b 0 l.toArray.size w:=fun m os dk hs x y=>by
   obtain⟨q,hq⟩:=ok.tot x y
   obtain⟨k1,_⟩:=hput m dk os (by rw[hs];simpa using hn)
   have hp:=hcmp hq
   have hag':∀ x,((ed x).map G.d)=(enc x).map fun v=>.d (.v v):=fun x=>by rw[hed,List.map_map];rfl
   rw[hag',hag'] at hp
   have:=Knf hp (vs:=#[.agg (enc x).toArray,.agg (enc y).toArray]) rfl (Z:=zB Z [b]) (M:=⟨[],M.h⟩) (w:=sortWorldK enc i.size w b 0 m dk os) (Kni k1 rfl hM) (fun j gg v hg hv=>by
    match j with
    | 0=>cases hg;cases hv;exact Knh enc h1' x _ _ _
    | 1=>cases hg;cases hv;exact Knh enc h1' y _ _ _
    | j+2=>simp at hg)
   show Calls P g _ _ fun e w'=>e=.returned (.int .i64 ((cf x y).getD 0))∧_
   rw[hq]
   exact this
  have key:=hkey (fun x y=>(cf x y).getD 0) ok.swo g b 0 c l.toArray w eg hcmp' hH hblk (by simpa using hll)
  simp only[List.size_toArray,hn] at key
  refine key.mono ?_
  rintro e w' ⟨rfl,d',q,os,⟨p1,p2,p3⟩,hs,rfl⟩
  obtain⟨r,hd'⟩:∃ r,d'.toList=r:=⟨_,rfl⟩
  have hlen:r.length=n:=by rw[←hd',Array.length_toList,p1];simpa using hn
  have hsp:SrtP cf l r:=by
   subst hd'
   refine⟨?_,?_⟩
   ·have e1:d'.extract 0 n=d':=by
     have:n=d'.size:=by rw[p1];simpa using hn.symm
     rw[this];exact Array.extract_size
    have e2:l.toArray.extract 0 n=l.toArray:=by
     have:n=l.toArray.size:=by simpa using hn.symm
     rw[this];exact Array.extract_size
    rw[e1,e2] at p3
    simpa using p3
   ·rw[List.pairwise_iff_getElem]
    intro a b' ha hb' hab
    have hb2:b'<d'.size:=by simpa using hb'
    have ha2:a<d'.size:=by simpa using ha
    have:=hs a b' (Nat.zero_le _) hab (by rw[p1] at hb2;simpa [hn] using hb2)
    rw[getElem!_pos d' a ha2,getElem!_pos d' b' hb2] at this
    simpa [ltO,ltOf] using this
  obtain⟨k1,k2⟩:=hput q d' os (by rw[p1];simpa using hn)
  have e3:(Sort.flatK enc i.size d').toList=r.flatMap enc:=by
   have:=Kng enc i.size hk d'.toList
   rw[hd'] at this
   rw[←this,←hd']
  rw[e3] at k1 k2
  exact⟨_,.tup [],_,M,rfl,⟨r,hsp,rfl,by rw[hlen];exact hfl r▸rfl⟩,k1,.tup rfl (fun j g v hg=>by simp at hg),k2,⟨by rw[hr.len];exact Nat.le_refl _,fun _ _=>rfl⟩⟩
end
section
variable{P:Program}{F N:Nat}{Q:GPost}{fr:Fr}{hp:List Ob}
variable{ops:Array Oper}{rest:List Oper}{ty:TypeId}{pos:String}{after:Array Edge}{f:FuncId}{fop:Operand}{args:Array Operand}{ts:Array TypeId}{g1 g2 gs:List G}
theorem EC.callFD{σ:Type}{f:FuncId}{gc gs:List G}{hc:List Ob}{hc':σ→List Ob}{R:σ→Prop}{gr g':G}{hp2:σ→List Ob}(ρ:List Nat)(hc0:EC P f gc hc fun g hp'=>∃ y,R y∧g=gr∧hp'=hc' y)
  (hl:Nat.beq ρ.length hc.length=true) (hnd:nodupB ρ=true) (hobj:callIn hp ρ=(hc.map (Ob.ren (rn ρ hp.length))).map some) (hb:hc.all (Ob.bel hc.length)=true) (hgb:G.belAll hc.length gc=true)
  (hgs:gc.map (G.ren (rn ρ hp.length))=gs) (hg':gr.ren (rn ρ hp.length)=g') (hhp:∀ y,callObs hp ρ (hc' y)=hp2 y) (hsl:hc=[]∨hp.all Ob.sole=true:=by first | exact rfl | exact .inr rfl | exact .inl rfl | assumption):EC P f gs hp fun g hp'=>∃ y,R y∧g=g'∧hp'=hp2 y:=by
 have hl':=nEq hl
 have:=EC.frame (hp:=hp) hc0 ρ hl' (Kev hnd) (fun i o r ho hr=>by
  have e:=congrArg (fun l=>l[i]?) hobj
  simp only[callIn,List.getElem?_map,hr,ho,Option.map_some] at e
  exact oSi e) (HB.mk hb) hsl hgb
 rw[hgs] at this
 refine this.mono ?_
 rintro g hp' ⟨g0,hc1,⟨y,hy,rfl,rfl⟩,rfl,_,rfl⟩
 exact⟨y,hy,hg',hhp y⟩
theorem Knn{σ:Type}{d:Tmp}{gc:List G}{hc:List Ob}{hc':σ→List Ob}{R:σ→Prop}{gr:G}(ρ:List Nat)(g':G)(hp2:σ→List Ob)(hcl:Callable P f)(hc0:EC P f gc hc fun g hp'=>∃ y,R y∧g=gr∧hp'=hc' y)(hd:Nat.blt d N=true)(hF:F≤hp.length)(hf:fr.ev fop=some (.fn (.func f) g1 g2))(ha:args.toList.mapM fr.ev=some gs)
  (hl:Nat.beq ρ.length hc.length=true) (hnd:nodupB ρ=true) (hobj:callIn hp ρ=(hc.map (Ob.ren (rn ρ hp.length))).map some) (hb:hc.all (Ob.bel hc.length)=true) (hgb:G.belAll hc.length gc=true)
  (hgs:gc.map (G.ren (rn ρ hp.length))=g1++gs++g2) (hg':gr.ren (rn ρ hp.length)=g') (hhp:∀ y,callObs hp ρ (hc' y)=hp2 y)
  (k:∀ y,R y→EO P F N ops rest Q ((d,g') :: fr) (hp2 y)) (hsl:hc=[]∨hp.all Ob.sole=true:=by first | exact rfl | exact .inr rfl | exact .inl rfl | assumption):EO P F N ops (⟨some d,.call ⟨.value fop,args,ts⟩,ty,pos,after,none⟩ :: rest) Q fr hp:=
 Kqh hd hF hf ha hcl (EC.callFD ρ hc0 hl hnd hobj hb hgb hgs hg' hhp) (by rintro _ _ ⟨y,hy,rfl,rfl⟩;exact k y hy)
end
end Go.Gk
