import Derived.Test.YtmecneoeklldeaaGreatDoorGk49
import Derived.Sort.KeysCollected
set_option linter.all false
namespace Go.Gk
section
variable{P:Program}{hp:List Ob}{Z:Env}{M:Mp}{w:World}
theorem Kmm(hr:RelH Z hp M w){w':World}(hb:RowKit.Below w.heap.size w w')(o:Ob)(m:Option (Nat×Nat))(hm:∀ b c,m=some (b,c)→w.heap.size≤b)
  (hm2:∀ b c,m=some (b,c)→b<w'.heap.size)
  (ho:∀ O',Stp w (ownZ Z hp M) w' O'→ObR w' O' (M.app [m]) o m) (hog:o.isBag=false:=by rfl) :
  RelH Z (hp++[o]) (M.app [m]) w'∧Stp w (own hp M) w' (own (hp++[o]) (M.app [m]))∧Agr hp.length M (M.app [m]):=by
 have hob:∀ b,b<w.heap.size→obOwn (hp++[o]) (M.app [m]) b→obOwn hp M b:=by
  rintro b hlt ⟨i,o',c',h1,h2,h3⟩
  rcases Kpw h3 with⟨hi,h4⟩ | ⟨hi,h4⟩
  ·rcases Kpw h1 with⟨_,h5⟩ | ⟨hi',_⟩
   ·exact⟨i,o',c',h5,h2,h4⟩
   ·rw[hr.len] at hi;omega
  ·have:=hm _ _ h4;omega
 have hst:Stp w (own hp M) w' (own (hp++[o]) (M.app [m])):=by
  exact .mk' hb.size (fun b hlt _=>hb.block b hlt) (fun b hlt h=>Knq h (hob b hlt) (fun g=>g.of (Kns hog)) rfl) hb.os hb.tape hb.output rfl (fun g=>g.of (Kns hog)) fun x hx _=>hb.block _ (hr.bags.tgs x hx).1
 have hM:∀ i,i<M.l.length→(M.app [m]).l[i]?=M.l[i]?:=fun i hi=>gAl hi
 refine⟨⟨by simp[hr.len],fun i o' m' h1 h2=>?_,fun b hlt hz=>?_,fun b hz=>nLl (hr.old b hz) hb.size,hr.amb_stp hst,fun i j oi oj b c1 c2 hi hj li lj mi mj=>?_,hr.bags.mono rfl hb.size hob (Kns hog)⟩,hst,⟨by simp[hr.len],fun i hi=>hM i (by rw[hr.len];exact hi)⟩⟩
 ·rcases Kpw h1 with⟨hi,h3⟩ | ⟨hi,rfl⟩
  ·have hi':i<M.l.length:=by rw[hr.len];exact hi
   rw[hM i hi'] at h2
   have:=hr.obj i o' m' h3 h2
   refine this.move (k:=M.l.length) (Knv Z hst) hM this.bel (fun b c' e hl=>?_) fun _ _ _ _=>⟨rfl,fun x hx _=>hb.block _ (hr.bags.tgs x hx).1⟩
   subst e
   exact hb.block _ (hr.block_ob ⟨i,o',c',h3,hl,h2⟩)
  ·subst hi
   rw[←hr.len] at h2
   have:m'=m:=by
    rcases Kpw h2 with⟨hi,_⟩ | ⟨_,h⟩
    ·omega
    ·exact h.symm
   subst this
   exact ho _ (Knv Z hst)
 ·by_cases hb':b<w.heap.size
  ·exact hr.apart b (hst.own b hb' hlt) hz
  ·exact absurd (hr.old b hz) hb'
 ·rcases Kpw hi with⟨hi1,hi2⟩ | ⟨hi1,hi2⟩
  ·rcases Kpw hj with⟨hj1,hj2⟩ | ⟨hj1,hj2⟩
   ·rw[hM i (by rw[hr.len];exact hi1)] at mi
    rw[hM j (by rw[hr.len];exact hj1)] at mj
    exact hr.inj i j oi oj b c1 c2 hi2 hj2 li lj mi mj
   ·exfalso
    rw[hM i (by rw[hr.len];exact hi1)] at mi
    rcases Kpw mj with⟨h,_⟩ | ⟨_,h⟩
    ·rw[hr.len] at h;omega
    ·have h6:=hm _ _ h
     have:=hr.block_ob ⟨i,oi,c1,hi2,li,mi⟩
     omega
  ·rcases Kpw hj with⟨hj1,hj2⟩ | ⟨hj1,hj2⟩
   ·exfalso
    rw[hM j (by rw[hr.len];exact hj1)] at mj
    rcases Kpw mi with⟨h,_⟩ | ⟨_,h⟩
    ·rw[hr.len] at h;omega
    ·have h6:=hm _ _ h
     have:=hr.block_ob ⟨j,oj,c2,hj2,lj,mj⟩
     omega
   ·omega
noncomputable def rangeD {α σ β:Type} (f:α→σ→Option σ) (m:List α) (s:σ) (k:σ→Option β):Option β:=
 open Classical in if h:∃ r,rangeW f m s (fun q=>k q=some r) then some (Classical.choose h) else none
def sortK{V:Type}(m:List (List UInt8×V)):List (List UInt8):=(m.map (·.1)).mergeSort fun x y=>decide (x≤y)
theorem Kmn{V:Type}{m:List (List UInt8×V)}(h:((decide (m.length≤4294967296))&&m.all (fun e=>decide (e.1.length≤4294967296)))=true):m.length≤4294967296:=by
 rw[Bool.and_eq_true] at h;exact of_decide_eq_true h.1
theorem Kmo{V:Type}{m:List (List UInt8×V)}(h:((decide (m.length≤4294967296))&&m.all (fun e=>decide (e.1.length≤4294967296)))=true):∀ e∈m,e.1.length≤4294967296:=by
 rw[Bool.and_eq_true] at h
 intro e he
 exact of_decide_eq_true (lAe.1 h.2 e he)
def rNil{H:Type}(_:Value):Option (DataW H×List MemPlace):=some (.nil,[])
def SortsKeys(P:Program)(f it:FuncId)(kt:TypeId):Prop:=
 ∀ (W:World) (Bm b nn:Nat) (D0:DataW Unit),Bm<W.heap.size→W.cell? ⟨Bm,0,none⟩=some (.map (some b))→W.ownsMap P kt rNil b nn D0→Maps.size D0≤4294967296→
  Calls P f #[.func (.func it) #[] #[.pointer (some ⟨Bm,0,none⟩)]] W fun e w'=>∃ (v:Value) (ss:List (List UInt8)),e=.returned v∧ss.Perm (strKeys D0)∧w'.ownsRow W.heap.size kt 1 v ss.length ((ss.mergeSort (fun x y=>decide (x≤y))).map kS)∧RowKit.Below W.heap.size W w'
theorem Kmp{P:Program}{kt:TypeId}{V:Type}{w:World}{O:Ow}{agg:Bool}{enc:V→List D}{m:List (List UInt8×V)}{b:Nat}(hk:P.underlying kt=some .string)(hm:m.length≤4294967296)(hl:∀ e∈m,e.1.length≤4294967296)
  (h:MapR w O agg (m.map fun e=>(kS e.1,enc e.2)) none b):∃ nn D0,w.ownsMap (H:=Unit) P kt rNil b nn D0∧Maps.size D0≤4294967296∧(strKeys D0).Perm (m.map (·.1)):=by
 obtain⟨ms,clock,es',hb,hp,hpw,-,hsz,hbn,hent⟩:=h
 have hml:(4294967296:Nat)≤maxLen:=by decide
 have hkeys:ms.toList.map (·.key)=es'.map (·.1):=by
  apply List.ext_getElem?
  intro j
  rw[gMp,gMp]
  by_cases hj:j<es'.length
  ·obtain⟨k,hd⟩:∃ e:Value×List D,es'[j]?=some e:=⟨_,gGe hj⟩
   obtain⟨e,h1,h2,_⟩:=hent j k.1 k.2 hd
   have h1':ms.toList[j]?=some e:=by simpa using h1
   rw[h1',hd]
   exact congrArg some h2
  ·rw[List.getElem?_eq_none (by simp;omega),List.getElem?_eq_none (by omega)]
   rfl
 have hlen:es'.length=m.length:=by rw[hp.length_eq,List.length_map]
 have hmem:∀ x∈ms.toList,∃ s:List UInt8,x.key=kS s∧s.length≤4294967296:=fun x hx=>by
  have h1:x.key∈es'.map (·.1):=by rw[←hkeys];exact List.mem_map_of_mem hx
  obtain⟨e,he,h2⟩:=List.mem_map.1 h1
  obtain⟨e0,he0,rfl⟩:=List.mem_map.1 (hp.mem_iff.1 he)
  exact⟨e0.1,h2.symm,hl _ he0⟩
 have hrd:∀ x∈ms.toList,∀ s:List UInt8,x.key=kS s→s.length≤4294967296→WideElems.rd (H:=Unit) P kt rNil x=some (.string s,.nil):=fun x hx s hs hsl=>by
  have:keyOf P kt (kS s)=some (.string (⟨s.toArray⟩:ByteArray).data.toList):=WideMaps.keyOf_string_mk hk (by show s.toArray.size≤maxLen;simp;omega)
  unfold WideElems.rd
  rw[hs,this]
  rfl
 have hD:ms.size≤4294967296:=by omega
 refine⟨ms.size,_,⟨ms,clock,hb,⟨by omega,⟨fun x hx=>?_,?_,?_⟩,fun x hx=>?_⟩,Nat.le_refl _,rfl⟩,?_,?_⟩
 ·obtain⟨i,hi⟩:=List.getElem?_of_mem hx
  exact hbn.2 i x (by simpa using hi)
 ·rw[List.nodup_iff_pairwise_ne,List.pairwise_map]
  refine List.pairwise_iff_getElem.2 fun i j hi hj hij he=>?_
  have h1:ms[i]?=some ms.toList[i]:=by
   have:=gGe hi
   simp
  have h2:ms[j]?=some ms.toList[j]:=by
   have:=gGe hj
   simp
  have:=hbn.1 i j _ _ h1 h2 he
  omega
 ·rw[hkeys,List.nodup_iff_pairwise_ne,List.pairwise_map]
  exact hpw
 ·obtain⟨s,hs,hsl⟩:=hmem x hx
  exact⟨_,hrd x hx s hs hsl⟩
 ·show((ms.toList.map (WideElems.rg P kt rNil)).foldr DataW.insert []).length≤_
  rw[length_sorted,List.length_map]
  simpa using hD
 ·show(((ms.toList.map (WideElems.rg P kt rNil)).foldr DataW.insert []).map fun p=>strOf p.1).Perm _
  refine((WideShapes.sorted_perm _).map _).trans ?_
  rw[List.map_map]
  have e1:ms.toList.map ((fun p:Lit×DataW Unit=>strOf p.1) ∘ WideElems.rg P kt rNil)=(ms.toList.map (·.key)).map fun v=>match v with | .string s=>s.data.toList | _=>[]:=by
   rw[List.map_map]
   refine List.map_congr_left fun x hx=>?_
   obtain⟨s,hs,hsl⟩:=hmem x hx
   show strOf (WideElems.rg P kt rNil x).1=_
   rw[WideElems.rg_of (hrd x hx s hs hsl)]
   show s=(match x.key with | .string s=>s.data.toList | _=>[])
   rw[hs]
  rw[e1,hkeys,List.map_map]
  refine(hp.map _).trans ?_
  rw[List.map_map]
  exact List.Perm.of_eq rfl
theorem EC.sortedKeys{f it:FuncId}{kt mt:TypeId}{V:Type}(agg:Bool)(enc:V→List D){m:List (List UInt8×V)}(hk:P.underlying kt=some .string)(hm:m.length≤4294967296)(hl:∀ e∈m,e.1.length≤4294967296)(h:SortsKeys P f it kt) :
  EC P f [.fn (.func it) [] [.ptr 1 0]] [mOb kS agg enc m,.box mt [.map 0]] fun g hp'=>g=.sl 2 (sortK m).length∧hp'=[mOb kS agg enc m,.box mt [.map 0],.row kt 1 (sortK m).length ((sortK m).flatMap eS)]:=by
 intro Z w M vs hr hsz hvs
 obtain⟨v,rfl⟩:∃ v,vs=#[v]:=by
  have:vs.size=1:=hsz
  exact⟨vs[0],by apply Array.ext;simp[this];intro i h1 h2;simp at h2;subst h2;rfl⟩
 have hv:=hvs 0 _ v rfl rfl
 cases hv with
 | fn l1 l2 h1 h2=>
  rename_i v1 v2
  obtain rfl:v1=#[]:=by simpa using l1
  obtain⟨u,rfl⟩:∃ v,v2=#[v]:=by
   have:v2.size=1:=l2
   exact⟨v2[0],by apply Array.ext;simp[this];intro i h1 h2;simp at h2;subst h2;rfl⟩
  have hu:=h2 0 _ u rfl rfl
  cases hu with
  | ptr hM=>
   rename_i b c
   obtain⟨cs,hb,hcs,hcell⟩:=hr.obj 1 _ _ rfl hM
   obtain⟨x,hx,_,hx2⟩:=hcell 0 _ rfl
   cases hx2 with
   | @map _ b0 c0 hM0=>
    have hmap:=hr.obj 0 _ _ rfl hM0
    obtain⟨nn,D0,hown,hsz0,hperm⟩:=Kmp hk hm hl hmap
    have hbl:b<w.heap.size:=(aEs.1 hb).1
    refine(h w b b0 nn D0 hbl (by simp only[World.cell?,hb];simpa using hx) hown hsz0).mono ?_
    rintro e w' ⟨v,ss,rfl,hss,hrow,hbel⟩
    have e1:ss.mergeSort (fun x y=>decide (x≤y))=sortK m:=mergeSort_of_perm (hss.trans hperm)
    have e2:ss.length=(sortK m).length:=by rw[←e1,List.length_mergeSort]
    rw[e1,e2] at hrow
    have hfl:∀ l:List (List UInt8),l.flatMap eS=l.map fun s=>D.v (kS s):=fun l=>by
     induction l with
     | nil=>rfl
     | cons x l ih=>simp only[List.flatMap_cons,List.map_cons,ih];rfl
    obtain⟨hlen,hrow⟩:=hrow
    have hM3:M.l.length=2:=hr.len
    rcases hrow with⟨rfl,hn⟩ | ⟨g,cap,cur,rfl,hg1,hg2,hg3,hg4,hg5,hg6⟩
    ·have hnil:sortK m=[]:=List.eq_nil_of_length_eq_zero hn
     obtain⟨f1,f2,f3⟩:=Kmm hr hbel (.row kt 1 (sortK m).length ((sortK m).flatMap eS)) none (fun _ _ h=>by cases h) (fun _ _ h=>by cases h) fun O' _=>by rw[hnil];exact⟨rfl,rfl⟩
     refine⟨_,_,_,_,rfl,⟨rfl,rfl⟩,f1,?_,f2,f3⟩
     rw[hn]
     exact .slnil (by show(M.l++[none])[2]?=_;rw[gAr (by omega),hM3];rfl)
    ·have hcurb:g<w'.heap.size:=(aEs.1 hg2).1
     obtain⟨f1,f2,f3⟩:=Kmm hr hbel (.row kt 1 (sortK m).length ((sortK m).flatMap eS)) (some (g,cap)) (fun _ _ h=>by cases h;exact hg1) (fun _ _ h=>by cases h;exact hcurb) fun O' _=>by
      refine⟨by rw[hfl];simp,cur,hg2,hg5,hg3,hg4,fun j d hd=>?_⟩
      rw[hfl,gMp] at hd
      obtain⟨s,hs,rfl⟩:=oMs.1 hd
      refine⟨kS s,?_,.v _ rfl⟩
      have h7:((sortK m).map kS)[j]?=some (kS s):=by rw[gMp,hs];rfl
      rw[←hg6,List.getElem?_take] at h7
      split at h7
      ·simpa using h7
      ·cases h7
     exact⟨_,_,_,_,rfl,⟨rfl,rfl⟩,f1,.sl (b:=g) (c:=cap) (by show(M.l++[some (g,cap)])[2]?=_;rw[gAr (by omega),hM3];rfl) hg3 hg4,f2,f3⟩
def BoxesMap(P:Program)(f it:FuncId)(mt:TypeId):Prop:=
 ∀ (mb:Option Nat) (W:World),Calls P f #[.map mb] W fun e w'=>e=.returned (.func (.func it) #[] #[.pointer (some ⟨W.heap.size,0,none⟩)])∧w'=W.alloc (.cells #[.map mb] mt)
theorem EC.mapKeys{f it:FuncId}{mt:TypeId}{o:Ob}(h:BoxesMap P f it mt):EC P f [.map 0] [o] fun g hp'=>g=.fn (.func it) [] [.ptr 1 0]∧hp'=[o,.box mt [.map 0]]:=by
 intro Z w M vs hr hsz hvs
 obtain⟨v,rfl⟩:∃ v,vs=#[v]:=by
  have:vs.size=1:=hsz
  exact⟨vs[0],by apply Array.ext;simp[this];intro i h1 h2;simp at h2;subst h2;rfl⟩
 have hv:=hvs 0 _ v rfl rfl
 cases hv with
 | @map _ b0 c0 hM0=>
  refine(h _ w).mono ?_
  rintro e w' ⟨rfl,rfl⟩
  have hM1:M.l.length=1:=hr.len
  obtain⟨f1,f2,f3⟩:=Kpx hr (.box mt [.map 0]) #[.map (some b0)] mt 0 fun w' O' hst hh=>⟨_,hh,rfl,fun j g hg=>by
   cases j with
   | zero=>
    cases hg
    exact⟨_,rfl,rfl,.map (c:=c0) (by show(M.l++[_])[0]?=_;rw[gAl (by omega)];exact hM0)⟩
   | succ j=>simp at hg⟩
  refine⟨_,_,_,_,rfl,⟨rfl,rfl⟩,f1,.fn rfl rfl (fun j g v hg=>by simp at hg) (fun j g v hg hv=>?_),f2,f3⟩
  cases j with
  | zero=>
   cases hg
   cases hv
   exact .ptr (c:=0) (by show(M.l++[_])[1]?=_;rw[gAr (by omega),hM1];rfl)
  | succ j=>simp at hg
end
end Go.Gk
